/- Numbers of several bytes: GetBig. -/
import Derived.Test.YtpafgmlkbbbmhaaDoorPqM24
import Derived.Test.YtpafgmlkbbbmhaaDoorPqM4
import Derived.Laws.BitsAllLaws
set_option linter.unusedVariables false
set_option maxRecDepth 100000
set_option linter.unusedSimpArgs false
namespace Go.Proofs.YtpafgmlkbbbmhaaDoor
open Go.RowKit

def bigN (l : List UInt8) : Nat := l.foldl (fun a c => 256 * a + c.toNat) 0
theorem bigN_snoc (l : List UInt8) (c : UInt8) : bigN (l ++ [c]) = 256 * bigN l + c.toNat := by simp [bigN, List.foldl_append]
theorem bigN_lt (l : List UInt8) : bigN l < 256 ^ l.length := by
  have h : ∀ (l : List UInt8) (a m : Nat), a < 256 ^ m → l.foldl (fun a c => 256 * a + c.toNat) a < 256 ^ (m + l.length) := by
    intro l
    induction l with
    | nil => intro a m h; simpa using h
    | cons c l ih =>
      intro a m h
      have hc := c.toNat_lt
      have := ih (256 * a + c.toNat) (m + 1) (by rw [Nat.pow_succ]; omega)
      rw [List.foldl_cons, List.length_cons, show m + (l.length + 1) = m + 1 + l.length by omega]
      exact this
  have := h l 0 0 (by decide)
  rw [Nat.zero_add] at this
  exact this
/-- The bytes from 'at' on, k of them. -/
def part (b : List UInt8) (i k : Nat) : List UInt8 := (b.drop i).take k
theorem part_succ {b : List UInt8} {i k : Nat} (h : i + k < b.length) : part b i (k + 1) = part b i k ++ [b[i + k]] := by
  unfold part
  rw [List.take_succ_eq_append_getElem (by simp; omega), List.getElem_drop]
theorem part_len {b : List UInt8} {i k : Nat} (h : i + k ≤ b.length) : (part b i k).length = k := by
  unfold part; simp; omega
theorem bigN_mono {b : List UInt8} {i : Nat} : ∀ k m, i + k + m ≤ b.length → bigN (part b i k) ≤ bigN (part b i (k + m)) := by
  intro k m
  induction m with
  | zero => intro _; exact Nat.le_refl _
  | succ m ih =>
    intro h
    have := ih (by omega)
    rw [show k + (m + 1) = k + m + 1 by omega, part_succ (by omega), bigN_snoc]
    omega
def bigOk (b : List UInt8) (i w : Int) : Bool := isW w && decide (0 ≤ i ∧ i ≤ b.length - w)
def getBig (b : List UInt8) (i w : Int) : Int × Bool :=
  if bigOk b i w = true ∧ bigN (part b i.toNat w.toNat) ≤ 1000000000000000 then ((bigN (part b i.toNat w.toNat) : Int), true) else (0, false)
theorem getBig_no {b : List UInt8} {i w : Int} (h : bigOk b i w = false) : getBig b i w = (0, false) := by simp [getBig, h]
theorem getBig_big {b : List UInt8} {i w : Int} (h : ¬ bigN (part b i.toNat w.toNat) ≤ 1000000000000000) : getBig b i w = (0, false) := by simp [getBig, h]
theorem getBig_yes {b : List UInt8} {i w : Int} (h : bigOk b i w = true) (h2 : bigN (part b i.toNat w.toNat) ≤ 1000000000000000) : getBig b i w = ((bigN (part b i.toNat w.toNat) : Int), true) := by simp [getBig, h, h2]
theorem or_byte (n : Nat) (c : UInt8) (h : n < 72057594037927936) : bits .or .u64 (IntKind.u64.wrap ((n : Int) * 256)) (c.toNat : Int) = ((256 * n + c.toNat : Nat) : Int) := by
  have hc := c.toNat_lt
  rw [IntKind.wrap_u64, show ((n : Int) * 256) % 18446744073709551616 = ((256 * n : Nat) : Int) by omega, u64_or_nat _ _ (by omega) (by omega), ← Nat.two_pow_add_eq_or_of_lt (i := 8) (by omega) n]
/-- n as w bytes, the highest first. -/
def beI (w : Nat) (n : Int) : List UInt8 := (List.range w).map fun j => UInt8.ofNat (n / 2 ^ (8 * (w - 1 - j)) % 256).toNat
theorem beI_len (w : Nat) (n : Int) : (beI w n).length = w := by simp [beI]
theorem beI_get (w : Nat) (n : Int) (j : Nat) (h : j < w) : (beI w n)[j]'(by rw [beI_len]; exact h) = UInt8.ofNat (n / 2 ^ (8 * (w - 1 - j)) % 256).toNat := by simp [beI]
theorem beI_step (w : Nat) (n : Int) (j : Nat) (h : j < w) : (beI w n).take (j + 1) = (beI w n).take j ++ [UInt8.ofNat (n / 2 ^ (8 * (w - 1 - j)) % 256).toNat] := by
  rw [List.take_succ_eq_append_getElem (by rw [beI_len]; exact h), beI_get w n j h]
def putBig (n w : Int) : List UInt8 := if isW w = true ∧ fitsB n w = true then beI w.toNat n else []
theorem putBig_no {n w : Int} (h : isW w = false ∨ fitsB n w = false) : putBig n w = [] := by
  unfold putBig; rw [if_neg]; rintro ⟨h1, h2⟩; rw [h1, h2] at h; simp at h
theorem putBig_yes {n : Int} {v : Nat} (h1 : isW v = true) (h2 : fitsB n v = true) : putBig n v = beI v n := by
  unfold putBig; rw [if_pos ⟨h1, h2⟩]; rfl
theorem shift_no {n : Int} {v : Nat} (h0 : 0 ≤ n) (h1 : isW v = true) (h8 : v < 8) (hf : fitsB n v = false) : (n / 2 ^ (8 * v) != 0) = true := by
  have hv : v = 1 ∨ v = 2 ∨ v = 4 := by have := of_decide_eq_true (show decide ((v : Int) = 1 ∨ (v : Int) = 2 ∨ (v : Int) = 4 ∨ (v : Int) = 8) = true from h1); omega
  have hf := decide_eq_false_iff_not.1 hf
  rcases hv with rfl | rfl | rfl <;> simp <;> omega
theorem shift_yes {n : Int} {v : Nat} (h1 : isW v = true) (h8 : v < 8) (hf : fitsB n v = true) : (n / 2 ^ (8 * v) != 0) = false := by
  have hv : v = 1 ∨ v = 2 ∨ v = 4 := by have := of_decide_eq_true (show decide ((v : Int) = 1 ∨ (v : Int) = 2 ∨ (v : Int) = 4 ∨ (v : Int) = 8) = true from h1); omega
  have hf := of_decide_eq_true (show decide (0 ≤ n ∧ ((v : Int) = 8 ∨ ((v : Int) = 4 ∧ n < 4294967296) ∨ ((v : Int) = 2 ∧ n < 65536) ∨ ((v : Int) = 1 ∧ n < 256))) = true from hf)
  rcases hv with rfl | rfl | rfl <;> simp <;> omega
theorem i64_and255 (n : Int) : bits .and .i64 n 255 = n % 256 := by
  have h255 : (BitVec.ofInt 64 255).toNat = 2 ^ 8 - 1 := by decide
  have key : (BitVec.ofInt 64 n &&& BitVec.ofInt 64 255).toNat = (n % ((2 ^ 64 : Nat) : Int)).toNat % 2 ^ 8 := by
    rw [BitVec.toNat_and, BitVec.toNat_ofInt, h255, Nat.and_two_pow_sub_one_eq_mod]
  show IntKind.i64.wrap ((BitVec.ofInt 64 n &&& BitVec.ofInt 64 255).toNat : Nat) = n % 256
  rw [key, IntKind.wrap_i64]
  omega
end Go.Proofs.YtpafgmlkbbbmhaaDoor
