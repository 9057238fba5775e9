/- GetPacked: what is read of bytes, plain. -/
import Derived.Test.YtmelnaidjgpclaaDoorGetMarkW
import Derived.Test.YtmelnaidjgpclaaDoorRowVal
import Derived.Test.YtmelnaidjgpclaaDoorTextOk
set_option linter.unusedVariables false
set_option maxRecDepth 100000
set_option linter.unusedSimpArgs false
namespace Go.Proofs.YtmelnaidjgpclaaDoor
open Go.RowKit

def leafTr (k n x : Int) (s : ByteArray) : Tr := ⟨k, n, x, s, []⟩
def zeroT : Tr := leafTr 0 0 0 ⟨#[]⟩
/-- What is read: a tree and the place behind it, or a code. -/
inductive Rd where
  | good (t : Tr) (at_ : Nat)
  | bad (c : Int)
inductive RdL where
  | good (l : List Tr) (at_ : Nat)
  | bad (c : Int)
def Rd.ok (R : Rd) (t : Tr) (p' : Nat) (k' : Int) : Prop := match R with
  | .good t0 q => t = t0 ∧ p' = q ∧ k' = 0
  | .bad c => k' = c ∧ c ≠ 0
def RdL.ok (R : RdL) (m : List Tr) (p' : Nat) (k' : Int) : Prop := match R with
  | .good m0 q => m = m0 ∧ p' = q ∧ k' = 0
  | .bad c => k' = c ∧ c ≠ 0
def resR (R : Rd) : Tr × Int := match R with
  | .good t _ => (t, 0)
  | .bad c => (zeroT, c)
def cutS (b : List UInt8) (q n : Nat) : ByteArray := ⟨(part b q n).toArray⟩
/-- A value without elements, whose mark ends at q. -/
noncomputable def pkLeaf (b : List UInt8) (k n : Int) (q : Nat) : Rd :=
  if k = 4 then .good (leafTr 4 (fltOf (bitsFltV n)).1 (fltOf (bitsFltV n)).2.1 ⟨#[]⟩) q
  else if k = 7 ∨ k = 8 then
    (if b.length < q + n.toNat then .bad 1
     else if k = 7 ∧ Lib.validD (part b q n.toNat) = false then .bad 1
     else .good (leafTr k 0 0 (cutS b q n.toNat)) (q + n.toNat))
  else .good (leafTr k n 0 ⟨#[]⟩) q
def manyN (k n : Int) : Nat := if k = 10 then (2 * n).toNat else n.toNat
mutual
noncomputable def kV (b : List UInt8) : Nat → Int → Int → Rd
  | 0, _, _ => .bad 1
  | f + 1, d, i =>
    if d < 1 then .bad 2
    else if (getMark b i).2.2.2 ≠ 0 then .bad (getMark b i).2.2.2
    else if (getMark b i).1 = 9 ∨ (getMark b i).1 = 10 then
      (match kM b f d (manyN (getMark b i).1 (getMark b i).2.1) (getMark b i).2.2.1.toNat [] with
       | .bad c => .bad c
       | .good m q => .good ⟨(getMark b i).1, 0, 0, ⟨#[]⟩, m⟩ q)
    else pkLeaf b (getMark b i).1 (getMark b i).2.1 (getMark b i).2.2.1.toNat
noncomputable def kM (b : List UInt8) : Nat → Int → Nat → Nat → List Tr → RdL
  | 0, _, _, _, _ => .bad 1
  | _ + 1, _, 0, q, acc => .good acc q
  | f + 1, d, m + 1, q, acc => match kV b f (d - 1) q with
    | .bad c => .bad c
    | .good v q' => kM b f d m q' (acc ++ [v])
end
/-- The tree at i. -/
noncomputable def packR (b : List UInt8) (i d : Int) : Rd := kV b (2 * b.length + 3) d i
theorem shortM_good {c : Nat} (h : (shortM c).2.2 = true) : (1 ≤ (shortM c).1 ∧ (shortM c).1 ≤ 10 ∧ (shortM c).1 ≠ 4) ∧ -32 ≤ (shortM c).2.1 ∧ (c < 256 → (shortM c).2.1 ≤ 127) ∧ (7 ≤ (shortM c).1 → 0 ≤ (shortM c).2.1 ∧ (shortM c).2.1 ≤ 127) := by
  unfold shortM at h ⊢
  (repeat' split) <;> simp_all <;> omega
theorem formM_good (c : Nat) : (0 ≤ (formM c).1 ∧ (formM c).1 ≤ 10) ∧ ((formM c).1 = 5 → (formM c).2 = 2) ∧ ((formM c).1 = 4 → (formM c).2 = 4) := by
  unfold formM
  (repeat' split) <;> simp
theorem sgnIn {x : Int} (h : inR x (-1000000000000000) 1000000000000000 = true) : -1000000000000000 ≤ x ∧ x ≤ 1000000000000000 := by
  unfold inR at h; simpa using h
/-- What a mark that is good says. -/
theorem getMark_good {b : List UInt8} {i k n q : Int} (h : getMark b i = (k, n, q, 0)) :
    0 ≤ i ∧ i < q ∧ q ≤ b.length ∧ (1 ≤ k ∧ k ≤ 10) ∧ (-1000000000000000 ≤ n ∧ n ≤ 1000000000000000 ∨ k = 4) ∧ (7 ≤ k → 0 ≤ n ∧ n ≤ 65535) := by
  unfold getMark at h
  split at h
  rotate_left
  · simp at h
  rename_i hi
  obtain ⟨j, rfl⟩ := Int.eq_ofNat_of_zero_le hi.1
  have hj : j < b.length := by omega
  simp only [Int.toNat_natCast] at h
  have hk := ((b[j]?).getD 0).toNat_lt
  generalize ((b[j]?).getD 0).toNat = c at h hk
  unfold getMarkB at h
  split at h
  · rename_i hs
    have hg := shortM_good hs
    simp only [Prod.mk.injEq] at h
    obtain ⟨h1, h2, h3, _⟩ := h
    rw [h1, h2] at hg
    have := hg.2.2.1 hk
    refine ⟨by omega, by omega, by omega, ⟨by omega, by omega⟩, .inl ⟨by omega, by omega⟩, fun h7 => by have := hg.2.2.2 h7; omega⟩
  split at h
  · simp at h
  rename_i hf
  have hF := formM_good c
  have hl : j + 1 + (formM c).2.toNat ≤ b.length := by omega
  split at h
  · split at h
    · rename_i hr
      have hr := sgnIn hr
      simp only [Prod.mk.injEq] at h
      obtain ⟨rfl, h2, h3, _⟩ := h
      rw [h2] at hr
      exact ⟨by omega, by omega, by omega, ⟨by omega, by omega⟩, .inl hr, fun h7 => by omega⟩
    · simp at h
  split at h
  · split at h
    · rename_i hr
      simp only [Prod.mk.injEq] at h
      obtain ⟨rfl, h2, h3, _⟩ := h
      exact ⟨by omega, by omega, by omega, ⟨by omega, by omega⟩, .inl ⟨by omega, by omega⟩, fun h7 => by omega⟩
    · simp at h
  split at h
  · rename_i h5
    have := hF.2.1 h5
    split at h
    · rename_i hr
      simp only [Prod.mk.injEq] at h
      obtain ⟨rfl, h2, h3, _⟩ := h
      exact ⟨by omega, by omega, by omega, ⟨by omega, by omega⟩, .inl ⟨by omega, by omega⟩, fun h7 => by omega⟩
    · simp at h
  split at h
  · rename_i h4
    have := hF.2.2 h4
    split at h
    · simp only [Prod.mk.injEq] at h
      obtain ⟨rfl, h2, h3, _⟩ := h
      exact ⟨by omega, by omega, by omega, ⟨by omega, by omega⟩, .inr rfl, fun h7 => by omega⟩
    · simp at h
  split at h
  · rename_i hr
    simp only [Prod.mk.injEq] at h
    obtain ⟨h1, h2, h3, _⟩ := h
    exact ⟨by omega, by omega, by omega, ⟨by omega, by omega⟩, .inl ⟨by omega, by omega⟩, fun h7 => by omega⟩
  · simp at h
end Go.Proofs.YtmelnaidjgpclaaDoor
