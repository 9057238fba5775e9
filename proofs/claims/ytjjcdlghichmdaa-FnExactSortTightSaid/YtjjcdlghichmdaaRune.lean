/- Runes: RuneOk, and the reference's WideOf, PutRune, FromRunes. (Written by wip/gen/rune.py.) -/
import Derived.Test.YtjjcdlghichmdaaHex
set_option linter.unusedVariables false
set_option maxRecDepth 100000
set_option linter.unusedSimpArgs false
namespace Go.Proofs.Ytjjcdlghichmdaa
open Go.RowKit

theorem u8s_of1 {k1 : Int} {m1 : Nat} (e1 : k1 = m1) (h1 : m1 < 256) : [Value.int .u8 k1] = u8s [UInt8.ofNat m1] := by
  subst e1; simp [u8s]; omega
theorem u8s_of2 {k1 k2 : Int} {m1 m2 : Nat} (e1 : k1 = m1) (h1 : m1 < 256) (e2 : k2 = m2) (h2 : m2 < 256) : [Value.int .u8 k1, Value.int .u8 k2] = u8s [UInt8.ofNat m1, UInt8.ofNat m2] := by
  subst e1 e2; simp [u8s]; omega
theorem u8s_of3 {k1 k2 k3 : Int} {m1 m2 m3 : Nat} (e1 : k1 = m1) (h1 : m1 < 256) (e2 : k2 = m2) (h2 : m2 < 256) (e3 : k3 = m3) (h3 : m3 < 256) : [Value.int .u8 k1, Value.int .u8 k2, Value.int .u8 k3] = u8s [UInt8.ofNat m1, UInt8.ofNat m2, UInt8.ofNat m3] := by
  subst e1 e2 e3; simp [u8s]; omega
theorem u8s_of4 {k1 k2 k3 k4 : Int} {m1 m2 m3 m4 : Nat} (e1 : k1 = m1) (h1 : m1 < 256) (e2 : k2 = m2) (h2 : m2 < 256) (e3 : k3 = m3) (h3 : m3 < 256) (e4 : k4 = m4) (h4 : m4 < 256) : [Value.int .u8 k1, Value.int .u8 k2, Value.int .u8 k3, Value.int .u8 k4] = u8s [UInt8.ofNat m1, UInt8.ofNat m2, UInt8.ofNat m3, UInt8.ofNat m4] := by
  subst e1 e2 e3 e4; simp [u8s]; omega
def runeOk (n : Int) : Bool := decide (0 ≤ n ∧ n ≤ 1114111 ∧ ¬ (55296 ≤ n ∧ n ≤ 57343))
def wideOf (n : Int) : Int := if runeOk n = true then (if n < 128 then 1 else if n < 2048 then 2 else if n < 65536 then 3 else 4) else 0
theorem runeOk_yes {n : Int} (h : 0 ≤ n) (h2 : n ≤ 1114111) (h3 : n < 55296 ∨ 57343 < n) : runeOk n = true := decide_eq_true (by omega)
theorem runeOk_iff {n : Int} : runeOk n = true ↔ 0 ≤ n ∧ n ≤ 1114111 ∧ ¬ (55296 ≤ n ∧ n ≤ 57343) := by simp only [runeOk, decide_eq_true_eq]
theorem runeOk_no {n : Int} : runeOk n = false ↔ ¬ (0 ≤ n ∧ n ≤ 1114111 ∧ ¬ (55296 ≤ n ∧ n ≤ 57343)) := by simp only [runeOk, decide_eq_false_iff_not]
/-- A character's bytes. -/
def encL (c : Nat) : List UInt8 :=
  if c < 128 then [UInt8.ofNat c] else if c < 2048 then [UInt8.ofNat (192 + c / 64), UInt8.ofNat (128 + c % 64)]
  else if c < 65536 then [UInt8.ofNat (224 + c / 4096), UInt8.ofNat (128 + c / 64 % 64), UInt8.ofNat (128 + c % 64)]
  else [UInt8.ofNat (240 + c / 262144), UInt8.ofNat (128 + c / 4096 % 64), UInt8.ofNat (128 + c / 64 % 64), UInt8.ofNat (128 + c % 64)]
def encR (n : Int) : List UInt8 := if runeOk n = true then encL n.toNat else []
theorem encL_len (c : Nat) : (encL c).length ≤ 4 := by unfold encL; (repeat' split) <;> simp
theorem encR_len (n : Int) : (encR n).length ≤ 4 := by
  unfold encR
  split
  · exact encL_len _
  · simp
theorem encode_ok {n : Int} (h : runeOk n = true) : Utf8.encode n = ⟨(encL n.toNat).toArray⟩ := by
  rw [runeOk_iff] at h
  have hv : Utf8.valid n = true := by simp [Utf8.valid]; omega
  unfold Utf8.encode encL
  simp only [hv, if_true]
  (repeat' split) <;> first | rfl | omega
end Go.Proofs.Ytjjcdlghichmdaa
