/- FltNew and BitsFlt: impl and spec. -/
import Derived.Test.YtmnlkedacnemcaaGreatDoorTwM14
import Derived.Test.YtmnlkedacnemcaaGreatDoorTwM1
import Derived.Deep.LoopGhost
set_option linter.unusedVariables false
set_option maxRecDepth 100000
set_option linter.unusedSimpArgs false
namespace Go.Proofs.YtmnlkedacnemcaaGreatDoor
open Go.RowKit

/-- Halved till it is odd: at most so many times. -/
def strip : Nat → Int → Int → Int × Int
  | 0, m, e => (m, e)
  | k + 1, m, e => if (m.tmod 2 == 0) = true then strip k (m.tdiv 2) (e + 1) else (m, e)
theorem strip_even {k : Nat} {m e : Int} (h : (m.tmod 2 == 0) = true) : strip (k + 1) m e = strip k (m.tdiv 2) (e + 1) := if_pos h
theorem strip_odd {k : Nat} {m e : Int} (h : (m.tmod 2 == 0) = false) : strip (k + 1) m e = (m, e) := if_neg (by rw [h]; decide)
theorem half_facts {m : Int} {k : Nat} (h : (m.tmod 2 == 0) = true) (h0 : m ≠ 0) (hb : m.natAbs < 2 ^ (k + 1)) : m.tdiv 2 ≠ 0 ∧ (m.tdiv 2).natAbs < 2 ^ k ∧ 1 ≤ k ∧ m = 2 * m.tdiv 2 := by
  rw [beq_iff_eq] at h
  have e : m = 2 * m.tdiv 2 := by have := Int.mul_tdiv_add_tmod m 2; omega
  have hp : 2 ^ (k + 1) = 2 * 2 ^ k := by rw [Nat.pow_succ]; omega
  have h1 : m.tdiv 2 ≠ 0 := by omega
  have h2 : (m.tdiv 2).natAbs < 2 ^ k := by omega
  refine ⟨h1, h2, ?_, e⟩
  rcases Nat.eq_zero_or_pos k with rfl | hk
  · simp at h2; omega
  · exact hk
def fltV (m e : Int) (ok : Bool) : Value := .tuple #[.agg #[.int .i64 m, .int .i64 e], .bool ok]
def fltNewIn (m e : Int) : Value := if m = 0 then fltV 0 0 true else if fltOk (strip 64 m e).1 (strip 64 m e).2 = true then fltV (strip 64 m e).1 (strip 64 m e).2 true else fltV 0 0 false
def fltNewV (m e : Int) : Value := if (-1000000000000000 ≤ m ∧ m ≤ 1000000000000000) ∧ -100 ≤ e ∧ e ≤ 100 then fltNewIn m e else fltV 0 0 false
theorem fltNewV_out {m e : Int} (h : ¬ ((-1000000000000000 ≤ m ∧ m ≤ 1000000000000000) ∧ -100 ≤ e ∧ e ≤ 100)) : fltNewV m e = fltV 0 0 false := if_neg h
theorem fltNewV_zero {e : Int} (h : -100 ≤ e ∧ e ≤ 100) : fltNewV 0 e = fltV 0 0 true := by rw [fltNewV, if_pos ⟨by decide, h⟩]; rfl
theorem fltNewV_yes {m e a b : Int} (h : (-1000000000000000 ≤ m ∧ m ≤ 1000000000000000) ∧ -100 ≤ e ∧ e ≤ 100) (h0 : m ≠ 0) (hs : strip 64 m e = (a, b)) (hk : fltOk a b = true) : fltNewV m e = fltV a b true := by
  rw [fltNewV, if_pos h, fltNewIn, if_neg h0, hs, if_pos hk]
theorem fltNewV_no {m e a b : Int} (h : (-1000000000000000 ≤ m ∧ m ≤ 1000000000000000) ∧ -100 ≤ e ∧ e ≤ 100) (h0 : m ≠ 0) (hs : strip 64 m e = (a, b)) (hk : fltOk a b = false) : fltNewV m e = fltV 0 0 false := by
  rw [fltNewV, if_pos h, fltNewIn, if_neg h0, hs, if_neg (by rw [hk]; decide)]
theorem fltNewV_shape (m e : Int) : ∃ (a b : Int) (ok : Bool), fltNewV m e = fltV a b ok := by
  unfold fltNewV fltNewIn
  (repeat' split) <;> exact ⟨_, _, _, rfl⟩
def bitsFltV (n : Int) : Value := if 0 ≤ n ∧ n ≤ 33554431 then fltNewV (if 16777216 ≤ n then -(n % 65536) else n % 65536) (n / 65536 % 256 - 16) else fltV 0 0 false
theorem bitsFltV_out {n : Int} (h : ¬ (0 ≤ n ∧ n ≤ 33554431)) : bitsFltV n = fltV 0 0 false := if_neg h
theorem bitsFltV_neg {n : Int} (h : 16777216 ≤ n) (h2 : n ≤ 33554431) : bitsFltV n = fltNewV (-(n % 65536)) (n / 65536 % 256 - 16) := by rw [bitsFltV, if_pos ⟨by omega, h2⟩, if_pos h]
theorem bitsFltV_pos {n : Int} (h : 0 ≤ n) (h2 : n < 16777216) : bitsFltV n = fltNewV (n % 65536) (n / 65536 % 256 - 16) := by rw [bitsFltV, if_pos ⟨h, by omega⟩, if_neg (by omega)]
theorem bitsFltV_shape (n : Int) : ∃ (a b : Int) (ok : Bool), bitsFltV n = fltV a b ok := by
  unfold bitsFltV
  split
  · exact fltNewV_shape _ _
  · exact ⟨_, _, _, rfl⟩
end Go.Proofs.YtmnlkedacnemcaaGreatDoor
