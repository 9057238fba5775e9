/- MarkOk: impl and spec. (Written by wip/gen/mark.py.) -/
import Derived.Test.YtmelnaidjgpclaaDoorFltNew
import Derived.Deep.RegionHeld3
set_option linter.unusedVariables false
set_option maxRecDepth 100000
set_option linter.unusedSimpArgs false
namespace Go.Proofs.YtmelnaidjgpclaaDoor
open Go.RowKit

/-- What BitsFlt hands back, as data. -/
def fltOf : Value → Int × Int × Bool
  | .tuple #[.agg #[.int _ a, .int _ b], .bool ok] => (a, b, ok)
  | _ => (0, 0, false)
theorem fltOf_fltV (a b : Int) (ok : Bool) : fltOf (fltV a b ok) = (a, b, ok) := rfl
def markFlt (n : Int) : Bool := (fltOf (bitsFltV n)).2.2 && decide (fltBits (fltOf (bitsFltV n)).1 (fltOf (bitsFltV n)).2.1 = n)
theorem markFlt_no {n a b : Int} (h : bitsFltV n = fltV a b false) : markFlt n = false := by unfold markFlt; rw [h, fltOf_fltV]; rfl
theorem markFlt_yes {n a b : Int} (h : bitsFltV n = fltV a b true) : markFlt n = decide (fltBits a b = n) := by unfold markFlt; rw [h, fltOf_fltV]; rfl
def markOk (k n : Int) : Bool :=
  if k = 1 then decide (n = 0) else if k = 2 then decide (n = 0 ∨ n = 1) else if k = 3 then inR n (-1000000000000000) 1000000000000000
  else if k = 4 then markFlt n else if k = 5 then inR n 0 2 else if 7 ≤ k ∧ k ≤ 10 then inR n 0 65535 else false
/-- What BitsFlt hands back fits an int. -/
theorem strip_bd : ∀ (k : Nat) (m e : Int), e ≤ (strip k m e).2 ∧ (strip k m e).2 ≤ e + k
  | 0, m, e => by simp [strip]
  | k + 1, m, e => by
    have ih := strip_bd k (m.tdiv 2) (e + 1)
    unfold strip
    split
    · omega
    · simp; omega
theorem fltNew_e (m e : Int) : (fltOf (fltNewV m e)).2.1 = 0 ∨ (e ≤ (fltOf (fltNewV m e)).2.1 ∧ (fltOf (fltNewV m e)).2.1 ≤ e + 64) := by
  unfold fltNewV fltNewIn
  split
  · split
    · exact Or.inl rfl
    · split
      · exact Or.inr (strip_bd 64 m e)
      · exact Or.inl rfl
  · exact Or.inl rfl
theorem bitsFlt_e {n a b : Int} {ok : Bool} (h : bitsFltV n = fltV a b ok) : b ≤ 9223372036854775807 := by
  have hx : (fltOf (bitsFltV n)).2.1 = b := by rw [h]; rfl
  unfold bitsFltV at hx
  split at hx
  · have := fltNew_e (if 16777216 ≤ n then -(n % 65536) else n % 65536) (n / 65536 % 256 - 16)
    rw [hx] at this
    omega
  · have : (0 : Int) = b := hx
    omega
/-- Three cells and the frame, carried over a call that makes memory. -/
theorem three_next {w w1 w' w2 : World} {a b n : Value} (hb : Below w'.heap.size w' w2) (h : w'.cell? ⟨w1.heap.size, 0, none⟩ = some a ∧ w'.cell? ⟨w1.heap.size, 1, none⟩ = some b ∧ w'.cell? ⟨w.heap.size, 1, none⟩ = some n ∧ Below w.heap.size w w') :
    w2.cell? ⟨w1.heap.size, 0, none⟩ = some a ∧ w2.cell? ⟨w1.heap.size, 1, none⟩ = some b ∧ w2.cell? ⟨w.heap.size, 1, none⟩ = some n ∧ Below w.heap.size w w2 := by
  obtain ⟨h1, h2, h3, h4⟩ := h
  have l1 : w1.heap.size < w'.heap.size := World.block_lt_of_cell? w' ⟨w1.heap.size, 0, none⟩ h1
  have l2 : w.heap.size < w'.heap.size := World.block_lt_of_cell? w' ⟨w.heap.size, 1, none⟩ h3
  exact ⟨(hb.cell (p := ⟨w1.heap.size, 0, none⟩) l1).trans h1, (hb.cell (p := ⟨w1.heap.size, 1, none⟩) l1).trans h2, (hb.cell (p := ⟨w.heap.size, 1, none⟩) l2).trans h3, h4.up hb⟩
theorem markOk_other {k n : Int} (h1 : k ≠ 1) (h2 : k ≠ 2) (h3 : k ≠ 3) (h4 : k ≠ 4) (h5 : k ≠ 5) (h : ¬ (7 ≤ k ∧ k ≤ 10)) : false = markOk k n := by
  unfold markOk; rw [if_neg h1, if_neg h2, if_neg h3, if_neg h4, if_neg h5, if_neg h]
end Go.Proofs.YtmelnaidjgpclaaDoor
