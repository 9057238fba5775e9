/- ReadToken: plain, for both sides. Written by gen/readtok.py. -/
import Derived.Test.YtgddnpglgakkdaaGreatDoorTokP

import Derived.Deep.LoopGhost
set_option linter.unusedVariables false
set_option maxRecDepth 100000
set_option linter.unusedSimpArgs false
namespace Go.Proofs.YtgddnpglgakkdaaGreatDoor
open Go.RowKit

/-- What is left of the words at the j-th. -/
def wordG (l : List UInt8) (p : Nat) : Nat → TkR
  | 0 => wordP l p
  | 1 => if Lib.hasPrefix (l.drop p) wTrue = true then (⟨4, ⟨wTrue.toArray⟩, 0, 0⟩, (p : Int) + 4, 0) else if Lib.hasPrefix (l.drop p) wFalse = true then (⟨4, ⟨wFalse.toArray⟩, 0, 0⟩, (p : Int) + 5, 0) else (noTk, 0, 1)
  | 2 => if Lib.hasPrefix (l.drop p) wFalse = true then (⟨4, ⟨wFalse.toArray⟩, 0, 0⟩, (p : Int) + 5, 0) else (noTk, 0, 1)
  | _ => (noTk, 0, 1)
def wordOf : Nat → List UInt8
  | 0 => wNull
  | 1 => wTrue
  | _ => wFalse
theorem wordG_yes {l : List UInt8} {p : Nat} : ∀ {j : Nat}, j < 3 → Lib.hasPrefix (l.drop p) (wordOf j) = true → wordG l p j = (⟨4, ⟨(wordOf j).toArray⟩, 0, 0⟩, (p : Int) + (wordOf j).length, 0)
  | 0, _, h => if_pos h
  | 1, _, h => if_pos h
  | 2, _, h => if_pos h
  | j + 3, h0, _ => by omega
theorem wordG_no {l : List UInt8} {p : Nat} : ∀ {j : Nat}, j < 3 → Lib.hasPrefix (l.drop p) (wordOf j) = false → wordG l p j = wordG l p (j + 1)
  | 0, _, h => if_neg (by rw [show Lib.hasPrefix (l.drop p) wNull = false from h]; decide)
  | 1, _, h => if_neg (by rw [show Lib.hasPrefix (l.drop p) wTrue = false from h]; decide)
  | 2, _, h => if_neg (by rw [show Lib.hasPrefix (l.drop p) wFalse = false from h]; decide)
  | j + 3, h0, _ => by omega
theorem Blk.tokQ {w : World} {g : Nat} {t : TypeId} {y0 y1 y2 y3 : Value} (h : Blk w g t #[y0, y1, y2, y3]) (a b c d : Value) : Blk ((((w.setCell ⟨g, 0, none⟩ a).setCell ⟨g, 1, none⟩ b).setCell ⟨g, 2, none⟩ c).setCell ⟨g, 3, none⟩ d) g t #[a, b, c, d] := by
  simpa using (((h.set_ 0 a).set_ 1 b).set_ 2 c).set_ 3 d
theorem below_set4 {w w' : World} {g : Nat} (K : Below w.heap.size w w') (hg : w.heap.size ≤ g) (a b c d : Value) : Below w.heap.size w ((((w'.setCell ⟨g, 0, none⟩ a).setCell ⟨g, 1, none⟩ b).setCell ⟨g, 2, none⟩ c).setCell ⟨g, 3, none⟩ d) :=
  (((K.setCell (p := ⟨g, 0, none⟩) hg a).setCell (p := ⟨g, 1, none⟩) hg b).setCell (p := ⟨g, 2, none⟩) hg c).setCell (p := ⟨g, 3, none⟩) hg d
theorem retT_eq {t t' : Tk} {q q' c c' : Int} (h1 : t = t') (h2 : q = q') (h3 : c = c') : Ending.returned (.tuple #[.agg #[.int .i64 t.k, .string t.s, .int .i64 t.n, .int .i64 t.x], .int .i64 q, .int .i64 c]) = retT (t', q', c') := by subst h1 h2 h3; rfl
theorem extract_one (s : ByteArray) (q : Nat) (h : q < s.size) : s.extract q (q + 1) = ⟨#[s[q]]⟩ := by
  rw [extractL, show q + 1 - q = 1 by omega, List.drop_eq_getElem_cons (by rw [blen_of]; exact h), getElem_data s q h]
  rfl
theorem skip_in {l : List UInt8} {p : Nat} (h : p ≤ l.length) : tokP l (p : Int) = tokQ l (skipN l p) := by
  unfold tokP; rw [if_neg (by omega), Int.toNat_natCast]
theorem tokQ_end {l : List UInt8} {p : Nat} (h : l.length ≤ p) : tokQ l p = (noTk, (p : Int), 0) := by unfold tokQ; rw [if_pos h]
theorem tokQ_sign {l : List UInt8} {p : Nat} (h : p < l.length) (h2 : isSign (l.getD p 0) = true) : tokQ l p = (⟨1, ⟨#[l.getD p 0]⟩, 0, 0⟩, (p : Int) + 1, 0) := by
  unfold tokQ; rw [if_neg (by omega), if_pos h2]
theorem sign_no {l : List UInt8} {p : Nat} (h2 : isSign (l.getD p 0) = false) : ¬ isSign (l.getD p 0) = true := by rw [h2]; decide
theorem tokQ_quo {l : List UInt8} {p : Nat} (h : p < l.length) (h2 : isSign (l.getD p 0) = false) (h3 : l.getD p 0 = 34) : tokQ l p = quoP (quotedL l p) := by
  unfold tokQ; rw [if_neg (by omega), if_neg (sign_no h2), if_pos h3]
theorem tokQ_num {l : List UInt8} {p : Nat} (h : p < l.length) (h2 : isSign (l.getD p 0) = false) (h3 : ¬ l.getD p 0 = 34) (h4 : l.getD p 0 = 45 ∨ isDg (l.getD p 0) = true) : tokQ l p = numT (numbP l p) := by
  unfold tokQ; rw [if_neg (by omega), if_neg (sign_no h2), if_neg h3, if_pos h4]
theorem tokQ_word {l : List UInt8} {p : Nat} (h : p < l.length) (h2 : isSign (l.getD p 0) = false) (h3 : ¬ l.getD p 0 = 34) (h4 : ¬ l.getD p 0 = 45) (h5 : isDg (l.getD p 0) = false) : tokQ l p = wordP l p := by
  unfold tokQ; rw [if_neg (by omega), if_neg (sign_no h2), if_neg h3, if_neg (fun h => by rcases h with h | h; exact h4 h; rw [h5] at h; cases h)]
theorem ba_dataW (W : List UInt8) : (⟨W.toArray⟩ : ByteArray).data.toList = W := by simp
end Go.Proofs.YtgddnpglgakkdaaGreatDoor
