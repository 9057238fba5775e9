/- Quote, Bare. -/
import Derived.Test.YtihhedmehlemmaaMkTextOk
import Derived.Test.YtihhedmehlemmaaMkM14
import Derived.Lib.OthersKept
import Derived.Lib.TrimUEq
import Derived.WalkSmall
import Derived.Shelf.Unicode.DecodeSlow
import Derived.Laws.RangeAny
set_option linter.unusedVariables false
set_option maxRecDepth 100000
set_option linter.unusedSimpArgs false
namespace Go.Proofs.Ytihhedmehlemmaa
open Go.RowKit

def escs (l : List Int) : List UInt8 := l.flatMap escL
theorem escs_len (l : List Int) : (escs l).length ≤ 8 * l.length := by
  induction l with
  | nil => simp [escs]
  | cons a l ih => have := escL_len a; simp only [escs, List.flatMap_cons, List.length_append, List.length_cons] at ih ⊢; omega
theorem escs_snoc (l : List Int) (x : Int) : escs (l ++ [x]) = escs l ++ escL x := by simp [escs, List.flatMap_append]
/-- A text in quotes; no text: nothing. -/
def quoteL (l : List UInt8) : List UInt8 := if Lib.validD l = true then 34 :: (escs (runesL l) ++ [34]) else []
theorem quoteL_no {l : List UInt8} (h : Lib.validD l = false) : quoteL l = [] := by simp [quoteL, h]
theorem quoteL_yes {l : List UInt8} (h : Lib.validD l = true) : quoteL l = 34 :: (escs (runesL l) ++ [34]) := by simp [quoteL, h]
theorem quoteL_len (l : List UInt8) : (quoteL l).length ≤ 8 * l.length + 2 := by
  have h1 := escs_len (runesL l)
  have h2 := runesL_len l
  unfold quoteL
  split <;> simp <;> omega
theorem ba_add (a b : List UInt8) : (⟨a.toArray⟩ : ByteArray) ++ (⟨b.toArray⟩ : ByteArray) = ⟨(a ++ b).toArray⟩ := by
  apply ByteArray.ext
  simp
theorem ba_sz (a : List UInt8) : (⟨a.toArray⟩ : ByteArray).size = a.length := by show a.toArray.size = _; simp
theorem quoted_eq (s : ByteArray) : ({ data := #[34] } ++ s ++ { data := #[34] } : ByteArray).toList = 34 :: (s.data.toList ++ [34]) := by rw [ByteArray.toList_eq]; simp
/-- Nothing is escaped. -/
def bareL (l : List UInt8) : Bool := Lib.validD l && (quoteL l == 34 :: (l ++ [34]))
end Go.Proofs.Ytihhedmehlemmaa
