/- impl.Skip and spec.Skip: the first offset without a blank. -/
import Derived.Test.YticejlknbfhndaaDoorMem
import Derived.Test.YticejlknbfhndaaDoorShelf
set_option linter.unusedVariables false
set_option maxRecDepth 100000
set_option linter.unusedSimpArgs false
namespace Go.Proofs.YticejlknbfhndaaDoor
open Go.RowKit

def isBlank (c : UInt8) : Bool := c == 9 || c == 10 || c == 13 || c == 32
/-- How many blanks stand at the head. -/
def lead : List UInt8 → Nat
  | [] => 0
  | c :: l => if isBlank c then lead l + 1 else 0
def skipN (l : List UInt8) (k : Nat) : Nat := k + lead (l.drop k)
theorem skipN_out {l : List UInt8} {k : Nat} (h : l.length ≤ k) : skipN l k = k := by
  simp [skipN, List.drop_eq_nil_of_le h, lead]
theorem skipN_in {l : List UInt8} {k : Nat} (h : k < l.length) : skipN l k = if isBlank l[k] then skipN l (k + 1) else k := by
  unfold skipN
  rw [List.drop_eq_getElem_cons h, lead]
  split <;> omega
theorem lead_le (l : List UInt8) : lead l ≤ l.length := by
  induction l with
  | nil => simp [lead]
  | cons c l ih => simp only [lead, List.length_cons]; split <;> omega
theorem skipN_le {l : List UInt8} {k : Nat} (h : k ≤ l.length) : skipN l k ≤ l.length := by
  have := lead_le (l.drop k); unfold skipN; simp at this; omega
def skipI (l : List UInt8) (at_ : Int) : Int := if at_ < 0 then at_ else skipN l at_.toNat

theorem isBlank_iff (c : UInt8) : isBlank c = true ↔ (c.toNat : Int) = 9 ∨ (c.toNat : Int) = 10 ∨ (c.toNat : Int) = 13 ∨ (c.toNat : Int) = 32 := by
  simp only [isBlank, Bool.or_eq_true, beq_iff_eq, ← UInt8.toNat_inj]; simp; omega
theorem getElem_data (s : ByteArray) (k : Nat) (h : k < s.size) (h' : k < s.data.toList.length) : s.data.toList[k] = s[k] := by simp; rfl
theorem skip_yes {s : ByteArray} {k : Nat} (h : k < s.size) (hb : isBlank s[k] = true) : skipN s.data.toList k = skipN s.data.toList (k + 1) := by
  rw [skipN_in (by simpa using h), getElem_data s k h, if_pos hb]
theorem skip_no {s : ByteArray} {k : Nat} (h : k < s.size) (hb : ¬ isBlank s[k] = true) : skipN s.data.toList k = k := by
  rw [skipN_in (by simpa using h), getElem_data s k h, if_neg hb]


end Go.Proofs.YticejlknbfhndaaDoor
