/- impl.Skip and spec.Skip: the first offset without a blank. EscapeOf. Quote, Bare. -/
import Derived.Test.YtmnlkedacnemcaaGreatDoorTwM1
import Derived.Test.YtmnlkedacnemcaaGreatDoorShelf
import Derived.Test.YtmnlkedacnemcaaGreatDoorTwM3
import Derived.Test.YtmnlkedacnemcaaGreatDoorTwTextOk
import Derived.Lib.OthersKept
import Derived.Lib.TrimUEq
import Derived.WalkSmall
import Derived.Shelf.Unicode.DecodeSlow
import Derived.Laws.RangeAny
set_option linter.unusedVariables false
set_option maxRecDepth 100000
set_option linter.unusedSimpArgs false
namespace Go.Proofs.YtmnlkedacnemcaaGreatDoor
open Go.RowKit

def isBlank (c : UInt8) : Bool := c == 9 || c == 10 || c == 13 || c == 32
/-- How many blanks stand at the head. -/
def lead : List UInt8 → Nat
  | [] => 0
  | c :: l => if isBlank c then lead l + 1 else 0
def skipN (l : List UInt8) (k : Nat) : Nat := k + lead (l.drop k)
theorem skipN_out {l : List UInt8} {k : Nat} (h : l.length ≤ k) : skipN l k = k := by
  simp [skipN, List.drop_eq_nil_of_le h, lead]
theorem skipN_in {l : List UInt8} {k : Nat} (h : k < l.length) : skipN l k = if isBlank l[k] then skipN l (k + 1) else k := by
  unfold skipN
  rw [List.drop_eq_getElem_cons h, lead]
  split <;> omega
theorem lead_le (l : List UInt8) : lead l ≤ l.length := by
  induction l with
  | nil => simp [lead]
  | cons c l ih => simp only [lead, List.length_cons]; split <;> omega
theorem skipN_le {l : List UInt8} {k : Nat} (h : k ≤ l.length) : skipN l k ≤ l.length := by
  have := lead_le (l.drop k); unfold skipN; simp at this; omega
def skipI (l : List UInt8) (at_ : Int) : Int := if at_ < 0 then at_ else skipN l at_.toNat

theorem isBlank_iff (c : UInt8) : isBlank c = true ↔ (c.toNat : Int) = 9 ∨ (c.toNat : Int) = 10 ∨ (c.toNat : Int) = 13 ∨ (c.toNat : Int) = 32 := by
  simp only [isBlank, Bool.or_eq_true, beq_iff_eq, ← UInt8.toNat_inj]; simp; omega
theorem getElem_data (s : ByteArray) (k : Nat) (h : k < s.size) (h' : k < s.data.toList.length) : s.data.toList[k] = s[k] := by simp; rfl
theorem skip_yes {s : ByteArray} {k : Nat} (h : k < s.size) (hb : isBlank s[k] = true) : skipN s.data.toList k = skipN s.data.toList (k + 1) := by
  rw [skipN_in (by simpa using h), getElem_data s k h, if_pos hb]
theorem skip_no {s : ByteArray} {k : Nat} (h : k < s.size) (hb : ¬ isBlank s[k] = true) : skipN s.data.toList k = k := by
  rw [skipN_in (by simpa using h), getElem_data s k h, if_neg hb]


end Go.Proofs.YtmnlkedacnemcaaGreatDoor

namespace Go.Proofs.YtmnlkedacnemcaaGreatDoor
open Go.RowKit

theorem wrap32_as (n : Int) (h : -2147483648 ≤ n ∧ n ≤ 2147483647) : wrap32 n = n := by unfold wrap32; omega
def escL (n : Int) : List UInt8 :=
  if runeOk n = true then
    if n = 34 then [92, 34] else if n = 92 then [92, 92] else if n = 8 then [92, 98] else if n = 9 then [92, 116] else if n = 10 then [92, 110]
    else if n = 12 then [92, 102] else if n = 13 then [92, 114] else if n < 32 then 92 :: 117 :: 48 :: 48 :: hexOf [UInt8.ofNat n.toNat] else encL n.toNat
  else []
theorem escL_not {n : Int} (h : runeOk n = false) : escL n = [] := by simp [escL, h]
theorem escL_low {n : Int} (h : 0 ≤ n) (h2 : n < 32) (h3 : n ≠ 8 ∧ n ≠ 9 ∧ n ≠ 10 ∧ n ≠ 12 ∧ n ≠ 13) : escL n = 92 :: 117 :: 48 :: 48 :: hexOf [UInt8.ofNat n.toNat] := by
  have h4 : runeOk n = true := runeOk_yes h (by omega) (by omega)
  obtain ⟨a, b, c, d, e⟩ := h3
  have f : n ≠ 34 := by omega
  have g : n ≠ 92 := by omega
  simp only [escL, h4, a, b, c, d, e, f, g, h2, if_true, if_false]
theorem escL_high {n : Int} (h : runeOk n = true) (h2 : 32 ≤ n) (h3 : n ≠ 34 ∧ n ≠ 92) : escL n = encL n.toNat := by
  obtain ⟨a, b⟩ := h3
  have : ¬ n < 32 := by omega
  have c : n ≠ 8 := by omega
  have d : n ≠ 9 := by omega
  have e : n ≠ 10 := by omega
  have f : n ≠ 12 := by omega
  have g : n ≠ 13 := by omega
  simp only [escL, h, a, b, c, d, e, f, g, this, if_true, if_false]
theorem escL_len (n : Int) : (escL n).length ≤ 8 := by
  unfold escL
  have := encL_len n.toNat
  have h2 := hexOf_len [UInt8.ofNat n.toNat]
  (repeat' split) <;> simp at h2 ⊢ <;> omega
theorem u8_low {n : Int} (h : 0 ≤ n) (h2 : n < 256) : [Value.int .u8 n] = u8s [UInt8.ofNat n.toNat] := by
  simp [u8s]; omega
theorem hexOf_size (b : List UInt8) : (⟨(hexOf b).toArray⟩ : ByteArray).size = 2 * b.length := by
  show (hexOf b).toArray.size = _
  simp [hexOf_len]
theorem utf8_one {n : Int} (h : 0 ≤ n) (h2 : n < 128) : Utf8.encode n = ⟨[UInt8.ofNat n.toNat].toArray⟩ := by
  rw [encode_ok (runeOk_yes h (by omega) (by omega)), encL, if_pos (by omega)]
end Go.Proofs.YtmnlkedacnemcaaGreatDoor

namespace Go.Proofs.YtmnlkedacnemcaaGreatDoor
open Go.RowKit

def escs (l : List Int) : List UInt8 := l.flatMap escL
theorem escs_len (l : List Int) : (escs l).length ≤ 8 * l.length := by
  induction l with
  | nil => simp [escs]
  | cons a l ih => have := escL_len a; simp only [escs, List.flatMap_cons, List.length_append, List.length_cons] at ih ⊢; omega
theorem escs_snoc (l : List Int) (x : Int) : escs (l ++ [x]) = escs l ++ escL x := by simp [escs, List.flatMap_append]
/-- A text in quotes; no text: nothing. -/
def quoteL (l : List UInt8) : List UInt8 := if Lib.validD l = true then 34 :: (escs (runesL l) ++ [34]) else []
theorem quoteL_no {l : List UInt8} (h : Lib.validD l = false) : quoteL l = [] := by simp [quoteL, h]
theorem quoteL_yes {l : List UInt8} (h : Lib.validD l = true) : quoteL l = 34 :: (escs (runesL l) ++ [34]) := by simp [quoteL, h]
theorem quoteL_len (l : List UInt8) : (quoteL l).length ≤ 8 * l.length + 2 := by
  have h1 := escs_len (runesL l)
  have h2 := runesL_len l
  unfold quoteL
  split <;> simp <;> omega
theorem ba_add (a b : List UInt8) : (⟨a.toArray⟩ : ByteArray) ++ (⟨b.toArray⟩ : ByteArray) = ⟨(a ++ b).toArray⟩ := by
  apply ByteArray.ext
  simp
theorem ba_sz (a : List UInt8) : (⟨a.toArray⟩ : ByteArray).size = a.length := by show a.toArray.size = _; simp
theorem quoted_eq (s : ByteArray) : ({ data := #[34] } ++ s ++ { data := #[34] } : ByteArray).toList = 34 :: (s.data.toList ++ [34]) := by rw [ByteArray.toList_eq]; simp
/-- Nothing is escaped. -/
def bareL (l : List UInt8) : Bool := Lib.validD l && (quoteL l == 34 :: (l ++ [34]))
end Go.Proofs.YtmnlkedacnemcaaGreatDoor
