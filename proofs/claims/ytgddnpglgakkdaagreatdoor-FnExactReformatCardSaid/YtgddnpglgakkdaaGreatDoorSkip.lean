/- impl.Skip and spec.Skip: the first offset without a blank. -/
import Derived.Test.YtgddnpglgakkdaaGreatDoorMem
import Derived.Test.YtgddnpglgakkdaaGreatDoorShelf
set_option linter.unusedVariables false
set_option maxRecDepth 100000
set_option linter.unusedSimpArgs false
namespace Go.Proofs.YtgddnpglgakkdaaGreatDoor
open Go.RowKit

def isBlank (c : UInt8) : Bool := c == 9 || c == 10 || c == 13 || c == 32
/-- How many blanks stand at the head. -/
def lead : List UInt8 → Nat
  | [] => 0
  | c :: l => if isBlank c then lead l + 1 else 0
def skipN (l : List UInt8) (k : Nat) : Nat := k + lead (l.drop k)
theorem skipN_out {l : List UInt8} {k : Nat} (h : l.length ≤ k) : skipN l k = k := by
  simp [skipN, List.drop_eq_nil_of_le h, lead]
theorem skipN_in {l : List UInt8} {k : Nat} (h : k < l.length) : skipN l k = if isBlank l[k] then skipN l (k + 1) else k := by
  unfold skipN
  rw [List.drop_eq_getElem_cons h, lead]
  split <;> omega
theorem lead_le (l : List UInt8) : lead l ≤ l.length := by
  induction l with
  | nil => simp [lead]
  | cons c l ih => simp only [lead, List.length_cons]; split <;> omega
theorem skipN_le {l : List UInt8} {k : Nat} (h : k ≤ l.length) : skipN l k ≤ l.length := by
  have := lead_le (l.drop k); unfold skipN; simp at this; omega
def skipI (l : List UInt8) (at_ : Int) : Int := if at_ < 0 then at_ else skipN l at_.toNat

theorem isBlank_iff (c : UInt8) : isBlank c = true ↔ (c.toNat : Int) = 9 ∨ (c.toNat : Int) = 10 ∨ (c.toNat : Int) = 13 ∨ (c.toNat : Int) = 32 := by
  simp only [isBlank, Bool.or_eq_true, beq_iff_eq, ← UInt8.toNat_inj]; simp; omega
theorem getElem_data (s : ByteArray) (k : Nat) (h : k < s.size) (h' : k < s.data.toList.length) : s.data.toList[k] = s[k] := by simp; rfl
theorem skip_yes {s : ByteArray} {k : Nat} (h : k < s.size) (hb : isBlank s[k] = true) : skipN s.data.toList k = skipN s.data.toList (k + 1) := by
  rw [skipN_in (by simpa using h), getElem_data s k h, if_pos hb]
theorem skip_no {s : ByteArray} {k : Nat} (h : k < s.size) (hb : ¬ isBlank s[k] = true) : skipN s.data.toList k = k := by
  rw [skipN_in (by simpa using h), getElem_data s k h, if_neg hb]


set_option maxHeartbeats 400000 in
theorem s_Skip (s : ByteArray) (i : Int) (w : World) (hs : s.size ≤ maxLen) :
    Calls Tryz.prog 32 #[.string s, .int .i64 i] w fun e w' => e = .returned (.int .i64 (skipI s.data.toList i)) ∧ w = w' := by
  unfold maxLen at hs
  by_cases hi : i < 0
  · go_enter Tryz.func32, Tryz.ntmps32
    go_wp2
    go_ret
    exact ⟨ret_int (by rw [skipI, if_pos hi]), rfl⟩
  · obtain ⟨k0, rfl⟩ := Int.eq_ofNat_of_zero_le (show 0 ≤ i by omega)
    go_enter Tryz.func32, Tryz.ntmps32
    go_wp2
    go_loop [1] (fun i => ∃ k : Nat, skipN s.data.toList k = skipN s.data.toList k0 ∧ i = .int .i64 k) (fun i => s.size - (intOf i).toNat)
    case atStart => exact ⟨k0, rfl, rfl⟩
    case round =>
      obtain ⟨k, HK, rfl⟩ := hrel
      have hk := Lib.hid HK; clear HK
      by_cases hlt : k < s.size
      · go_wp2
        all_goals first
          | (go_round
             case rel => exact ⟨k + 1, (skip_yes hlt ((isBlank_iff _).2 (by simp at *; omega))).symm.trans hk.out, by go_num⟩
             case measure => simp [intOf]; omega)
          | (go_ret
             exact ⟨ret_int (by rw [skipI, if_neg (by omega), Int.toNat_natCast, ← hk.out, skip_no hlt (fun h => by have := (isBlank_iff _).1 h; simp at *; omega)]), rfl⟩)
      · go_wp2
        go_ret
        exact ⟨ret_int (by rw [skipI, if_neg (by omega), Int.toNat_natCast, ← hk.out, skipN_out (by simp; omega)]), rfl⟩
theorem skip_index (c : UInt8) : 0 ≤ Lib.indexByte [9, 10, 13, 32] c ↔ isBlank c = true :=
  u8_all (p := fun c => 0 ≤ Lib.indexByte [9, 10, 13, 32] c ↔ isBlank c = true) (by decide +kernel) c
set_option maxHeartbeats 400000 in
theorem i_Skip (s : ByteArray) (i : Int) (w : World) (hs : s.size ≤ maxLen) :
    Calls Tryz.prog 39 #[.string s, .int .i64 i] w fun e w' => e = .returned (.int .i64 (skipI s.data.toList i)) ∧ w = w' := by
  unfold maxLen at hs
  by_cases hi : i < 0 ∨ s.size < i
  · have hb : inR i 0 s.size = false := inR_no hi
    go_enter Tryz.func39, Tryz.ntmps39
    go_wp2_with (go_at_call 38; refine (i_within _ _ _ _).mono ?_; rintro e w' ⟨rfl, rfl⟩)
    go_ret
    refine ⟨ret_int ?_, rfl⟩
    rw [skipI]
    split
    · rfl
    · rw [skipN_out (by simp; omega)]; omega
  · obtain ⟨k0, rfl⟩ := Int.eq_ofNat_of_zero_le (show 0 ≤ i by omega)
    have hb : inR k0 0 s.size = true := inR_yes (by omega) (by omega)
    go_enter Tryz.func39, Tryz.ntmps39
    go_wp2_with (go_at_call 38; refine (i_within _ _ _ _).mono ?_; rintro e w' ⟨rfl, rfl⟩)
    go_loop [1] (fun i => ∃ k : Nat, skipN s.data.toList k = skipN s.data.toList k0 ∧ i = .int .i64 k) (fun i => s.size - (intOf i).toNat)
    case atStart => exact ⟨k0, rfl, rfl⟩
    case round =>
      obtain ⟨k, HK, rfl⟩ := hrel
      have hk := Lib.hid HK; clear HK
      by_cases hlt : k < s.size
      · go_wp2_with (go_at_call 58; refine (Tryz.strings_IndexByte _ _ _).mono ?_; rintro e w' ⟨rfl, hw⟩; subst hw)
        · have h0 : 0 ≤ Lib.indexByte [9, 10, 13, 32] s[k] := by assumption
          go_round
          case rel => exact ⟨k + 1, (skip_yes hlt ((skip_index _).1 h0)).symm.trans hk.out, by go_num⟩
          case measure => simp [intOf]; omega
        · have h0 : Lib.indexByte [9, 10, 13, 32] s[k] < 0 := by assumption
          go_ret
          exact ⟨ret_int (by rw [skipI, if_neg (by omega), Int.toNat_natCast, ← hk.out, skip_no hlt (fun h => by have := (skip_index _).2 h; omega)]), rfl⟩
      · go_wp2_with fail
        go_ret
        exact ⟨ret_int (by rw [skipI, if_neg (by omega), Int.toNat_natCast, ← hk.out, skipN_out (by simp; omega)]), rfl⟩
end Go.Proofs.YtgddnpglgakkdaaGreatDoor
