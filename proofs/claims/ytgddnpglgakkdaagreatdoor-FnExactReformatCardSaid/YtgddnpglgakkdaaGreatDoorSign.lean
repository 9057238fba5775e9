/- SignOk: impl and spec. -/
import Derived.Test.YtgddnpglgakkdaaGreatDoorSkip
set_option linter.unusedVariables false
set_option maxRecDepth 100000
set_option linter.unusedSimpArgs false
namespace Go.Proofs.YtgddnpglgakkdaaGreatDoor
open Go.RowKit

def isSign (c : UInt8) : Bool := c == 123 || c == 125 || c == 91 || c == 93 || c == 58 || c == 44
def signOk : List UInt8 → Bool
  | [c] => isSign c
  | _ => false
theorem signOk_long {l : List UInt8} (h : l.length ≠ 1) : signOk l = false := by
  match l, h with
  | [], _ => rfl
  | [c], h => exact absurd rfl h
  | _ :: _ :: _, _ => rfl
theorem one_byte {s : ByteArray} (h : s.size = 1) : ∃ c, s = ⟨#[c]⟩ := by
  obtain ⟨⟨l⟩⟩ := s
  have hl : l.length = 1 := h
  match l, hl with
  | [c], _ => exact ⟨c, rfl⟩
theorem sign_index (c : UInt8) : decide (0 ≤ Lib.indexByte [123, 125, 91, 93, 58, 44] c) = isSign c :=
  u8_all (p := fun c => decide (0 ≤ Lib.indexByte [123, 125, 91, 93, 58, 44] c) = isSign c) (by decide +kernel) c
theorem i_SignOk (s : ByteArray) (w : World) :
    Calls Tryz.prog 40 #[.string s] w fun e w' => e = .returned (.bool (signOk s.data.toList)) ∧ w = w' := by
  by_cases h : s.size = 1
  · obtain ⟨c, rfl⟩ := one_byte h
    clear h
    go_enter Tryz.func40, Tryz.ntmps40
    go_wp2_with (go_at_call 59; refine (Tryz.strings_Contains_one _ _ _).mono ?_; rintro e w' ⟨rfl, hw⟩; subst hw)
    go_ret
    exact ⟨ret_bool (sign_index c), rfl⟩
  · have h1 : ((s.size : Int) == 1) = false := by simp; omega
    go_enter Tryz.func40, Tryz.ntmps40
    go_wp2_with fail
    go_ret
    exact ⟨ret_bool (signOk_long (by simpa using h)).symm, rfl⟩
theorem signOk_iff (l : List UInt8) : signOk l = true ↔ l = [123] ∨ l = [125] ∨ l = [91] ∨ l = [93] ∨ l = [58] ∨ l = [44] := by
  match l with
  | [] => simp [signOk]
  | [c] => simp [signOk, isSign, or_assoc]
  | _ :: _ :: _ => simp [signOk]
theorem toList_data (s : ByteArray) : s.toList = s.data.toList := ByteArray.toList_eq s
set_option maxHeartbeats 800000 in
theorem s_SignOk (s : ByteArray) (w : World) :
    Calls Tryz.prog 33 #[.string s] w fun e w' => e = .returned (.bool (signOk s.data.toList)) ∧ w = w' := by
  go_enter Tryz.func33, Tryz.ntmps33
  go_wp2_with fail
  all_goals
    go_ret
    refine ⟨ret_bool ?_, rfl⟩
    rw [Bool.eq_iff_iff, signOk_iff, ← toList_data]
    simp [*]
end Go.Proofs.YtgddnpglgakkdaaGreatDoor
