/- The laws FnExactQuote, FnExactBare: for every text. -/
import Derived.Test.YtiapkpelgbpfmaaDoorQuote
set_option linter.unusedVariables false
set_option maxRecDepth 100000
set_option linter.unusedSimpArgs false
namespace Go.Proofs.YtiapkpelgbpfmaaDoor
open Go.RowKit

theorem law_Quote (s : ByteArray) (w : World) (hs : s.size ≤ maxLen) (hT : Lib.Utf8Tabs 0 1 w) :
    Calls Tryd.prog 3 #[.string s] w fun e w' => e = .returned (.bool true) ∧ Below w.heap.size w w' := by
  by_cases hb : (s.size : Int) > 1048576
  · go_enter Tryd.func3, Tryd.ntmps3
    go_wp2_with fail
    go_ret
    exact ⟨rfl, Below.refl _ _⟩
  · have hs2 : s.size ≤ 1073741824 := by omega
    have hq := fun w1 => s_Quote s w1 hs2
    have hi := fun w1 h => i_Quote s w1 hs2 h
    obtain ⟨q, hqq⟩ : ∃ q, quoteL s.data.toList = q := ⟨_, rfl⟩
    rw [hqq] at hq hi
    clear hqq hs
    go_enter Tryd.func3, Tryd.ntmps3
    go_wp2_with (first
      | (go_at_call 13; refine (hq _).mono ?_; rintro e w1 ⟨rfl, hb1⟩)
      | (go_at_call 14; refine (hi _ (Utf8Tabs_below hT hb1)).mono ?_; rintro e w2 ⟨rfl, hb2⟩))
    go_ret
    exact ⟨rfl, hb1.up hb2⟩
theorem law_Bare (s : ByteArray) (w : World) (hs : s.size ≤ maxLen) (hT : Lib.Utf8Tabs 0 1 w) :
    Calls Tryd.prog 4 #[.string s] w fun e w' => e = .returned (.bool true) ∧ Below w.heap.size w w' := by
  by_cases hb : (s.size : Int) > 1048576
  · go_enter Tryd.func4, Tryd.ntmps4
    go_wp2_with fail
    go_ret
    exact ⟨rfl, Below.refl _ _⟩
  · have hs2 : s.size ≤ 1073741824 := by omega
    have hq := fun w1 => s_Bare s w1 hs2
    have hi := fun w1 h => i_Bare s w1 hs2 h
    obtain ⟨q, hqq⟩ : ∃ q, bareL s.data.toList = q := ⟨_, rfl⟩
    rw [hqq] at hq hi
    clear hqq hs
    go_enter Tryd.func4, Tryd.ntmps4
    go_wp2_with (first
      | (go_at_call 15; refine (hq _).mono ?_; rintro e w1 ⟨rfl, hb1⟩)
      | (go_at_call 16; refine (hi _ (Utf8Tabs_below hT hb1)).mono ?_; rintro e w2 ⟨rfl, hb2⟩))
    go_ret
    exact ⟨by simp, hb1.up hb2⟩
end Go.Proofs.YtiapkpelgbpfmaaDoor
