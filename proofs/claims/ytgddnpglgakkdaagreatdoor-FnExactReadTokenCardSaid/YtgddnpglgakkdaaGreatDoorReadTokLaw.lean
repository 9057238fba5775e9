/- The law FnExactReadToken. Written by gen/readtoks.py. -/
import Derived.Test.YtgddnpglgakkdaaGreatDoorReadTokI
import Derived.Test.YtgddnpglgakkdaaGreatDoorReadTokS
import Derived.Test.YtgddnpglgakkdaaGreatDoorTokLaw
set_option linter.unusedVariables false
set_option maxRecDepth 100000
set_option linter.unusedSimpArgs false
namespace Go.Proofs.YtgddnpglgakkdaaGreatDoor
open Go.RowKit

theorem l_eqTok (k : Int) (s : ByteArray) (n x : Int) (w : World) :
    Calls Tryz.prog 20 #[tokV k s n x, tokV k s n x] w fun e w' => e = .returned (.bool true) ∧ Below w.heap.size w w' := by
  unfold tokV
  go_enter Tryz.func20, Tryz.ntmps20
  go_wp2_with fail
  go_ret
  exact ⟨rfl, Below.two _ _ _⟩
set_option maxHeartbeats 1000000 in
theorem law_ReadToken (s : ByteArray) (i : Int) (w : World) (hs : s.size ≤ maxLen) (hi : -9223372036854775808 ≤ i ∧ i ≤ 9223372036854775807) (hT : Lib.Utf8Tabs 1 2 w) (hC : Lib.CaseVar 6 Lib.caseA w) (hE : ErrT w) :
    Calls Tryz.prog 5 #[.string s, .int .i64 i] w fun e w' => e = .returned (.bool true) ∧ Below w.heap.size w w' := by
  by_cases hb : (s.size : Int) > 1048576
  · go_enter Tryz.func5, Tryz.ntmps5
    go_wp2_with fail
    go_ret
    exact ⟨rfl, Below.refl _ _⟩
  · have hq := fun w1 => s_ReadToken s i w1 (by omega) hi
    have hp := fun w1 hb => i_ReadToken s i w1 (by omega) hi (Utf8Tabs_below hT hb) (Lib.CaseVar_below hC hb) (hE.below hb)
    obtain ⟨⟨⟨tk, ts, tn, tx⟩, a, b⟩, hqq⟩ : ∃ q, tokP s.data.toList i = q := ⟨_, rfl⟩
    rw [hqq] at hq hp
    have he := fun w1 => l_eqTok tk ts tn tx w1
    simp only [retT, Tk.v, tokV] at hq hp
    unfold tokV at he
    clear hqq hs
    go_enter Tryz.func5, Tryz.ntmps5
    have hT1 : ∀ (w1 : World), Below w.heap.size w w1 → Below w.heap.size w (w1.alloc (.cells #[.int .i64 tk, .string ts, .int .i64 tn, .int .i64 tx] 41)) := fun w1 h => h.alloc h.size _
    go_wp2_with (first
      | (go_at_call 18; refine (hq _).mono ?_; rintro e w1 ⟨rfl, hb1⟩)
      | (go_at_call 19; refine (hp _ (hT1 _ hb1)).mono ?_; rintro e w2 ⟨rfl, hb2⟩; have B := ((Blk.new w1 41 #[.int .i64 tk, .string ts, .int .i64 tn, .int .i64 tx]).below hb2 (by simp)).alloc (.cells #[.int .i64 tk, .string ts, .int .i64 tn, .int .i64 tx] 41); have r0 := B.cell 0; have r1 := B.cell 1; have r2 := B.cell 2; have r3 := B.cell 3; have k2 := (hT1 _ hb1).up hb2)
      | (go_at_call 20; refine (he _).mono ?_; rintro e w3 ⟨rfl, hb3⟩))
    all_goals
      go_ret
      exact ⟨by simp, (hT1 _ k2).up hb3⟩
end Go.Proofs.YtgddnpglgakkdaaGreatDoor
