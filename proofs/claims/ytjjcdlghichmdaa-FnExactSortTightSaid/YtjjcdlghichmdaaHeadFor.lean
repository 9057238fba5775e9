/- HeadFor: the shortest head. -/
import Derived.Test.YtjjcdlghichmdaaHead
import Derived.Test.YtjjcdlghichmdaaMem
set_option linter.unusedVariables false
set_option maxRecDepth 100000
set_option linter.unusedSimpArgs false
namespace Go.Proofs.Ytjjcdlghichmdaa
open Go.RowKit

def headWide (n : Int) : Int := if 0 ≤ n ∧ n ≤ 23 then 0 else widthFor n
def headForV (mj n : Int) : Value := if headOk mj n (headWide n) = true then headV mj n (headWide n) else headV 0 0 0
theorem headWide_in {n : Int} (h : 0 ≤ n ∧ n ≤ 23) : headWide n = 0 := if_pos h
theorem headWide_out {n : Int} (h : ¬ (0 ≤ n ∧ n ≤ 23)) : headWide n = widthFor n := if_neg h
theorem headOk_neg {mj n wd : Int} (h : n < 0) : headOk mj n wd = false := (headOk_no (by omega)).symm
theorem headForV_yes {mj n v : Int} (h : headWide n = v) (hh : headOk mj n v = true) : headForV mj n = .agg #[.int .i64 mj, .int .i64 n, .int .i64 v] := by
  unfold headForV; rw [h, if_pos hh]; rfl
theorem headForV_no {mj n v : Int} (h : headWide n = v) (hh : headOk mj n v = false) : headForV mj n = .agg #[.int .i64 0, .int .i64 0, .int .i64 0] := by
  unfold headForV; rw [h, if_neg (by rw [hh]; decide)]; rfl
set_option maxHeartbeats 1600000 in
theorem i_HeadFor (mj n : Int) (w : World) (hn : n ≤ 9223372036854775807) :
    Calls Try.prog 48 #[.int .i64 mj, .int .i64 n] w fun e w' => e = .returned (headForV mj n) ∧ Below w.heap.size w w' := by
  by_cases hr : 0 ≤ n ∧ n ≤ 23
  · have hb := inR_yes hr.1 hr.2
    have hw := Lib.hid (headWide_in hr)
    clear hr
    cases hk : headOk mj n 0
    all_goals
      have HK := Lib.hid hk
      go_enter Try.func48, Try.ntmps48
      go_wp2_with (first | (go_at_call 40; refine (i_within _ _ _ _).mono ?_; rintro e w' ⟨rfl, rfl⟩) | (go_at_call 49; refine (i_HeadOk _ _ _ _ hn).mono ?_; rintro e w1 ⟨rfl, hb1⟩; obtain ⟨hc1, hf1⟩ := bcell hb1; have hz1 : w.heap.size + 1 < w1.heap.size := by have := hb1.size; simp at this; omega))
    · rw [headForV_no hw.out HK.out]
      have hblk0 : Blk w1 w.heap.size 46 #[.int .i64 0, .int .i64 0, .int .i64 0] := (Blk.alloc (Blk.new w _ _) _).below hb1 (by simp <;> omega)
      have hblk := hblk0.three (.int .i64 0) (.int .i64 0) (.int .i64 0)
      exact bodyPost_ret (results_blk Try.results48 Try.isAgg46 (by exact Try.sizeOf46) rfl hblk) rfl ⟨rfl, ((((Below.two _ _ _).up hb1).setCell (by simp <;> omega) _).setCell (by simp <;> omega) _).setCell (by simp <;> omega) _⟩
    · rw [headForV_yes hw.out HK.out]
      have hblk0 : Blk w1 w.heap.size 46 #[.int .i64 0, .int .i64 0, .int .i64 0] := (Blk.alloc (Blk.new w _ _) _).below hb1 (by simp <;> omega)
      have hblk := hblk0.three (.int .i64 mj) (.int .i64 n) (.int .i64 0)
      exact bodyPost_ret (results_blk Try.results48 Try.isAgg46 (by exact Try.sizeOf46) rfl hblk) rfl ⟨rfl, ((((Below.two _ _ _).up hb1).setCell (by simp <;> omega) _).setCell (by simp <;> omega) _).setCell (by simp <;> omega) _⟩
  · have hb : inR n 0 23 = false := inR_no (by omega)
    have hw := Lib.hid (headWide_out hr)
    clear hr
    cases hk : headOk mj n (widthFor n)
    all_goals
      have HK := Lib.hid hk
      go_enter Try.func48, Try.ntmps48
      go_wp2_with (first | (go_at_call 40; refine (i_within _ _ _ _).mono ?_; rintro e w' ⟨rfl, rfl⟩) | (go_at_call 52; refine (i_WidthFor _ _ hn).mono ?_; rintro e w' ⟨rfl, rfl⟩) | (go_at_call 49; refine (i_HeadOk _ _ _ _ hn).mono ?_; rintro e w1 ⟨rfl, hb1⟩; obtain ⟨hc1, hf1⟩ := bcell hb1; have hz1 : w.heap.size + 1 < w1.heap.size := by have := hb1.size; simp at this; omega))
    · rw [headForV_no hw.out HK.out]
      have hblk0 : Blk w1 w.heap.size 46 #[.int .i64 0, .int .i64 0, .int .i64 0] := (Blk.alloc (Blk.new w _ _) _).below hb1 (by simp <;> omega)
      have hblk := hblk0.three (.int .i64 0) (.int .i64 0) (.int .i64 0)
      exact bodyPost_ret (results_blk Try.results48 Try.isAgg46 (by exact Try.sizeOf46) rfl hblk) rfl ⟨rfl, ((((Below.two _ _ _).up hb1).setCell (by simp <;> omega) _).setCell (by simp <;> omega) _).setCell (by simp <;> omega) _⟩
    · rw [headForV_yes hw.out HK.out]
      have hblk0 : Blk w1 w.heap.size 46 #[.int .i64 0, .int .i64 0, .int .i64 0] := (Blk.alloc (Blk.new w _ _) _).below hb1 (by simp <;> omega)
      have hblk := hblk0.three (.int .i64 mj) (.int .i64 n) (.int .i64 (widthFor n))
      exact bodyPost_ret (results_blk Try.results48 Try.isAgg46 (by exact Try.sizeOf46) rfl hblk) rfl ⟨rfl, ((((Below.two _ _ _).up hb1).setCell (by simp <;> omega) _).setCell (by simp <;> omega) _).setCell (by simp <;> omega) _⟩
theorem headWide_23 {n : Int} (h : n ≤ 23) (hh : 0 ≤ n) : headWide n = 0 := if_pos ⟨hh, h⟩
theorem headForV_low {mj n : Int} (h : n < 0) : headForV mj n = .agg #[.int .i64 0, .int .i64 0, .int .i64 0] := headForV_no rfl (headOk_neg h)
set_option maxHeartbeats 1600000 in
theorem s_HeadFor (mj n : Int) (w : World) :
    Calls Try.prog 30 #[.int .i64 mj, .int .i64 n] w fun e w' => e = .returned (headForV mj n) ∧ Below w.heap.size w w' := by
  by_cases hr : n ≤ 23
  · cases hk : headOk mj n 0
    all_goals
      have HK := Lib.hid hk
      go_enter Try.func30, Try.ntmps30
      go_wp2_with (go_at_call 35; refine (s_HeadOk _ _ _ _).mono ?_; rintro e w1 ⟨rfl, hb1⟩; obtain ⟨hc1, hf1⟩ := bcell hb1; have hz1 : w.heap.size + 1 < w1.heap.size := by have := hb1.size; simp at this; omega)
      have hblk0 : Blk w1 w.heap.size 46 #[.int .i64 0, .int .i64 0, .int .i64 0] := (Blk.alloc (Blk.new w _ _) _).below hb1 (by simp <;> omega)
    · have e : headForV mj n = .agg #[.int .i64 0, .int .i64 0, .int .i64 0] := by
        by_cases h0 : n < 0
        · exact headForV_low h0
        · exact headForV_no (headWide_23 hr (by omega)) HK.out
      rw [e]
      have hblk := hblk0.three (.int .i64 0) (.int .i64 0) (.int .i64 0)
      exact bodyPost_ret (results_blk Try.results30 Try.isAgg46 (by exact Try.sizeOf46) rfl hblk) rfl ⟨rfl, ((((Below.two _ _ _).up hb1).setCell (by simp <;> omega) _).setCell (by simp <;> omega) _).setCell (by simp <;> omega) _⟩
    · have h0 : ¬ n < 0 := fun h => by rw [headOk_neg h] at hk; cases hk
      rw [headForV_yes (headWide_23 hr (by omega)) HK.out]
      have hblk := hblk0.three (.int .i64 mj) (.int .i64 n) (.int .i64 0)
      exact bodyPost_ret (results_blk Try.results30 Try.isAgg46 (by exact Try.sizeOf46) rfl hblk) rfl ⟨rfl, ((((Below.two _ _ _).up hb1).setCell (by simp <;> omega) _).setCell (by simp <;> omega) _).setCell (by simp <;> omega) _⟩
  · have hw := Lib.hid (headWide_out (n := n) (by omega))
    cases hk : headOk mj n (widthFor n)
    all_goals
      have HK := Lib.hid hk
      go_enter Try.func30, Try.ntmps30
      go_wp2_with (first | (go_at_call 37; refine (s_WidthFor _ _).mono ?_; rintro e w' ⟨rfl, rfl⟩) | (go_at_call 35; refine (s_HeadOk _ _ _ _).mono ?_; rintro e w1 ⟨rfl, hb1⟩; obtain ⟨hc1, hf1⟩ := bcell hb1; have hz1 : w.heap.size + 1 < w1.heap.size := by have := hb1.size; simp at this; omega))
      have hblk0 : Blk w1 w.heap.size 46 #[.int .i64 0, .int .i64 0, .int .i64 0] := (Blk.alloc (Blk.new w _ _) _).below hb1 (by simp <;> omega)
    · rw [headForV_no hw.out HK.out]
      have hblk := hblk0.three (.int .i64 0) (.int .i64 0) (.int .i64 0)
      exact bodyPost_ret (results_blk Try.results30 Try.isAgg46 (by exact Try.sizeOf46) rfl hblk) rfl ⟨rfl, ((((Below.two _ _ _).up hb1).setCell (by simp <;> omega) _).setCell (by simp <;> omega) _).setCell (by simp <;> omega) _⟩
    · rw [headForV_yes hw.out HK.out]
      have hblk := hblk0.three (.int .i64 mj) (.int .i64 n) (.int .i64 (widthFor n))
      exact bodyPost_ret (results_blk Try.results30 Try.isAgg46 (by exact Try.sizeOf46) rfl hblk) rfl ⟨rfl, ((((Below.two _ _ _).up hb1).setCell (by simp <;> omega) _).setCell (by simp <;> omega) _).setCell (by simp <;> omega) _⟩
theorem headForV_shape (mj n : Int) : ∃ a b c : Int, headForV mj n = .agg #[.int .i64 a, .int .i64 b, .int .i64 c] := by
  unfold headForV; split <;> exact ⟨_, _, _, rfl⟩
end Go.Proofs.Ytjjcdlghichmdaa
