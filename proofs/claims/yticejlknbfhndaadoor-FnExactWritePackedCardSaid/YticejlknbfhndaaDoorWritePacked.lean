/- WritePacked: both sides. Written by gen/writes.py. -/
import Derived.Test.YticejlknbfhndaaDoorFitsPacked
import Derived.Test.YticejlknbfhndaaDoorPackPacked
set_option linter.unusedVariables false
set_option maxRecDepth 100000
set_option linter.unusedSimpArgs false
namespace Go.Proofs.YticejlknbfhndaaDoor
open Go.RowKit

noncomputable def writePackedL (t : Tr) : List UInt8 := if fitsPacked t = true then packT t else []
theorem writePackedL_len (t : Tr) : (writePackedL t).length ≤ 20 + 20 * t.sz := by
  unfold writePackedL
  split
  · have := packT_len t; omega
  · simp
theorem writePackedL_yes {t : Tr} (h : fitsPacked t = true) : writePackedL t = packT t := by unfold writePackedL; rw [if_pos h]
theorem writePackedL_no {t : Tr} (h : fitsPacked t = false) : writePackedL t = [] := by unfold writePackedL; rw [h]; rfl
/-- What a writer of bytes says. -/
def WritePackedAt (w w' : World) (b : List UInt8) (r : Ending) : Prop := ∃ A' n' c', r = .returned (.slice A' n' c') ∧ BS w' w.heap.size A' n' c' b ∧ Below w.heap.size w w'
theorem i_WritePacked (t : Tr) (e : El) (w : World) (hF : Fit t) (hl : LsAt w t.l e) (hel : e.lt w.heap.size) (hT : TabUP w) :
    Calls Tryd.prog 38 #[trV t e] w fun r w' => WritePackedAt w w' (writePackedL t) r := by
  have kb := Below.one w (.cells (valCells t e) 29)
  have hB := Blk.new w 29 (valCells t e)
  have hv := i_FitsPacked t e _ hF (hl.below hel kb) (hel.mono kb.size) (hT.below kb)
  have hp := fun w2 (hb : Below w.heap.size w w2) => i_PackPacked t e w2 hF.1 (hl.below hel hb) (hel.mono hb.size) hF.2
  cases hq : fitsPacked t with
  | false =>
    rw [writePackedL_no hq]
    rw [hq] at hv
    clear hp hq
    go_enter Tryd.func38, Tryd.ntmps38
    go_wp2_with (go_at_call 25; refine hv.mono ?_; rintro r w1 ⟨rfl, hb⟩)
    go_ret
    exact ⟨none, 0, 0, rfl, BS.nil_ _ _, kb.up hb⟩
  | true =>
    rw [writePackedL_yes hq]
    rw [hq] at hv
    generalize packT t = b at hp
    clear hq
    go_enter Tryd.func38, Tryd.ntmps38
    go_wp2_with (first
      | (go_at_call 25; refine hv.mono ?_; rintro r w1 ⟨rfl, hb⟩; obtain ⟨q0, q1, q2, q3, q4⟩ := (hB.below hb hB.lt).boxV)
      | (go_at_call 72; refine (hp _ (kb.up hb)).mono ?_; rintro r w2 ⟨A', n', c', rfl, h2, hb2⟩))
    go_ret
    exact ⟨A', n', c', rfl, own_mono h2 (kb.up hb).size, (kb.up hb).up hb2⟩
theorem s_WritePacked (t : Tr) (e : El) (w : World) (hF : Fit t) (hl : LsAt w t.l e) (hel : e.lt w.heap.size) (hT : TabUP w) :
    Calls Tryd.prog 37 #[trV t e] w fun r w' => WritePackedAt w w' (writePackedL t) r := by
  have kb := Below.one w (.cells (valCells t e) 29)
  have hB := Blk.new w 29 (valCells t e)
  have hv := s_FitsPacked t e _ hF (hl.below hel kb) (hel.mono kb.size) (hT.below kb)
  have hp := fun w2 (hb : Below w.heap.size w w2) => s_PackPacked t e w2 hF.1 (hl.below hel hb) (hel.mono hb.size) hF.2
  cases hq : fitsPacked t with
  | false =>
    rw [writePackedL_no hq]
    rw [hq] at hv
    clear hp hq
    go_enter Tryd.func37, Tryd.ntmps37
    go_wp2_with (go_at_call 24; refine hv.mono ?_; rintro r w1 ⟨rfl, hb⟩)
    go_ret
    exact ⟨_, 0, 0, rfl, own_mono (BS.new w1) (kb.up hb).size, (kb.up hb).up (Below.one _ _)⟩
  | true =>
    rw [writePackedL_yes hq]
    rw [hq] at hv
    generalize packT t = b at hp
    clear hq
    go_enter Tryd.func37, Tryd.ntmps37
    go_wp2_with (first
      | (go_at_call 24; refine hv.mono ?_; rintro r w1 ⟨rfl, hb⟩; obtain ⟨q0, q1, q2, q3, q4⟩ := (hB.below hb hB.lt).boxV)
      | (go_at_call 71; refine (hp _ (kb.up hb)).mono ?_; rintro r w2 ⟨A', n', c', rfl, h2, hb2⟩))
    go_ret
    exact ⟨A', n', c', rfl, own_mono h2 (kb.up hb).size, (kb.up hb).up hb2⟩
end Go.Proofs.YticejlknbfhndaaDoor
