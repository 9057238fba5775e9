/- WriteTight: both sides. Written by gen/writes.py. -/
import Derived.Test.YticejlknbfhndaaDoorFitsTight
import Derived.Test.YticejlknbfhndaaDoorTightS
import Derived.Test.YticejlknbfhndaaDoorPacker3
set_option linter.unusedVariables false
set_option maxRecDepth 100000
set_option linter.unusedSimpArgs false
namespace Go.Proofs.YticejlknbfhndaaDoor
open Go.RowKit

noncomputable def writeTightL (t : Tr) : List UInt8 := if fitsTight t = true then tightT false false t else []
theorem writeTightL_len (t : Tr) : (writeTightL t).length ≤ 20 + 20 * t.sz := by
  unfold writeTightL
  split
  · exact tightT_len false false t
  · simp
theorem writeTightL_yes {t : Tr} (h : fitsTight t = true) : writeTightL t = tightT false false t := by unfold writeTightL; rw [if_pos h]
theorem writeTightL_no {t : Tr} (h : fitsTight t = false) : writeTightL t = [] := by unfold writeTightL; rw [h]; rfl
/-- What a writer of bytes says. -/
def WriteTightAt (w w' : World) (b : List UInt8) (r : Ending) : Prop := ∃ A' n' c', r = .returned (.slice A' n' c') ∧ BS w' w.heap.size A' n' c' b ∧ Below w.heap.size w w'
theorem i_WriteTight (t : Tr) (e : El) (w : World) (hF : Fit t) (hl : LsAt w t.l e) (hel : e.lt w.heap.size) (hT : TabUP w) :
    Calls Tryd.prog 31 #[trV t e] w fun r w' => WriteTightAt w w' (writeTightL t) r := by
  have kb := Below.one w (.cells (valCells t e) 29)
  have hB := Blk.new w 29 (valCells t e)
  have hv := i_FitsTight t e _ hF (hl.below hel kb) (hel.mono kb.size) (hT.below kb)
  have hp := fun w2 (hb : Below w.heap.size w w2) => i_PackTight t e w2 hF.1 (hl.below hel hb) (hel.mono hb.size) hF.2
  cases hq : fitsTight t with
  | false =>
    rw [writeTightL_no hq]
    rw [hq] at hv
    clear hp hq
    go_enter Tryd.func31, Tryd.ntmps31
    go_wp2_with (go_at_call 27; refine hv.mono ?_; rintro r w1 ⟨rfl, hb⟩)
    go_ret
    exact ⟨none, 0, 0, rfl, BS.nil_ _ _, kb.up hb⟩
  | true =>
    rw [writeTightL_yes hq]
    rw [hq] at hv
    generalize tightT false false t = b at hp
    clear hq
    go_enter Tryd.func31, Tryd.ntmps31
    go_wp2_with (first
      | (go_at_call 27; refine hv.mono ?_; rintro r w1 ⟨rfl, hb⟩; obtain ⟨q0, q1, q2, q3, q4⟩ := (hB.below hb hB.lt).boxV)
      | (go_at_call 67; refine (hp _ (kb.up hb)).mono ?_; rintro r w2 ⟨A', n', c', rfl, h2, hb2⟩))
    go_ret
    exact ⟨A', n', c', rfl, own_mono h2 (kb.up hb).size, (kb.up hb).up hb2⟩
theorem s_WriteTight (t : Tr) (e : El) (w : World) (hF : Fit t) (hl : LsAt w t.l e) (hel : e.lt w.heap.size) (hT : TabUP w) :
    Calls Tryd.prog 30 #[trV t e] w fun r w' => WriteTightAt w w' (writeTightL t) r := by
  have kb := Below.one w (.cells (valCells t e) 29)
  have hB := Blk.new w 29 (valCells t e)
  have hv := s_FitsTight t e _ hF (hl.below hel kb) (hel.mono kb.size) (hT.below kb)
  have hp := fun w2 (hb : Below w.heap.size w w2) => s_PackTight t e w2 hF.1 (hl.below hel hb) (hel.mono hb.size) hF.2
  cases hq : fitsTight t with
  | false =>
    rw [writeTightL_no hq]
    rw [hq] at hv
    clear hp hq
    go_enter Tryd.func30, Tryd.ntmps30
    go_wp2_with (go_at_call 26; refine hv.mono ?_; rintro r w1 ⟨rfl, hb⟩)
    go_ret
    exact ⟨_, 0, 0, rfl, own_mono (BS.new w1) (kb.up hb).size, (kb.up hb).up (Below.one _ _)⟩
  | true =>
    rw [writeTightL_yes hq]
    rw [hq] at hv
    generalize tightT false false t = b at hp
    clear hq
    go_enter Tryd.func30, Tryd.ntmps30
    go_wp2_with (first
      | (go_at_call 26; refine hv.mono ?_; rintro r w1 ⟨rfl, hb⟩; obtain ⟨q0, q1, q2, q3, q4⟩ := (hB.below hb hB.lt).boxV)
      | (go_at_call 66; refine (hp _ (kb.up hb)).mono ?_; rintro r w2 ⟨A', n', c', rfl, h2, hb2⟩))
    go_ret
    exact ⟨A', n', c', rfl, own_mono h2 (kb.up hb).size, (kb.up hb).up hb2⟩
theorem i_SizeTight (t : Tr) (e : El) (w : World) (hF : Fit t) (hl : LsAt w t.l e) (hel : e.lt w.heap.size) (hT : TabUP w) :
    Calls Tryd.prog 29 #[trV t e] w fun r w' => r = .returned (.int .i64 (writeTightL t).length) ∧ Below w.heap.size w w' := by
  have kb := Below.one w (.cells (valCells t e) 29)
  have hv := i_WriteTight t e _ hF (hl.below hel kb) (hel.mono kb.size) (hT.below kb)
  generalize writeTightL t = b at hv
  go_enter Tryd.func29, Tryd.ntmps29
  go_wp2_with (go_at_call 31; refine hv.mono ?_; rintro r w1 ⟨A', n', c', rfl, h1, hb⟩)
  go_ret
  exact ⟨ret_int (by rw [h1.len]), kb.up hb⟩
theorem s_SizeTight (t : Tr) (e : El) (w : World) (hF : Fit t) (hl : LsAt w t.l e) (hel : e.lt w.heap.size) (hT : TabUP w) :
    Calls Tryd.prog 28 #[trV t e] w fun r w' => r = .returned (.int .i64 (writeTightL t).length) ∧ Below w.heap.size w w' := by
  have kb := Below.one w (.cells (valCells t e) 29)
  have hv := s_WriteTight t e _ hF (hl.below hel kb) (hel.mono kb.size) (hT.below kb)
  generalize writeTightL t = b at hv
  go_enter Tryd.func28, Tryd.ntmps28
  go_wp2_with (go_at_call 30; refine hv.mono ?_; rintro r w1 ⟨A', n', c', rfl, h1, hb⟩)
  go_ret
  exact ⟨ret_int (by rw [h1.len]), kb.up hb⟩
end Go.Proofs.YticejlknbfhndaaDoor
