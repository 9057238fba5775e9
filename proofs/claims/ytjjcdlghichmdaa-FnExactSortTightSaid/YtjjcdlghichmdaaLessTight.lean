/- LessTight: impl, spec, law. (Written by wip/gen/lesstight.py.) -/
import Derived.Test.YtjjcdlghichmdaaTightS
import Derived.Test.YtjjcdlghichmdaaLess
set_option linter.unusedVariables false
set_option maxRecDepth 100000
set_option linter.unusedSimpArgs false
namespace Go.Proofs.Ytjjcdlghichmdaa
open Go.RowKit

abbrev BoxVV (w0 : World) (g1 : Nat) (a : Tr) (ea : El) (g2 : Nat) (b : Tr) (eb : El) (w' : World) : Prop := (BoxV w' g1 a ea ∧ BoxV w' g2 b eb) ∧ Below w0.heap.size w0 w'
theorem boxVV {w0 w' : World} {g1 g2 : Nat} {T1 T2 : TypeId} {a b : Tr} {ea eb : El} (h1 : Blk w0 g1 T1 (valCells a ea)) (h2 : Blk w0 g2 T2 (valCells b eb)) (hb : Below w0.heap.size w0 w') : BoxVV w0 g1 a ea g2 b eb w' :=
  ⟨⟨(h1.below hb h1.lt).boxV, (h2.below hb h2.lt).boxV⟩, hb⟩
set_option maxHeartbeats 1600000 in
theorem i_LessTight (a b : Tr) (ea eb : El) (w : World) (hwa : a.wf) (hwb : b.wf) (hla : LsAt w a.l ea) (hlb : LsAt w b.l eb) (hea : ea.lt w.heap.size) (heb : eb.lt w.heap.size) (hma : a.sz ≤ 1048576) (hmb : b.sz ≤ 1048576) :
    Calls Try.prog 17 #[trV a ea, trV b eb] w fun r w' => r = .returned (.bool (ltB (tightT false false a) (tightT false false b))) ∧ Below w.heap.size w w' := by
  have k2 := Below.two w (.cells (valCells a ea) 28) (.cells (valCells b eb) 28)
  have B1 : Blk ((w.alloc (.cells (valCells a ea) 28)).alloc (.cells (valCells b eb) 28)) w.heap.size 28 (valCells a ea) := (Blk.new w _ _).alloc _
  have B2 : Blk ((w.alloc (.cells (valCells a ea) 28)).alloc (.cells (valCells b eb) 28)) (w.heap.size + 1) 28 (valCells b eb) := by simpa using Blk.new (w.alloc (.cells (valCells a ea) 28)) 28 (valCells b eb)
  have hS0 := fun (w' : World) (hb : Below ((w.alloc (.cells (valCells a ea) 28)).alloc (.cells (valCells b eb) 28)).heap.size ((w.alloc (.cells (valCells a ea) 28)).alloc (.cells (valCells b eb) 28)) w') => boxVV B1 B2 hb
  have hS2 := fun (w' w'' : World) (h : BoxVV ((w.alloc (.cells (valCells a ea) 28)).alloc (.cells (valCells b eb) 28)) w.heap.size a ea (w.heap.size + 1) b eb w') (hb : Below w'.heap.size w' w'') => hS0 w'' (h.2.up hb)
  have hA := fun (w' : World) (h : BoxVV ((w.alloc (.cells (valCells a ea) 28)).alloc (.cells (valCells b eb) 28)) w.heap.size a ea (w.heap.size + 1) b eb w') => i_PackTight a ea w' hwa (hla.below hea (k2.trans (h.2.mono k2.size))) (hea.mono (Nat.le_trans k2.size h.2.size)) hma
  have hB := fun (w' : World) (h : BoxVV ((w.alloc (.cells (valCells a ea) 28)).alloc (.cells (valCells b eb) 28)) w.heap.size a ea (w.heap.size + 1) b eb w') => i_PackTight b eb w' hwb (hlb.below heb (k2.trans (h.2.mono k2.size))) (heb.mono (Nat.le_trans k2.size h.2.size)) hmb
  clear B1 B2
  go_enter Try.func17, Try.ntmps17
  go_wp2_with fail
  go_region_held3 (fun w' => BoxVV ((w.alloc (.cells (valCells a ea) 28)).alloc (.cells (valCells b eb) 28)) w.heap.size a ea (w.heap.size + 1) b eb w')
    (first | exact hS0 _ (Below.refl _ _).drew | (refine hS2 _ _ ?_ hbA; assumption) | (refine hS2 _ _ ?_ hbB; assumption) | (refine hS2 _ _ ?_ hbC; assumption))
    (first
      | (go_at_call 26; have hq := h6; clear hq; refine (hB _ (by assumption)).mono ?_; rintro r w8 ⟨A8, n8, c8, rfl, h8, hbB⟩; replace h6 := h6.below hbB)
      | (go_at_call 26; refine (hA _ (by assumption)).mono ?_; rintro r w6 ⟨A6, n6, c6, rfl, h6, hbA⟩)
      | (go_at_call 25; refine (i_LessBytes _ _ _ _ _ _ _ _ w8 w8.heap.size h6.sl h8.sl).mono ?_; rintro r w9 ⟨rfl, rfl⟩; have hbC := Below.refl w8.heap.size w8))
  rename_i hHeld
  have kb := k2.trans (hHeld.2.mono k2.size)
  clear hS0 hS2 hA hB hHeld
  go_wp2_with fail
  go_ret
  exact ⟨rfl, kb⟩
set_option maxHeartbeats 1600000 in
theorem s_LessTight (a b : Tr) (ea eb : El) (w : World) (hwa : a.wf) (hwb : b.wf) (hla : LsAt w a.l ea) (hlb : LsAt w b.l eb) (hea : ea.lt w.heap.size) (heb : eb.lt w.heap.size) (hma : a.sz ≤ 1048576) (hmb : b.sz ≤ 1048576) :
    Calls Try.prog 14 #[trV a ea, trV b eb] w fun r w' => r = .returned (.bool (ltB (tightT false false a) (tightT false false b))) ∧ Below w.heap.size w w' := by
  have k2 := Below.two w (.cells (valCells a ea) 28) (.cells (valCells b eb) 28)
  have B1 : Blk ((w.alloc (.cells (valCells a ea) 28)).alloc (.cells (valCells b eb) 28)) w.heap.size 28 (valCells a ea) := (Blk.new w _ _).alloc _
  have B2 : Blk ((w.alloc (.cells (valCells a ea) 28)).alloc (.cells (valCells b eb) 28)) (w.heap.size + 1) 28 (valCells b eb) := by simpa using Blk.new (w.alloc (.cells (valCells a ea) 28)) 28 (valCells b eb)
  have hS0 := fun (w' : World) (hb : Below ((w.alloc (.cells (valCells a ea) 28)).alloc (.cells (valCells b eb) 28)).heap.size ((w.alloc (.cells (valCells a ea) 28)).alloc (.cells (valCells b eb) 28)) w') => boxVV B1 B2 hb
  have hS2 := fun (w' w'' : World) (h : BoxVV ((w.alloc (.cells (valCells a ea) 28)).alloc (.cells (valCells b eb) 28)) w.heap.size a ea (w.heap.size + 1) b eb w') (hb : Below w'.heap.size w' w'') => hS0 w'' (h.2.up hb)
  have hA := fun (w' : World) (h : BoxVV ((w.alloc (.cells (valCells a ea) 28)).alloc (.cells (valCells b eb) 28)) w.heap.size a ea (w.heap.size + 1) b eb w') => s_PackTight a ea w' hwa (hla.below hea (k2.trans (h.2.mono k2.size))) (hea.mono (Nat.le_trans k2.size h.2.size)) hma
  have hB := fun (w' : World) (h : BoxVV ((w.alloc (.cells (valCells a ea) 28)).alloc (.cells (valCells b eb) 28)) w.heap.size a ea (w.heap.size + 1) b eb w') => s_PackTight b eb w' hwb (hlb.below heb (k2.trans (h.2.mono k2.size))) (heb.mono (Nat.le_trans k2.size h.2.size)) hmb
  clear B1 B2
  go_enter Try.func14, Try.ntmps14
  go_wp2_with fail
  go_region_held3 (fun w' => BoxVV ((w.alloc (.cells (valCells a ea) 28)).alloc (.cells (valCells b eb) 28)) w.heap.size a ea (w.heap.size + 1) b eb w')
    (first | exact hS0 _ (Below.refl _ _).drew | (refine hS2 _ _ ?_ hbA; assumption) | (refine hS2 _ _ ?_ hbB; assumption) | (refine hS2 _ _ ?_ hbC; assumption))
    (first
      | (go_at_call 22; have hq := h6; clear hq; refine (hB _ (by assumption)).mono ?_; rintro r w8 ⟨A8, n8, c8, rfl, h8, hbB⟩; replace h6 := h6.below hbB)
      | (go_at_call 22; refine (hA _ (by assumption)).mono ?_; rintro r w6 ⟨A6, n6, c6, rfl, h6, hbA⟩)
      | (go_at_call 21; refine (s_LessBytes _ _ _ _ _ _ _ _ w8 w8.heap.size h6.sl h8.sl).mono ?_; rintro r w9 ⟨rfl, hd9⟩; have hbC := hd9.below w8.heap.size))
  rename_i hHeld
  have kb := k2.trans (hHeld.2.mono k2.size)
  clear hS0 hS2 hA hB hHeld
  go_wp2_with fail
  go_ret
  exact ⟨rfl, kb⟩
end Go.Proofs.Ytjjcdlghichmdaa
