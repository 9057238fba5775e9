/- LessTight: impl, spec, law. (Written by wip/gen/lesstight.py.) -/
import Derived.Test.YtnfokfogmniehaaTightS
import Derived.Test.YtnfokfogmniehaaLess
set_option linter.unusedVariables false
set_option maxRecDepth 100000
set_option linter.unusedSimpArgs false
namespace Go.Proofs.Ytnfokfogmniehaa
open Go.RowKit

abbrev BoxVV (w0 : World) (g1 : Nat) (a : Tr) (ea : El) (g2 : Nat) (b : Tr) (eb : El) (w' : World) : Prop := (BoxV w' g1 a ea ∧ BoxV w' g2 b eb) ∧ Below w0.heap.size w0 w'
theorem boxVV {w0 w' : World} {g1 g2 : Nat} {T1 T2 : TypeId} {a b : Tr} {ea eb : El} (h1 : Blk w0 g1 T1 (valCells a ea)) (h2 : Blk w0 g2 T2 (valCells b eb)) (hb : Below w0.heap.size w0 w') : BoxVV w0 g1 a ea g2 b eb w' :=
  ⟨⟨(h1.below hb h1.lt).boxV, (h2.below hb h2.lt).boxV⟩, hb⟩
set_option maxHeartbeats 1600000 in
theorem i_LessTight (a b : Tr) (ea eb : El) (w : World) (hwa : a.wf) (hwb : b.wf) (hla : LsAt w a.l ea) (hlb : LsAt w b.l eb) (hea : ea.lt w.heap.size) (heb : eb.lt w.heap.size) (hma : a.sz ≤ 1048576) (hmb : b.sz ≤ 1048576) :
    Calls Try.prog 57 #[trV a ea, trV b eb] w fun r w' => r = .returned (.bool (ltB (tightT false false a) (tightT false false b))) ∧ Below w.heap.size w w' := by
  have k2 := Below.two w (.cells (valCells a ea) 46) (.cells (valCells b eb) 46)
  have B1 : Blk ((w.alloc (.cells (valCells a ea) 46)).alloc (.cells (valCells b eb) 46)) w.heap.size 46 (valCells a ea) := (Blk.new w _ _).alloc _
  have B2 : Blk ((w.alloc (.cells (valCells a ea) 46)).alloc (.cells (valCells b eb) 46)) (w.heap.size + 1) 46 (valCells b eb) := by simpa using Blk.new (w.alloc (.cells (valCells a ea) 46)) 46 (valCells b eb)
  have hS0 := fun (w' : World) (hb : Below ((w.alloc (.cells (valCells a ea) 46)).alloc (.cells (valCells b eb) 46)).heap.size ((w.alloc (.cells (valCells a ea) 46)).alloc (.cells (valCells b eb) 46)) w') => boxVV B1 B2 hb
  have hS2 := fun (w' w'' : World) (h : BoxVV ((w.alloc (.cells (valCells a ea) 46)).alloc (.cells (valCells b eb) 46)) w.heap.size a ea (w.heap.size + 1) b eb w') (hb : Below w'.heap.size w' w'') => hS0 w'' (h.2.up hb)
  have hA := fun (w' : World) (h : BoxVV ((w.alloc (.cells (valCells a ea) 46)).alloc (.cells (valCells b eb) 46)) w.heap.size a ea (w.heap.size + 1) b eb w') => i_PackTight a ea w' hwa (hla.below hea (k2.trans (h.2.mono k2.size))) (hea.mono (Nat.le_trans k2.size h.2.size)) hma
  have hB := fun (w' : World) (h : BoxVV ((w.alloc (.cells (valCells a ea) 46)).alloc (.cells (valCells b eb) 46)) w.heap.size a ea (w.heap.size + 1) b eb w') => i_PackTight b eb w' hwb (hlb.below heb (k2.trans (h.2.mono k2.size))) (heb.mono (Nat.le_trans k2.size h.2.size)) hmb
  clear B1 B2
  go_enter Try.func57, Try.ntmps57
  go_wp2_with fail
  go_region_held3 (fun w' => BoxVV ((w.alloc (.cells (valCells a ea) 46)).alloc (.cells (valCells b eb) 46)) w.heap.size a ea (w.heap.size + 1) b eb w')
    (first | exact hS0 _ (Below.refl _ _).drew | (refine hS2 _ _ ?_ hbA; assumption) | (refine hS2 _ _ ?_ hbB; assumption) | (refine hS2 _ _ ?_ hbC; assumption))
    (first
      | (go_at_call 59; have hq := h6; clear hq; refine (hB _ (by assumption)).mono ?_; rintro r w8 ⟨A8, n8, c8, rfl, h8, hbB⟩; replace h6 := h6.below hbB)
      | (go_at_call 59; refine (hA _ (by assumption)).mono ?_; rintro r w6 ⟨A6, n6, c6, rfl, h6, hbA⟩)
      | (go_at_call 112; refine (i_LessBytes _ _ _ _ _ _ _ _ w8 w8.heap.size h6.sl h8.sl).mono ?_; rintro r w9 ⟨rfl, rfl⟩; have hbC := Below.refl w8.heap.size w8))
  rename_i hHeld
  have kb := k2.trans (hHeld.2.mono k2.size)
  clear hS0 hS2 hA hB hHeld
  go_wp2_with fail
  go_ret
  exact ⟨rfl, kb⟩
set_option maxHeartbeats 1600000 in
theorem s_LessTight (a b : Tr) (ea eb : El) (w : World) (hwa : a.wf) (hwb : b.wf) (hla : LsAt w a.l ea) (hlb : LsAt w b.l eb) (hea : ea.lt w.heap.size) (heb : eb.lt w.heap.size) (hma : a.sz ≤ 1048576) (hmb : b.sz ≤ 1048576) :
    Calls Try.prog 56 #[trV a ea, trV b eb] w fun r w' => r = .returned (.bool (ltB (tightT false false a) (tightT false false b))) ∧ Below w.heap.size w w' := by
  have k2 := Below.two w (.cells (valCells a ea) 46) (.cells (valCells b eb) 46)
  have B1 : Blk ((w.alloc (.cells (valCells a ea) 46)).alloc (.cells (valCells b eb) 46)) w.heap.size 46 (valCells a ea) := (Blk.new w _ _).alloc _
  have B2 : Blk ((w.alloc (.cells (valCells a ea) 46)).alloc (.cells (valCells b eb) 46)) (w.heap.size + 1) 46 (valCells b eb) := by simpa using Blk.new (w.alloc (.cells (valCells a ea) 46)) 46 (valCells b eb)
  have hS0 := fun (w' : World) (hb : Below ((w.alloc (.cells (valCells a ea) 46)).alloc (.cells (valCells b eb) 46)).heap.size ((w.alloc (.cells (valCells a ea) 46)).alloc (.cells (valCells b eb) 46)) w') => boxVV B1 B2 hb
  have hS2 := fun (w' w'' : World) (h : BoxVV ((w.alloc (.cells (valCells a ea) 46)).alloc (.cells (valCells b eb) 46)) w.heap.size a ea (w.heap.size + 1) b eb w') (hb : Below w'.heap.size w' w'') => hS0 w'' (h.2.up hb)
  have hA := fun (w' : World) (h : BoxVV ((w.alloc (.cells (valCells a ea) 46)).alloc (.cells (valCells b eb) 46)) w.heap.size a ea (w.heap.size + 1) b eb w') => s_PackTight a ea w' hwa (hla.below hea (k2.trans (h.2.mono k2.size))) (hea.mono (Nat.le_trans k2.size h.2.size)) hma
  have hB := fun (w' : World) (h : BoxVV ((w.alloc (.cells (valCells a ea) 46)).alloc (.cells (valCells b eb) 46)) w.heap.size a ea (w.heap.size + 1) b eb w') => s_PackTight b eb w' hwb (hlb.below heb (k2.trans (h.2.mono k2.size))) (heb.mono (Nat.le_trans k2.size h.2.size)) hmb
  clear B1 B2
  go_enter Try.func56, Try.ntmps56
  go_wp2_with fail
  go_region_held3 (fun w' => BoxVV ((w.alloc (.cells (valCells a ea) 46)).alloc (.cells (valCells b eb) 46)) w.heap.size a ea (w.heap.size + 1) b eb w')
    (first | exact hS0 _ (Below.refl _ _).drew | (refine hS2 _ _ ?_ hbA; assumption) | (refine hS2 _ _ ?_ hbB; assumption) | (refine hS2 _ _ ?_ hbC; assumption))
    (first
      | (go_at_call 58; have hq := h6; clear hq; refine (hB _ (by assumption)).mono ?_; rintro r w8 ⟨A8, n8, c8, rfl, h8, hbB⟩; replace h6 := h6.below hbB)
      | (go_at_call 58; refine (hA _ (by assumption)).mono ?_; rintro r w6 ⟨A6, n6, c6, rfl, h6, hbA⟩)
      | (go_at_call 111; refine (s_LessBytes _ _ _ _ _ _ _ _ w8 w8.heap.size h6.sl h8.sl).mono ?_; rintro r w9 ⟨rfl, hd9⟩; have hbC := hd9.below w8.heap.size))
  rename_i hHeld
  have kb := k2.trans (hHeld.2.mono k2.size)
  clear hS0 hS2 hA hB hHeld
  go_wp2_with fail
  go_ret
  exact ⟨rfl, kb⟩
set_option maxHeartbeats 2000000 in
theorem law_LessTight (a : Tr) (ea : El) (b : Tr) (eb : El) (w : World) (hla : LsAt w a.l ea) (hea : ea.lt w.heap.size) (hwa : a.wf) (hlb : LsAt w b.l eb) (heb : eb.lt w.heap.size) (hwb : b.wf) :
    Calls Try.prog 12 #[trV a ea, trV b eb] w fun e' w' => e' = .returned (.bool true) ∧ Below w.heap.size w w' := by
  have K := Below.two w (.cells (valCells a ea) 40) (.cells (valCells b eb) 40)
  have BA : Blk ((w.alloc (.cells (valCells a ea) 40)).alloc (.cells (valCells b eb) 40)) w.heap.size 40 (valCells a ea) := (Blk.new w _ _).alloc _
  have BB : Blk ((w.alloc (.cells (valCells a ea) 40)).alloc (.cells (valCells b eb) 40)) (w.heap.size + 1) 40 (valCells b eb) := by simpa using Blk.new (w.alloc (.cells (valCells a ea) 40)) 40 (valCells b eb)
  have hsa := fun w1 (hb : Below w.heap.size w w1) => l_szVal a ea 1048576 w1 hwa (hla.below hea hb) (hea.mono hb.size) (by decide) (by decide)
  by_cases hle : a.sz ≤ 1048576
  · have hres : szRes 1048576 a.sz = 1048576 - a.sz := by unfold szRes; rw [if_pos (by omega)]
    rw [hres] at hsa
    have hsb := fun w1 (hb : Below w.heap.size w w1) => l_szVal b eb (1048576 - a.sz) w1 hwb (hlb.below heb hb) (heb.mono hb.size) (by omega) (by omega)
    by_cases hle2 : (b.sz : Int) ≤ 1048576 - a.sz
    · have hres2 : szRes (1048576 - a.sz) b.sz = 1048576 - a.sz - b.sz := by unfold szRes; rw [if_pos hle2]
      rw [hres2] at hsb
      have hta := fun w1 (hb : Below w.heap.size w w1) => l_toVal a ea w1 (hla.below hea hb) (hea.mono hb.size) hle
      have htb := fun w1 (hb : Below w.heap.size w w1) => l_toVal b eb w1 (hlb.below heb hb) (heb.mono hb.size) (by omega)
      have hmb : b.sz ≤ 1048576 := by omega
      go_enter Try.func12, Try.ntmps12
      go_wp2_with (go_at_call 30; first
        | (have hq := hb5; clear hq; refine (hsb _ K).mono ?_; rintro e w6 ⟨rfl, hb6⟩; replace BA := BA.below hb6 BA.lt; replace BB := BB.below hb6 BB.lt; replace K := K.up hb6; clear v0 v1 v2 v3 v4 y0 y1 y2 y3 y4)
        | (refine (hsa _ K).mono ?_; rintro e w5 ⟨rfl, hb5⟩; replace BA := BA.below hb5 BA.lt; replace BB := BB.below hb5 BB.lt; replace K := K.up hb5; obtain ⟨v0, v1, v2, v3, v4⟩ := BA.boxV; obtain ⟨y0, y1, y2, y3, y4⟩ := BB.boxV))
      clear hsa hsb
      have hS0 := fun (w' : World) (hb : Below w6.heap.size w6 w') => boxVV BA BB hb
      have hS2 := fun (w' w'' : World) (h : BoxVV w6 w.heap.size a ea (w.heap.size + 1) b eb w') (hb : Below w'.heap.size w' w'') => hS0 w'' (h.2.up hb)
      have hTa := fun (w' : World) (h : BoxVV w6 w.heap.size a ea (w.heap.size + 1) b eb w') => hta w' (K.up h.2)
      have hTb := fun (w' : World) (h : BoxVV w6 w.heap.size a ea (w.heap.size + 1) b eb w') => htb w' (K.up h.2)
      go_region_held3 (fun w' => BoxVV w6 w.heap.size a ea (w.heap.size + 1) b eb w')
        (first | exact hS0 _ (Below.refl _ _).drew | (refine hS2 _ _ ?_ hbA; assumption) | (refine hS2 _ _ ?_ hbB; assumption) | (refine hS2 _ _ ?_ hbC; assumption))
        (first
          | (go_at_call 32; have hq := la; clear hq; refine (hTb _ (by assumption)).mono ?_; rintro e w8 ⟨ub, rfl, lb, ob, hbB⟩; replace la := la.below (fun g hg => oa.lt hg) hbB; replace oa := oa.below (fun g hg => oa.lt hg) hbB)
          | (go_at_call 32; refine (hTa _ (by assumption)).mono ?_; rintro e w7 ⟨ua, rfl, la, oa, hbA⟩)
          | (go_at_call 56; refine (s_LessTight a b ua ub _ hwa hwb la lb (fun g hg => oa.lt hg) (fun g hg => ob.lt hg) hle hmb).mono ?_; rintro e w9 ⟨rfl, hbC⟩))
      rename_i hHeld
      have kb6 := hHeld.2
      clear hS0 hS2 hTa hTb hHeld la lb oa ob
      replace BA := BA.below kb6 BA.lt
      replace BB := BB.below kb6 BB.lt
      replace K := K.up kb6
      obtain ⟨v0, v1, v2, v3, v4⟩ := BA.boxV
      obtain ⟨y0, y1, y2, y3, y4⟩ := BB.boxV
      go_wp2_with fail
      clear v0 v1 v2 v3 v4 y0 y1 y2 y3 y4
      refine (hta _ K).mono ?_; rintro e wX ⟨uX, rfl, hX, oX, hbX⟩
      replace BA := BA.below hbX BA.lt
      replace BB := BB.below hbX BB.lt
      replace K := K.up hbX
      have BX : Blk (wX.alloc (.cells (valCells a uX) 46)) wX.heap.size 46 (valCells a uX) := Blk.new wX _ _
      have hba := Below.one wX (.cells (valCells a uX) 46)
      replace hX := hX.below (fun g hg => oX.lt hg) hba
      replace oX := oX.below (fun g hg => oX.lt hg) hba
      replace BA := BA.below hba BA.lt
      replace BB := BB.below hba BB.lt
      replace K := K.up hba
      obtain ⟨v0, v1, v2, v3, v4⟩ := BA.boxV
      obtain ⟨y0, y1, y2, y3, y4⟩ := BB.boxV
      go_wp2_with fail
      clear v0 v1 v2 v3 v4 y0 y1 y2 y3 y4
      refine (htb _ K).mono ?_; rintro e wY ⟨uY, rfl, hY, oY, hbY⟩
      replace hX := hX.below (fun g hg => oX.lt hg) hbY
      replace oX := oX.below (fun g hg => oX.lt hg) hbY
      replace BX := BX.below hbY BX.lt
      replace BA := BA.below hbY BA.lt
      replace BB := BB.below hbY BB.lt
      replace K := K.up hbY
      have BY : Blk (wY.alloc (.cells (valCells b uY) 46)) wY.heap.size 46 (valCells b uY) := Blk.new wY _ _
      have hbb := Below.one wY (.cells (valCells b uY) 46)
      replace hX := hX.below (fun g hg => oX.lt hg) hbb
      replace oX := oX.below (fun g hg => oX.lt hg) hbb
      replace hY := hY.below (fun g hg => oY.lt hg) hbb
      replace oY := oY.below (fun g hg => oY.lt hg) hbb
      replace BX := BX.below hbb BX.lt
      replace BA := BA.below hbb BA.lt
      replace BB := BB.below hbb BB.lt
      replace K := K.up hbb
      obtain ⟨v0, v1, v2, v3, v4⟩ := BX.boxV
      obtain ⟨y0, y1, y2, y3, y4⟩ := BY.boxV
      go_wp2_with fail
      clear v0 v1 v2 v3 v4 y0 y1 y2 y3 y4
      refine (i_LessTight a b uX uY _ hwa hwb hX hY (fun g hg => oX.lt hg) (fun g hg => oY.lt hg) hle hmb).mono ?_; rintro e wG ⟨rfl, hbG⟩
      replace hX := hX.below (fun g hg => oX.lt hg) hbG
      replace oX := oX.below (fun g hg => oX.lt hg) hbG
      replace hY := hY.below (fun g hg => oY.lt hg) hbG
      replace oY := oY.below (fun g hg => oY.lt hg) hbG
      replace BX := BX.below hbG BX.lt
      replace BY := BY.below hbG BY.lt
      replace BA := BA.below hbG BA.lt
      replace BB := BB.below hbG BB.lt
      replace K := K.up hbG
      have hS0 := fun (w' : World) (hb : Below wG.heap.size wG w') => boxVV BX BA hb
      have hS2 := fun (w' w'' : World) (h : BoxVV wG wX.heap.size a uX w.heap.size a ea w') (hb : Below w'.heap.size w' w'') => hS0 w'' (h.2.up hb)
      have hT := fun (w' : World) (h : BoxVV wG wX.heap.size a uX w.heap.size a ea w') => hta w' (K.up h.2)
      have hE := fun (w' : World) (h : BoxVV wG wX.heap.size a uX w.heap.size a ea w') (z : El) (h1 : LsAt w' a.l z) (h2 : Own w' 0 z.fp) => l_eqVal a uX z w' (hX.below (fun g hg => oX.lt hg) h.2) h1 (fun g hg => Nat.lt_of_lt_of_le (oX.lt hg) h.2.size) (fun g hg => h2.lt hg)
      go_wp2_with fail
      go_region_held3 (fun w' => BoxVV wG wX.heap.size a uX w.heap.size a ea w')
        (first | exact hS0 _ (Below.refl _ _).drew | (refine hS2 _ _ ?_ hbq; assumption) | (refine hS2 _ _ ?_ hbr; assumption))
        (first
            | (go_at_call 32; refine (hT _ (by assumption)).mono ?_; rintro e w2 ⟨z, rfl, hz1, hz2, hbq⟩)
            | (go_at_call 35; refine (hE _ (by assumption) _ hz1 (hz2.mono (Nat.zero_le _))).mono ?_; rintro e w3 ⟨rfl, hbr⟩))
      rename_i hHeld
      have kbq := hHeld.2
      clear hS0 hS2 hT hE hHeld
      rename World => wH
      replace hX := hX.below (fun g hg => oX.lt hg) kbq
      replace oX := oX.below (fun g hg => oX.lt hg) kbq
      replace hY := hY.below (fun g hg => oY.lt hg) kbq
      replace oY := oY.below (fun g hg => oY.lt hg) kbq
      replace BX := BX.below kbq BX.lt
      replace BY := BY.below kbq BY.lt
      replace BA := BA.below kbq BA.lt
      replace BB := BB.below kbq BB.lt
      replace K := K.up kbq
      have hS0 := fun (w' : World) (hb : Below wH.heap.size wH w') => boxVV BY BB hb
      have hS2 := fun (w' w'' : World) (h : BoxVV wH wY.heap.size b uY (w.heap.size + 1) b eb w') (hb : Below w'.heap.size w' w'') => hS0 w'' (h.2.up hb)
      have hT := fun (w' : World) (h : BoxVV wH wY.heap.size b uY (w.heap.size + 1) b eb w') => htb w' (K.up h.2)
      have hE := fun (w' : World) (h : BoxVV wH wY.heap.size b uY (w.heap.size + 1) b eb w') (z : El) (h1 : LsAt w' b.l z) (h2 : Own w' 0 z.fp) => l_eqVal b uY z w' (hY.below (fun g hg => oY.lt hg) h.2) h1 (fun g hg => Nat.lt_of_lt_of_le (oY.lt hg) h.2.size) (fun g hg => h2.lt hg)
      go_wp2_with fail
      go_region_held3 (fun w' => BoxVV wH wY.heap.size b uY (w.heap.size + 1) b eb w')
        (first | exact hS0 _ (Below.refl _ _).drew | (refine hS2 _ _ ?_ hbq; assumption) | (refine hS2 _ _ ?_ hbr; assumption))
        (first
            | (go_at_call 32; refine (hT _ (by assumption)).mono ?_; rintro e w2 ⟨z, rfl, hz1, hz2, hbq⟩)
            | (go_at_call 35; refine (hE _ (by assumption) _ hz1 (hz2.mono (Nat.zero_le _))).mono ?_; rintro e w3 ⟨rfl, hbr⟩))
      rename_i hHeld
      have kbz := hHeld.2
      clear hS0 hS2 hT hE hHeld
      go_wp2_with fail
      go_ret
      exact ⟨rfl, K.up kbz⟩
    · have hres2 : szRes (1048576 - a.sz) b.sz = -1 := by unfold szRes; rw [if_neg hle2]
      rw [hres2] at hsb
      go_enter Try.func12, Try.ntmps12
      go_wp2_with (go_at_call 30; first
        | (have hq := hb5; clear hq; refine (hsb _ K).mono ?_; rintro e w6 ⟨rfl, hb6⟩; replace K := K.up hb6)
        | (refine (hsa _ K).mono ?_; rintro e w5 ⟨rfl, hb5⟩; replace BB := BB.below hb5 BB.lt; replace K := K.up hb5; obtain ⟨y0, y1, y2, y3, y4⟩ := BB.boxV))
      go_ret
      exact ⟨rfl, K⟩
  · have hres : szRes 1048576 a.sz = -1 := by unfold szRes; rw [if_neg (by omega)]
    rw [hres] at hsa
    go_enter Try.func12, Try.ntmps12
    go_wp2_with (go_at_call 30; refine (hsa _ K).mono ?_; rintro r w1 ⟨rfl, hb1⟩)
    go_ret
    exact ⟨rfl, K.up hb1⟩
end Go.Proofs.Ytnfokfogmniehaa
