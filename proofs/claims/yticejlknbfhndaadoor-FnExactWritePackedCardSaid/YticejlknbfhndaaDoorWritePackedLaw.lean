/- The law on WritePacked. (Written by wip/gen/lawval.py.) -/
import Derived.Test.YticejlknbfhndaaDoorWritePacked
import Derived.Test.YticejlknbfhndaaDoorMarkVal
import Derived.Deep.RegionHeld3
set_option linter.unusedVariables false
set_option maxRecDepth 100000
set_option linter.unusedSimpArgs false
namespace Go.Proofs.YticejlknbfhndaaDoor
open Go.RowKit
set_option maxHeartbeats 1600000 in
theorem law_WritePacked (t : Tr) (e : El) (w : World) (hl : LsAt w t.l e) (hel : e.lt w.heap.size) (hwf : t.wf) (hU : Lib.Utf8Tabs 0 1 w) (hP : PowT w) :
    Calls Tryd.prog 10 #[trV t e] w fun e' w' => e' = .returned (.bool true) ∧ Below w.heap.size w w' := by
  have hsz := fun w1 (hb : Below w.heap.size w w1) => l_szVal t e 1048576 w1 hwf (hl.below hel hb) (hel.mono hb.size) (by decide) (by decide)
  by_cases hle : t.sz ≤ 1048576
  · have hres : szRes 1048576 t.sz = 1048576 - t.sz := by unfold szRes; rw [if_pos (by omega)]
    rw [hres] at hsz
    have hto := fun w1 (hb : Below w.heap.size w w1) => l_toVal t e w1 (hl.below hel hb) (hel.mono hb.size) hle
    have hcn := cntT_sz t
    have hbl : (writePackedL t).length ≤ 1073741824 := by have := writePackedL_len t; omega
    obtain ⟨r, hr⟩ : ∃ r, writePackedL t = r := ⟨_, rfl⟩
    have hS : ∀ u w1, LsAt w1 t.l u → u.lt w1.heap.size → Below w.heap.size w w1 → Calls Tryd.prog 37 #[trV t u] w1 fun e w' => ∃ A' c', e = .returned (.slice A' r.length c') ∧ BS w' w1.heap.size A' r.length c' r ∧ Below w1.heap.size w1 w' :=
      fun u w1 h1 h2 hbk => (s_WritePacked t u w1 ⟨hwf, hle⟩ h1 h2 (TabUP.below ⟨hU, hP⟩ hbk)).mono fun e w' ⟨A', n', c', h2, h3, h4⟩ => by
        rw [hr] at h3; obtain rfl := h3.len; exact ⟨A', c', h2, h3, h4⟩
    have hI : ∀ u w1, LsAt w1 t.l u → u.lt w1.heap.size → Below w.heap.size w w1 → Calls Tryd.prog 38 #[trV t u] w1 fun e w' => ∃ A' c', e = .returned (.slice A' r.length c') ∧ BS w' w1.heap.size A' r.length c' r ∧ Below w1.heap.size w1 w' :=
      fun u w1 h1 h2 hbk => (i_WritePacked t u w1 ⟨hwf, hle⟩ h1 h2 (TabUP.below ⟨hU, hP⟩ hbk)).mono fun e w' ⟨A', n', c', h2, h3, h4⟩ => by
        rw [hr] at h3; obtain rfl := h3.len; exact ⟨A', c', h2, h3, h4⟩
    rw [hr] at hbl
    clear hr
    obtain ⟨q, hq⟩ : ∃ q, r.length = q := ⟨_, rfl⟩
    rw [hq] at hS hI hbl
    clear hwf hres
    have BV : Blk (w.alloc (.cells (valCells t e) 24)) w.heap.size 24 (valCells t e) := Blk.new w _ _
    have K := Below.one w (.cells (valCells t e) 24)
    go_enter Tryd.func10, Tryd.ntmps10
    obtain ⟨v0, v1, v2, v3, v4⟩ := BV.boxV
    go_wp2_with fail
    clear v0 v1 v2 v3 v4
    refine (hsz _ K).mono ?_; rintro e wz ⟨rfl, hbz⟩
    clear hsz
    replace BV := BV.below hbz BV.lt
    replace K := K.up hbz
    have z_hbz := hbz.size
    obtain ⟨v0, v1, v2, v3, v4⟩ := BV.boxV
    go_wp2_with fail
    clear v0 v1 v2 v3 v4
    refine (hto _ K).mono ?_; rintro e w1 ⟨u1, rfl, l1, o1, hb1⟩
    replace BV := BV.below hb1 BV.lt
    replace K := K.up hb1
    have z_hb1 := hb1.size
    go_wp2_with fail
    refine (hS _ _ l1 (fun g hg => o1.lt hg) K).mono ?_; rintro e wW ⟨AW, cW, rfl, hW, hbW⟩
    replace BV := BV.below hbW BV.lt
    replace K := K.up hbW
    have z_hbW := hbW.size
    have toW0 := hW.to_
    have ZB := BV.lt
    obtain ⟨v0, v1, v2, v3, v4⟩ := BV.boxV
    go_wp2_with fail
    clear v0 v1 v2 v3 v4
    refine (hto _ K).mono ?_; rintro e wX ⟨uX, rfl, lX, oX, hbX⟩
    replace hW := hW.below hbX
    replace BV := BV.below hbX BV.lt
    replace K := K.up hbX
    have z_hbX := hbX.size
    have frX := oX.2
    have hXl := lX
    have hXo := oX
    clear lX oX
    have BX : Blk (wX.alloc (.cells (valCells t uX) 29)) wX.heap.size 29 (valCells t uX) := Blk.new wX _ _
    have hba := Below.one wX (.cells (valCells t uX) 29)
    replace hW := hW.below hba
    replace hXl := hXl.below (fun g hg => hXo.lt hg) hba
    replace hXo := hXo.below (fun g hg => hXo.lt hg) hba
    replace BV := BV.below hba BV.lt
    replace K := K.up hba
    have z_hba := hba.size
    have toX := fun g hg => hXo.lt (g := g) hg
    go_wp2_with fail
    refine (hI _ _ hXl toX K).mono ?_; rintro e wG ⟨AG, cG, rfl, hG, hbG⟩
    replace hW := hW.below hbG
    replace hXl := hXl.below (fun g hg => hXo.lt hg) hbG
    replace hXo := hXo.below (fun g hg => hXo.lt hg) hbG
    replace BX := BX.below hbG BX.lt
    replace BV := BV.below hbG BV.lt
    replace K := K.up hbG
    have z_hbG := hbG.size
    have frG := hG.from_
    go_wp2_with fail
    refine (l_eqByteS _ _ _ r _ _ _ r _ _ hG.sl hW.sl).mono ?_; rintro e w5 ⟨rfl, hd5⟩
    have hb5 := hd5.below wG.heap.size
    replace hW := hW.below hb5
    replace hG := hG.below hb5
    replace hXl := hXl.below (fun g hg => hXo.lt hg) hb5
    replace hXo := hXo.below (fun g hg => hXo.lt hg) hb5
    replace BX := BX.below hb5 BX.lt
    replace BV := BV.below hb5 BV.lt
    replace K := K.up hb5
    have z_hb5 := hb5.size
    have hS0 := fun (w' : World) (hb : Below w5.heap.size w5 w') => (show (BoxV w' wX.heap.size t uX ∧ BoxV w' w.heap.size t e) ∧ Below w5.heap.size w5 w' from ⟨⟨(BX.below hb BX.lt).boxV, (BV.below hb BV.lt).boxV⟩, hb⟩)
    have hS2 := fun (w' w'' : World) (h : (BoxV w' wX.heap.size t uX ∧ BoxV w' w.heap.size t e) ∧ Below w5.heap.size w5 w') (hb : Below w'.heap.size w' w'') => hS0 w'' (h.2.up hb)
    have hT := fun (w' : World) (h : (BoxV w' wX.heap.size t uX ∧ BoxV w' w.heap.size t e) ∧ Below w5.heap.size w5 w') => hto w' (K.up h.2)
    have hE := fun (w' : World) (h : (BoxV w' wX.heap.size t uX ∧ BoxV w' w.heap.size t e) ∧ Below w5.heap.size w5 w') (z : El) (h1 : LsAt w' t.l z) (h2 : Own w' 0 z.fp) => l_eqVal t uX z w' (hXl.below (fun g hg => hXo.lt hg) h.2) h1 (fun g hg => Nat.lt_of_lt_of_le (hXo.lt hg) h.2.size) (fun g hg => h2.lt hg)
    clear hto
    go_wp2_with fail
    go_region_held3 (fun w' => (BoxV w' wX.heap.size t uX ∧ BoxV w' w.heap.size t e) ∧ Below w5.heap.size w5 w')
      (first | exact hS0 _ (Below.refl _ _).drew | (refine hS2 _ _ ?_ hbq; assumption) | (refine hS2 _ _ ?_ hbr; assumption))
      (first
        | (go_at_call 13; refine (hT _ (by assumption)).mono ?_; rintro e w2 ⟨z, rfl, hz1, hz2, hbq⟩)
        | (go_at_call 15; refine (hE _ (by assumption) _ hz1 (hz2.mono (Nat.zero_le _))).mono ?_; rintro e w3 ⟨rfl, hbr⟩))
    rename_i hHeld
    have kb6 := hHeld.2
    have hto := fun w1 (hb : Below w.heap.size w w1) => l_toVal t e w1 (hl.below hel hb) (hel.mono hb.size) hle
    rename_i w6 _
    clear hS0 hS2 hT hE hHeld
    replace hW := hW.below kb6
    replace hG := hG.below kb6
    replace hXl := hXl.below (fun g hg => hXo.lt hg) kb6
    replace hXo := hXo.below (fun g hg => hXo.lt hg) kb6
    replace BX := BX.below kb6 BX.lt
    replace BV := BV.below kb6 BV.lt
    replace K := K.up kb6
    have z_kb6 := kb6.size
    obtain ⟨v0, v1, v2, v3, v4⟩ := BX.boxV
    go_wp2_with fail
    clear v0 v1 v2 v3 v4
    refine (l_markVal t uX 1 _ _ hXl hXo (Nat.le_refl _) (by omega)).mono ?_; rintro e w8 ⟨rfl, hX8, hX9, hf8⟩
    have kf8 := hf8.below (B := wW.heap.size) (fun g hg => (frX g hg).1) (by omega)
    have z_8 := kf8.size
    replace BV := BV.below kf8 (by omega)
    replace K := K.trans (kf8.mono (by omega))
    replace hW := hW.fr hf8 (fun g hg hg2 => by have := (frX g hg2).1; have := toW0 g hg; omega)
    replace hG := hG.fr hf8 (fun g hg hg2 => by have := toX g hg2; have := frG g hg; omega)
    clear hX8 hX9 hXl hXo BX
    go_wp2_with fail
    refine (l_eqByteS _ _ _ r _ _ _ r _ _ hG.sl hW.sl).mono ?_; rintro e w9 ⟨rfl, hd9⟩
    have hb9 := hd9.below w8.heap.size
    replace hW := hW.below hb9
    replace hG := hG.below hb9
    replace BV := BV.below hb9 BV.lt
    replace K := K.up hb9
    have z_hb9 := hb9.size
    go_wp2_with fail
    refine (l_markByteS _ _ _ _ 1 _ _ hG (by omega) (by omega)).mono ?_; rintro e w10 ⟨rfl, hG10, hf10⟩
    have kf10 := hf10.below (B := wW.heap.size) (fun g hg => by have := frG g hg; omega) (by omega)
    have z_10 := kf10.size
    replace BV := BV.below kf10 (by omega)
    replace K := K.trans (kf10.mono (by omega))
    replace hW := hW.fr hf10 (fun g hg hg2 => by have := frG g hg2; have := toW0 g hg; omega)
    replace hG := hG10
    go_wp2_with fail
    refine (l_heldByteS _ _ _ 1 _ _ hG.sl (by omega) (by omega)).mono ?_; rintro e w11 ⟨rfl, rfl⟩
    obtain ⟨v0, v1, v2, v3, v4⟩ := BV.boxV
    go_wp2_with fail
    clear v0 v1 v2 v3 v4
    refine (hto _ K).mono ?_; rintro e w12 ⟨u12, rfl, l12, o12, hb12⟩
    replace hW := hW.below hb12
    replace hG := hG.below hb12
    replace BV := BV.below hb12 BV.lt
    replace K := K.up hb12
    have z_hb12 := hb12.size
    go_wp2_with fail
    refine (hI _ _ l12 (fun g hg => o12.lt hg) K).mono ?_; rintro e wH ⟨AH, cH, rfl, hH, hbH⟩
    replace hW := hW.below hbH
    replace hG := hG.below hbH
    replace BV := BV.below hbH BV.lt
    replace K := K.up hbH
    have z_hbH := hbH.size
    go_wp2_with fail
    refine (l_eqByteS _ _ _ r _ _ _ r _ _ hH.sl hW.sl).mono ?_; rintro e w14 ⟨rfl, hd14⟩
    have hb14 := hd14.below wH.heap.size
    replace hW := hW.below hb14
    replace hG := hG.below hb14
    replace hH := hH.below hb14
    replace BV := BV.below hb14 BV.lt
    replace K := K.up hb14
    have z_hb14 := hb14.size
    go_wp2_with fail
    refine (l_heldByteS _ _ _ 1 _ _ hG.sl (by omega) (by omega)).mono ?_; rintro e w15 ⟨rfl, rfl⟩
    go_wp2_with fail
    go_ret
    exact ⟨rfl, K⟩
  · have hres : szRes 1048576 t.sz = -1 := by unfold szRes; rw [if_neg (by omega)]
    rw [hres] at hsz
    go_enter Tryd.func10, Tryd.ntmps10
    go_wp2_with (go_at_call 11; refine (hsz _ (by exact Below.one _ _)).mono ?_; rintro r w1 ⟨rfl, hb1⟩)
    go_ret
    exact ⟨rfl, hb1.boxed⟩
end Go.Proofs.YticejlknbfhndaaDoor
