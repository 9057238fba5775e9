/- The law on AllPaths. (Written by wip/gen/lawval.py.) -/
import Derived.Test.YtnfokfogmniehaaPathsS
import Derived.Test.YtnfokfogmniehaaPathsM
import Derived.Test.YtnfokfogmniehaaMarkVal
import Derived.Deep.RegionHeld3
set_option linter.unusedVariables false
set_option maxRecDepth 100000
set_option linter.unusedSimpArgs false
namespace Go.Proofs.Ytnfokfogmniehaa
open Go.RowKit
set_option maxHeartbeats 1600000 in
theorem law_AllPaths (t : Tr) (e : El) (w : World) (hl : LsAt w t.l e) (hel : e.lt w.heap.size) (hwf : t.wf) :
    Calls Try.prog 6 #[trV t e] w fun e' w' => e' = .returned (.bool true) ∧ Below w.heap.size w w' := by
  have hsz := fun w1 (hb : Below w.heap.size w w1) => l_szVal t e 1048576 w1 hwf (hl.below hel hb) (hel.mono hb.size) (by decide) (by decide)
  by_cases hle : t.sz ≤ 1048576
  · have hres : szRes 1048576 t.sz = 1048576 - t.sz := by unfold szRes; rw [if_pos (by omega)]
    rw [hres] at hsz
    have hto := fun w1 (hb : Below w.heap.size w w1) => l_toVal t e w1 (hl.below hel hb) (hel.mono hb.size) hle
    have hcn := cntT_sz t
    obtain ⟨hbl, hbp⟩ := pathsT_bd t []
    obtain ⟨r, hr⟩ : ∃ r, pathsT t [] = r := ⟨_, rfl⟩
    have hS := fun u w1 (h1 : LsAt w1 t.l u) (h2 : u.lt w1.heap.size) => s_AllPaths t u w1 h1 h2 hle
    have hI := fun u w1 (h1 : LsAt w1 t.l u) (h2 : u.lt w1.heap.size) => i_AllPaths t u w1 h1 h2 hle
    rw [hr] at hbl hbp hS hI
    clear hr
    clear hwf hres
    have BV : Blk (w.alloc (.cells (valCells t e) 40)) w.heap.size 40 (valCells t e) := Blk.new w _ _
    have K := Below.one w (.cells (valCells t e) 40)
    go_enter Try.func6, Try.ntmps6
    obtain ⟨v0, v1, v2, v3, v4⟩ := BV.boxV
    go_wp2_with fail
    clear v0 v1 v2 v3 v4
    refine (hsz _ K).mono ?_; rintro e wz ⟨rfl, hbz⟩
    clear hsz
    replace BV := BV.below hbz BV.lt
    replace K := K.up hbz
    have z_hbz := hbz.size
    obtain ⟨v0, v1, v2, v3, v4⟩ := BV.boxV
    go_wp2_with fail
    clear v0 v1 v2 v3 v4
    refine (hto _ K).mono ?_; rintro e w1 ⟨u1, rfl, l1, o1, hb1⟩
    replace BV := BV.below hb1 BV.lt
    replace K := K.up hb1
    have z_hb1 := hb1.size
    go_wp2_with fail
    refine (hS _ _ l1 (fun g hg => o1.lt hg)).mono ?_; rintro e wW ⟨AW, nW, cW, rsW, rfl, hW, hbW⟩
    replace BV := BV.below hbW BV.lt
    replace K := K.up hbW
    have z_hbW := hbW.size
    have toW0 := fun g (hg : g ∈ blkOf AW ∨ g ∈ plFp rsW) => (show g < wW.heap.size from hg.elim (fun h => (row_lt hW.row h).2) (fun h => (hW.kid h).2))
    have ZB := BV.lt
    obtain ⟨v0, v1, v2, v3, v4⟩ := BV.boxV
    go_wp2_with fail
    clear v0 v1 v2 v3 v4
    refine (hto _ K).mono ?_; rintro e wX ⟨uX, rfl, lX, oX, hbX⟩
    replace hW := hW.below hbX
    replace BV := BV.below hbX BV.lt
    replace K := K.up hbX
    have z_hbX := hbX.size
    have frX := oX.2
    have hXl := lX
    have hXo := oX
    clear lX oX
    have BX : Blk (wX.alloc (.cells (valCells t uX) 46)) wX.heap.size 46 (valCells t uX) := Blk.new wX _ _
    have hba := Below.one wX (.cells (valCells t uX) 46)
    replace hW := hW.below hba
    replace hXl := hXl.below (fun g hg => hXo.lt hg) hba
    replace hXo := hXo.below (fun g hg => hXo.lt hg) hba
    replace BV := BV.below hba BV.lt
    replace K := K.up hba
    have z_hba := hba.size
    have toX := fun g hg => hXo.lt (g := g) hg
    go_wp2_with fail
    refine (hI _ _ hXl toX).mono ?_; rintro e wG ⟨AG, nG, cG, rsG, rfl, hG, hbG⟩
    replace hW := hW.below hbG
    replace hXl := hXl.below (fun g hg => hXo.lt hg) hbG
    replace hXo := hXo.below (fun g hg => hXo.lt hg) hbG
    replace BX := BX.below hbG BX.lt
    replace BV := BV.below hbG BV.lt
    replace K := K.up hbG
    have z_hbG := hbG.size
    have frG := fun g (hg : g ∈ blkOf AG ∨ g ∈ plFp rsG) => hg.elim (fun h => (row_lt hG.row h).1) (fun h => (hG.kid h).1)
    go_wp2_with fail
    refine (l_eqPathS r _ _ _ _ _ _ _ _ _ _ _ hG hW).mono ?_; rintro e w5 ⟨rfl, hb5⟩
    replace hW := hW.below hb5
    replace hG := hG.below hb5
    replace hXl := hXl.below (fun g hg => hXo.lt hg) hb5
    replace hXo := hXo.below (fun g hg => hXo.lt hg) hb5
    replace BX := BX.below hb5 BX.lt
    replace BV := BV.below hb5 BV.lt
    replace K := K.up hb5
    have z_hb5 := hb5.size
    have hS0 := fun (w' : World) (hb : Below w5.heap.size w5 w') => (show (BoxV w' wX.heap.size t uX ∧ BoxV w' w.heap.size t e) ∧ Below w5.heap.size w5 w' from ⟨⟨(BX.below hb BX.lt).boxV, (BV.below hb BV.lt).boxV⟩, hb⟩)
    have hS2 := fun (w' w'' : World) (h : (BoxV w' wX.heap.size t uX ∧ BoxV w' w.heap.size t e) ∧ Below w5.heap.size w5 w') (hb : Below w'.heap.size w' w'') => hS0 w'' (h.2.up hb)
    have hT := fun (w' : World) (h : (BoxV w' wX.heap.size t uX ∧ BoxV w' w.heap.size t e) ∧ Below w5.heap.size w5 w') => hto w' (K.up h.2)
    have hE := fun (w' : World) (h : (BoxV w' wX.heap.size t uX ∧ BoxV w' w.heap.size t e) ∧ Below w5.heap.size w5 w') (z : El) (h1 : LsAt w' t.l z) (h2 : Own w' 0 z.fp) => l_eqVal t uX z w' (hXl.below (fun g hg => hXo.lt hg) h.2) h1 (fun g hg => Nat.lt_of_lt_of_le (hXo.lt hg) h.2.size) (fun g hg => h2.lt hg)
    clear hto
    go_wp2_with fail
    go_region_held3 (fun w' => (BoxV w' wX.heap.size t uX ∧ BoxV w' w.heap.size t e) ∧ Below w5.heap.size w5 w')
      (first | exact hS0 _ (Below.refl _ _).drew | (refine hS2 _ _ ?_ hbq; assumption) | (refine hS2 _ _ ?_ hbr; assumption))
      (first
        | (go_at_call 32; refine (hT _ (by assumption)).mono ?_; rintro e w2 ⟨z, rfl, hz1, hz2, hbq⟩)
        | (go_at_call 35; refine (hE _ (by assumption) _ hz1 (hz2.mono (Nat.zero_le _))).mono ?_; rintro e w3 ⟨rfl, hbr⟩))
    rename_i hHeld
    have kb6 := hHeld.2
    have hto := fun w1 (hb : Below w.heap.size w w1) => l_toVal t e w1 (hl.below hel hb) (hel.mono hb.size) hle
    rename_i w6 _
    clear hS0 hS2 hT hE hHeld
    replace hW := hW.below kb6
    replace hG := hG.below kb6
    replace hXl := hXl.below (fun g hg => hXo.lt hg) kb6
    replace hXo := hXo.below (fun g hg => hXo.lt hg) kb6
    replace BX := BX.below kb6 BX.lt
    replace BV := BV.below kb6 BV.lt
    replace K := K.up kb6
    have z_kb6 := kb6.size
    obtain ⟨v0, v1, v2, v3, v4⟩ := BX.boxV
    go_wp2_with fail
    clear v0 v1 v2 v3 v4
    refine (l_markVal t uX 1 _ _ hXl hXo (Nat.le_refl _) (by omega)).mono ?_; rintro e w8 ⟨rfl, hX8, hX9, hf8⟩
    have kf8 := hf8.below (B := wW.heap.size) (fun g hg => (frX g hg).1) (by omega)
    have z_8 := kf8.size
    replace BV := BV.below kf8 (by omega)
    replace K := K.trans (kf8.mono (by omega))
    replace hW := hW.fr hf8 (fun g hg hg2 => by have := (frX g hg2).1; have := toW0 g (.inl hg); omega) (fun g hg hg2 => by have := (frX g hg2).1; have := toW0 g (.inr hg); omega)
    replace hG := hG.fr hf8 (fun g hg hg2 => by have := toX g hg2; have := frG g (.inl hg); omega) (fun g hg hg2 => by have := toX g hg2; have := frG g (.inr hg); omega)
    clear hX8 hX9 hXl hXo BX
    go_wp2_with fail
    refine (l_eqPathS r _ _ _ _ _ _ _ _ _ _ _ hG hW).mono ?_; rintro e w9 ⟨rfl, hb9⟩
    replace hW := hW.below hb9
    replace hG := hG.below hb9
    replace BV := BV.below hb9 BV.lt
    replace K := K.up hb9
    have z_hb9 := hb9.size
    have hsum : 1 + 2 * (rsG.map Pl.n).sum ≤ 562949953421312 := by
      have h1 := hG.sum (M := 1048576) (fun q hq => by have := hbp q hq; simp at this; omega)
      have h2 := hG.len
      have : nG * 1048576 ≤ 1048577 * 1048576 := Nat.mul_le_mul_right _ (by omega)
      omega
    obtain ⟨ns, hns⟩ : ∃ ns, rsG.map Pl.n = ns := ⟨_, rfl⟩
    rw [hns] at hsum
    go_wp2_with fail
    refine (l_markPathS AG nG cG r rsG ns 1 _ _ hG hns hsum).mono ?_; rintro e w10 ⟨rfl, hG10, hf10⟩
    have kf10 := hf10.below (B := wW.heap.size) (fun g hg => by have := frG g (.inr hg); omega) (by omega)
    have z_10 := kf10.size
    replace BV := BV.below kf10 (by omega)
    replace K := K.trans (kf10.mono (by omega))
    replace hW := hW.fr hf10 (fun g hg hg2 => by have := frG g (.inr hg2); have := toW0 g (.inl hg); omega) (fun g hg hg2 => by have := frG g (.inr hg2); have := toW0 g (.inr hg); omega)
    replace hG := hG10
    obtain ⟨NS, hNS⟩ : ∃ NS, ns.sum = NS := ⟨_, rfl⟩
    have hheld := fun w' (h : PR w' wX.heap.size AG nG cG (markP 1 ns) rsG) => l_heldPathS AG nG cG rsG ns 1 w' wX.heap.size h hns hsum
    rw [hNS] at hheld hsum ⊢
    clear hns hNS
    replace hG := hG.mono (lo' := wX.heap.size) (by omega)
    go_wp2_with fail
    refine (hheld _ hG).mono ?_; rintro e w11 ⟨rfl, rfl⟩
    obtain ⟨v0, v1, v2, v3, v4⟩ := BV.boxV
    go_wp2_with fail
    clear v0 v1 v2 v3 v4
    refine (hto _ K).mono ?_; rintro e w12 ⟨u12, rfl, l12, o12, hb12⟩
    replace hW := hW.below hb12
    replace hG := hG.below hb12
    replace BV := BV.below hb12 BV.lt
    replace K := K.up hb12
    have z_hb12 := hb12.size
    go_wp2_with fail
    refine (hI _ _ l12 (fun g hg => o12.lt hg)).mono ?_; rintro e wH ⟨AH, nH, cH, rsH, rfl, hH, hbH⟩
    replace hW := hW.below hbH
    replace hG := hG.below hbH
    replace BV := BV.below hbH BV.lt
    replace K := K.up hbH
    have z_hbH := hbH.size
    go_wp2_with fail
    refine (l_eqPathS r _ _ _ _ _ _ _ _ _ _ _ hH hW).mono ?_; rintro e w14 ⟨rfl, hb14⟩
    replace hW := hW.below hb14
    replace hG := hG.below hb14
    replace hH := hH.below hb14
    replace BV := BV.below hb14 BV.lt
    replace K := K.up hb14
    have z_hb14 := hb14.size
    go_wp2_with fail
    refine (hheld _ hG).mono ?_; rintro e w15 ⟨rfl, rfl⟩
    go_wp2_with fail
    go_ret
    exact ⟨rfl, K⟩
  · have hres : szRes 1048576 t.sz = -1 := by unfold szRes; rw [if_neg (by omega)]
    rw [hres] at hsz
    go_enter Try.func6, Try.ntmps6
    go_wp2_with (go_at_call 30; refine (hsz _ (by exact Below.one _ _)).mono ?_; rintro r w1 ⟨rfl, hb1⟩)
    go_ret
    exact ⟨rfl, hb1.boxed⟩
end Go.Proofs.Ytnfokfogmniehaa
