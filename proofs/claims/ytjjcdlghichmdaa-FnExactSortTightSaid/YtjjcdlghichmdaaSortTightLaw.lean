/- The law on SortTight. (Written by wip/gen/lawsort.py.) -/
import Derived.Test.YtjjcdlghichmdaaSortTightS
import Derived.Test.YtjjcdlghichmdaaMarkVal
import Derived.Test.YtjjcdlghichmdaaOpenVal
import Derived.Deep.RegionHeld3
set_option linter.unusedVariables false
set_option maxRecDepth 100000
set_option linter.unusedSimpArgs false
namespace Go.Proofs.Ytjjcdlghichmdaa
open Go.ChangeShapes Go.WideShapes Go.ChangeAt Go.RowKit

theorem szL_perm {a b : List Tr} (h : a.Perm b) : szL a = szL b := by
  unfold szL
  rw [h.length_eq, (h.map Tr.sz).sum_nat]
theorem sortT_sz (t : Tr) : (sortT t).sz = t.sz := by
  unfold sortT
  by_cases hc : t.k = 10 ∧ t.l.length % 2 = 0
  · rw [if_pos hc, Tr.sz_eq, t.sz_eq]
    have hp := accG_perm id t.l (t.l.length / 2) (by omega)
    rw [List.drop_eq_nil_of_le (by omega), List.append_nil] at hp
    show t.s.size + szL (accG id t.l (t.l.length / 2)) = _
    rw [szL_perm hp]
  · rw [if_neg hc]
theorem Blk.fr_ {w w' : World} {g : Nat} {T : TypeId} {cs : Array Value} {fp : List Nat} (h : Blk w g T cs) (hf : Fr fp w w') (hn : g ∉ fp) : Blk w' g T cs := (hf.block g h.lt hn).trans h

set_option maxHeartbeats 4000000 in
theorem law_SortTight (t : Tr) (e : El) (w : World) (hl : LsAt w t.l e) (hel : e.lt w.heap.size) (hwf : t.wf) :
    Calls Try.prog 3 #[trV t e] w fun e' w' => e' = .returned (.bool true) ∧ Below w.heap.size w w' := by
  have hsz := fun w1 (hb : Below w.heap.size w w1) => l_szVal t e 1048576 w1 hwf (hl.below hel hb) (hel.mono hb.size) (by decide) (by decide)
  have BV : Blk (w.alloc (.cells (valCells t e) 24)) w.heap.size 24 (valCells t e) := Blk.new w _ _
  have K := Below.one w (.cells (valCells t e) 24)
  have zV : (w.alloc (.cells (valCells t e) 24)).heap.size = w.heap.size + 1 := by simp
  by_cases hle : t.sz ≤ 1048576
  case neg =>
    have hres : szRes 1048576 t.sz = -1 := by unfold szRes; rw [if_neg (by omega)]
    rw [hres] at hsz
    go_enter Try.func3, Try.ntmps3
    go_wp2_with (go_at_call 4; refine (hsz _ K).mono ?_; rintro r w1 ⟨rfl, hb1⟩)
    go_ret
    exact ⟨rfl, K.up hb1⟩
  have hres : szRes 1048576 t.sz = 1048576 - t.sz := by unfold szRes; rw [if_pos (by omega)]
  rw [hres] at hsz
  have hto := fun w1 (hb : Below w.heap.size w w1) => l_toVal t e w1 (hl.below hel hb) (hel.mono hb.size) hle
  obtain ⟨R, hRz, hS, hI⟩ : ∃ (R : Tr), cntL R.l ≤ 16777216 ∧
      (∀ u w1, LsAt w1 t.l u → u.lt w1.heap.size → Calls Try.prog 5 #[trV t u] w1 fun r w' => ∃ v : El, r = .returned (trV R v) ∧ LsAt w' R.l v ∧ Own w' w1.heap.size v.fp ∧ Below w1.heap.size w1 w') ∧
      (∀ u w1, LsAt w1 t.l u → u.lt w1.heap.size → Calls Try.prog 7 #[trV t u] w1 fun r w' => ∃ v : El, r = .returned (trV R v) ∧ LsAt w' R.l v ∧ Own w' w1.heap.size v.fp ∧ Below w1.heap.size w1 w') := by
    refine ⟨sortT t, ?_, fun u w1 h1 h2 => s_SortTight t u w1 h1 h2 hwf hle, fun u w1 h1 h2 => i_SortTight t u w1 h1 h2 hwf hle⟩
    have h1 := cntT_sz (sortT t)
    have h2 := sortT_sz t
    omega
  have hcx : cntL t.l ≤ 4194304 := by have := cntT_sz t; omega
  have hle3 := Int.ofNat_le.2 hle
  clear hwf hres
  go_enter Try.func3, Try.ntmps3
  obtain ⟨p00, p01, p02, p03, p04⟩ := Blk.boxV BV
  go_wp2_with fail
  clear p00 p01 p02 p03 p04
  refine (hsz _ K).mono ?_; rintro e wz ⟨rfl, hbz⟩
  clear hsz
  replace BV := BV.below hbz BV.lt
  replace K := K.up hbz
  have z_hbz := hbz.size
  obtain ⟨p00, p01, p02, p03, p04⟩ := Blk.boxV BV
  go_wp2_with fail
  clear p00 p01 p02 p03 p04
  refine (hto _ K).mono ?_; rintro e wA ⟨uA, rfl, hA, oA, hbA⟩
  replace BV := BV.below hbA BV.lt
  replace K := K.up hbA
  have z_hbA := hbA.size
  have frA := fun g hg => (oA.2 g hg).1
  have toA := fun g hg => oA.lt (g := g) hg
  go_wp2_with fail
  refine (hS uA _ hA (fun g hg => oA.lt hg)).mono ?_; rintro e wW ⟨uW, rfl, hW, oW, hbW⟩
  replace BV := BV.below hbW BV.lt
  replace hA := hA.below (fun g hg => oA.lt hg) hbW
  replace oA := oA.below (fun g hg => oA.lt hg) hbW
  replace K := K.up hbW
  have z_hbW := hbW.size
  have frW := fun g hg => (oW.2 g hg).1
  have toW := fun g hg => oW.lt (g := g) hg
  clear hA oA frA toA
  have BW : Blk (wW.alloc (.cells (valCells R uW) 28)) wW.heap.size 28 (valCells R uW) := Blk.new wW _ _
  have hbxW := Below.one wW (.cells (valCells R uW) 28)
  have zbxW : (wW.alloc (.cells (valCells R uW) 28)).heap.size = wW.heap.size + 1 := by simp
  replace BV := BV.below hbxW BV.lt
  replace hW := hW.below (fun g hg => oW.lt hg) hbxW
  replace oW := oW.below (fun g hg => oW.lt hg) hbxW
  replace K := K.up hbxW
  have z_hbxW := hbxW.size
  obtain ⟨p00, p01, p02, p03, p04⟩ := Blk.boxV BV
  go_wp2_with fail
  clear p00 p01 p02 p03 p04
  refine (hto _ K).mono ?_; rintro e wX ⟨uX, rfl, hX, oX, hbX⟩
  replace BV := BV.below hbX BV.lt
  replace hW := hW.below (fun g hg => oW.lt hg) hbX
  replace oW := oW.below (fun g hg => oW.lt hg) hbX
  replace BW := BW.below hbX BW.lt
  replace K := K.up hbX
  have z_hbX := hbX.size
  have frX := fun g hg => (oX.2 g hg).1
  have toX := fun g hg => oX.lt (g := g) hg
  have BX : Blk (wX.alloc (.cells (valCells t uX) 28)) wX.heap.size 28 (valCells t uX) := Blk.new wX _ _
  have hbxX := Below.one wX (.cells (valCells t uX) 28)
  have zbxX : (wX.alloc (.cells (valCells t uX) 28)).heap.size = wX.heap.size + 1 := by simp
  replace BV := BV.below hbxX BV.lt
  replace hW := hW.below (fun g hg => oW.lt hg) hbxX
  replace oW := oW.below (fun g hg => oW.lt hg) hbxX
  replace BW := BW.below hbxX BW.lt
  replace hX := hX.below (fun g hg => oX.lt hg) hbxX
  replace oX := oX.below (fun g hg => oX.lt hg) hbxX
  replace K := K.up hbxX
  have z_hbxX := hbxX.size
  obtain ⟨p00, p01, p02, p03, p04⟩ := Blk.boxV BX
  go_wp2_with fail
  refine (hI uX _ hX (fun g hg => oX.lt hg)).mono ?_; rintro e wG ⟨uG, rfl, hG, oG, hbG⟩
  replace BV := BV.below hbG BV.lt
  replace hW := hW.below (fun g hg => oW.lt hg) hbG
  replace oW := oW.below (fun g hg => oW.lt hg) hbG
  replace BW := BW.below hbG BW.lt
  replace hX := hX.below (fun g hg => oX.lt hg) hbG
  replace oX := oX.below (fun g hg => oX.lt hg) hbG
  replace BX := BX.below hbG BX.lt
  replace K := K.up hbG
  have z_hbG := hbG.size
  have frG := fun g hg => (oG.2 g hg).1
  have toG := fun g hg => oG.lt (g := g) hg
  clear p00 p01 p02 p03 p04
  have BG : Blk (wG.alloc (.cells (valCells R uG) 28)) wG.heap.size 28 (valCells R uG) := Blk.new wG _ _
  have hbxG := Below.one wG (.cells (valCells R uG) 28)
  have zbxG : (wG.alloc (.cells (valCells R uG) 28)).heap.size = wG.heap.size + 1 := by simp
  replace BV := BV.below hbxG BV.lt
  replace hW := hW.below (fun g hg => oW.lt hg) hbxG
  replace oW := oW.below (fun g hg => oW.lt hg) hbxG
  replace BW := BW.below hbxG BW.lt
  replace hX := hX.below (fun g hg => oX.lt hg) hbxG
  replace oX := oX.below (fun g hg => oX.lt hg) hbxG
  replace BX := BX.below hbxG BX.lt
  replace hG := hG.below (fun g hg => oG.lt hg) hbxG
  replace oG := oG.below (fun g hg => oG.lt hg) hbxG
  replace K := K.up hbxG
  have z_hbxG := hbxG.size
  obtain ⟨p00, p01, p02, p03, p04⟩ := Blk.boxV BG
  obtain ⟨p10, p11, p12, p13, p14⟩ := Blk.boxV BW
  go_wp2_with fail
  clear p00 p01 p02 p03 p04 p10 p11 p12 p13 p14
  refine (l_eqVal R uG uW _ hG hW (fun g hg => oG.lt hg) (fun g hg => oW.lt hg)).mono ?_; rintro e w5 ⟨rfl, hb5⟩
  replace BV := BV.below hb5 BV.lt
  replace hW := hW.below (fun g hg => oW.lt hg) hb5
  replace oW := oW.below (fun g hg => oW.lt hg) hb5
  replace BW := BW.below hb5 BW.lt
  replace hX := hX.below (fun g hg => oX.lt hg) hb5
  replace oX := oX.below (fun g hg => oX.lt hg) hb5
  replace BX := BX.below hb5 BX.lt
  replace hG := hG.below (fun g hg => oG.lt hg) hb5
  replace oG := oG.below (fun g hg => oG.lt hg) hb5
  replace BG := BG.below hb5 BG.lt
  replace K := K.up hb5
  have z_hb5 := hb5.size
  have hS0 := fun (w' : World) (hb : Below w5.heap.size w5 w') => (show (BoxV w' wX.heap.size t uX ∧ BoxV w' w.heap.size t e) ∧ Below w5.heap.size w5 w' from ⟨⟨(BX.below hb BX.lt).boxV, (BV.below hb BV.lt).boxV⟩, hb⟩)
  have hS2 := fun (w' w'' : World) (h : (BoxV w' wX.heap.size t uX ∧ BoxV w' w.heap.size t e) ∧ Below w5.heap.size w5 w') (hb : Below w'.heap.size w' w'') => hS0 w'' (h.2.up hb)
  have hT := fun (w' : World) (h : (BoxV w' wX.heap.size t uX ∧ BoxV w' w.heap.size t e) ∧ Below w5.heap.size w5 w') => hto w' (K.up h.2)
  have hE := fun (w' : World) (h : (BoxV w' wX.heap.size t uX ∧ BoxV w' w.heap.size t e) ∧ Below w5.heap.size w5 w') (z : El) (h1 : LsAt w' t.l z) (h2 : Own w' 0 z.fp) => l_eqVal t uX z w' (hX.below (fun g hg => oX.lt hg) h.2) h1 (fun g hg => Nat.lt_of_lt_of_le (oX.lt hg) h.2.size) (fun g hg => h2.lt hg)
  go_wp2_with fail
  go_region_held3 (fun w' => (BoxV w' wX.heap.size t uX ∧ BoxV w' w.heap.size t e) ∧ Below w5.heap.size w5 w')
    (first | exact hS0 _ (Below.refl _ _).drew | (refine hS2 _ _ ?_ hbq; assumption) | (refine hS2 _ _ ?_ hbr; assumption))
    (first
      | (go_at_call 6; refine (hT _ (by assumption)).mono ?_; rintro e w2 ⟨z, rfl, hz1, hz2, hbq⟩)
      | (go_at_call 8; refine (hE _ (by assumption) _ hz1 (hz2.mono (Nat.zero_le _))).mono ?_; rintro e w3 ⟨rfl, hbr⟩))
  rename_i hHeld
  have kb6 := hHeld.2
  rename World => w6
  clear hS0 hS2 hT hE hHeld hbq hbr hz1 hz2
  replace BV := BV.below kb6 BV.lt
  replace hW := hW.below (fun g hg => oW.lt hg) kb6
  replace oW := oW.below (fun g hg => oW.lt hg) kb6
  replace BW := BW.below kb6 BW.lt
  replace hX := hX.below (fun g hg => oX.lt hg) kb6
  replace oX := oX.below (fun g hg => oX.lt hg) kb6
  replace BX := BX.below kb6 BX.lt
  replace hG := hG.below (fun g hg => oG.lt hg) kb6
  replace oG := oG.below (fun g hg => oG.lt hg) kb6
  replace BG := BG.below kb6 BG.lt
  replace K := K.up kb6
  have z_kb6 := kb6.size
  obtain ⟨p00, p01, p02, p03, p04⟩ := Blk.boxV BX
  go_wp2_with fail
  clear p00 p01 p02 p03 p04
  refine (l_markVal t uX (1) _ _ hX oX (by omega) (by omega)).mono ?_; rintro e w9 ⟨rfl, hX9, oX9, hf9⟩
  have frF := frX
  have toF := toX
  have zz9 := hf9.size
  have kf9 := hf9.below (B := wz.heap.size) (fun g hg => by have := frX g hg; omega) (by omega)
  replace BV := Blk.fr_ BV hf9 (fun hg2 => by have := toF _ hg2; have := frF _ hg2; omega)
  replace hW := hW.fr hf9 (fun g hg => oW.lt hg) (fun g hg hg2 => by have := toW g hg; have := frW g hg; have := toF g hg2; have := frF g hg2; omega)
  replace oW := oW.fr hf9 (fun g hg hg2 => by have := toW g hg; have := frW g hg; have := toF g hg2; have := frF g hg2; omega)
  replace BW := Blk.fr_ BW hf9 (fun hg2 => by have := toF _ hg2; have := frF _ hg2; omega)
  replace BX := Blk.fr_ BX hf9 (fun hg2 => by have := toF _ hg2; have := frF _ hg2; omega)
  replace hG := hG.fr hf9 (fun g hg => oG.lt hg) (fun g hg hg2 => by have := toG g hg; have := frG g hg; have := toF g hg2; have := frF g hg2; omega)
  replace oG := oG.fr hf9 (fun g hg hg2 => by have := toG g hg; have := frG g hg; have := toF g hg2; have := frF g hg2; omega)
  replace BG := Blk.fr_ BG hf9 (fun hg2 => by have := toF _ hg2; have := frF _ hg2; omega)
  replace K := K.trans (kf9.mono (by omega))
  clear hX9 oX9 hX oX frF toF BX
  obtain ⟨p00, p01, p02, p03, p04⟩ := Blk.boxV BG
  obtain ⟨p10, p11, p12, p13, p14⟩ := Blk.boxV BW
  go_wp2_with fail
  clear p00 p01 p02 p03 p04 p10 p11 p12 p13 p14
  refine (l_eqVal R uG uW _ hG hW (fun g hg => oG.lt hg) (fun g hg => oW.lt hg)).mono ?_; rintro e w11 ⟨rfl, hb11⟩
  replace BV := BV.below hb11 BV.lt
  replace hW := hW.below (fun g hg => oW.lt hg) hb11
  replace oW := oW.below (fun g hg => oW.lt hg) hb11
  replace BW := BW.below hb11 BW.lt
  replace hG := hG.below (fun g hg => oG.lt hg) hb11
  replace oG := oG.below (fun g hg => oG.lt hg) hb11
  replace BG := BG.below hb11 BG.lt
  replace K := K.up hb11
  have z_hb11 := hb11.size
  obtain ⟨p00, p01, p02, p03, p04⟩ := Blk.boxV BG
  go_wp2_with fail
  clear p00 p01 p02 p03 p04
  refine (l_markVal R uG (1) _ _ hG oG (by omega) (by omega)).mono ?_; rintro e w12 ⟨rfl, hG12, oG12, hf12⟩
  have frF := frG
  have toF := toG
  have zz12 := hf12.size
  have kf12 := hf12.below (B := wz.heap.size) (fun g hg => by have := frG g hg; omega) (by omega)
  replace BV := Blk.fr_ BV hf12 (fun hg2 => by have := toF _ hg2; have := frF _ hg2; omega)
  replace hW := hW.fr hf12 (fun g hg => oW.lt hg) (fun g hg hg2 => by have := toW g hg; have := frW g hg; have := toF g hg2; have := frF g hg2; omega)
  replace oW := oW.fr hf12 (fun g hg hg2 => by have := toW g hg; have := frW g hg; have := toF g hg2; have := frF g hg2; omega)
  replace BW := Blk.fr_ BW hf12 (fun hg2 => by have := toF _ hg2; have := frF _ hg2; omega)
  replace BG := Blk.fr_ BG hf12 (fun hg2 => by have := toF _ hg2; have := frF _ hg2; omega)
  replace K := K.trans (kf12.mono (by omega))
  replace hG := hG12
  replace oG := oG12
  clear frF toF
  obtain ⟨p00, p01, p02, p03, p04⟩ := Blk.boxV BG
  go_wp2_with fail
  clear p00 p01 p02 p03 p04
  refine (l_heldVal R uG 1 _ hG (fun g hg => oG.lt hg) (by omega) (by omega)).mono ?_; rintro e w13 ⟨rfl, hb13⟩
  replace BV := BV.below hb13 BV.lt
  replace hW := hW.below (fun g hg => oW.lt hg) hb13
  replace oW := oW.below (fun g hg => oW.lt hg) hb13
  replace BW := BW.below hb13 BW.lt
  replace hG := hG.below (fun g hg => oG.lt hg) hb13
  replace oG := oG.below (fun g hg => oG.lt hg) hb13
  replace BG := BG.below hb13 BG.lt
  replace K := K.up hb13
  have z_hb13 := hb13.size
  obtain ⟨p00, p01, p02, p03, p04⟩ := Blk.boxV BV
  go_wp2_with fail
  clear p00 p01 p02 p03 p04
  refine (hto _ K).mono ?_; rintro e wY ⟨uY, rfl, hY, oY, hbY⟩
  replace BV := BV.below hbY BV.lt
  replace hW := hW.below (fun g hg => oW.lt hg) hbY
  replace oW := oW.below (fun g hg => oW.lt hg) hbY
  replace BW := BW.below hbY BW.lt
  replace hG := hG.below (fun g hg => oG.lt hg) hbY
  replace oG := oG.below (fun g hg => oG.lt hg) hbY
  replace BG := BG.below hbY BG.lt
  replace K := K.up hbY
  have z_hbY := hbY.size
  have frY := fun g hg => (oY.2 g hg).1
  have toY := fun g hg => oY.lt (g := g) hg
  go_wp2_with fail
  refine (hI uY _ hY (fun g hg => oY.lt hg)).mono ?_; rintro e wH ⟨uH, rfl, hH, oH, hbH⟩
  replace BV := BV.below hbH BV.lt
  replace hW := hW.below (fun g hg => oW.lt hg) hbH
  replace oW := oW.below (fun g hg => oW.lt hg) hbH
  replace BW := BW.below hbH BW.lt
  replace hG := hG.below (fun g hg => oG.lt hg) hbH
  replace oG := oG.below (fun g hg => oG.lt hg) hbH
  replace BG := BG.below hbH BG.lt
  replace hY := hY.below (fun g hg => oY.lt hg) hbH
  replace oY := oY.below (fun g hg => oY.lt hg) hbH
  replace K := K.up hbH
  have z_hbH := hbH.size
  have frH := fun g hg => (oH.2 g hg).1
  have toH := fun g hg => oH.lt (g := g) hg
  clear hY oY frY toY
  have BH : Blk (wH.alloc (.cells (valCells R uH) 28)) wH.heap.size 28 (valCells R uH) := Blk.new wH _ _
  have hbxH := Below.one wH (.cells (valCells R uH) 28)
  have zbxH : (wH.alloc (.cells (valCells R uH) 28)).heap.size = wH.heap.size + 1 := by simp
  replace BV := BV.below hbxH BV.lt
  replace hW := hW.below (fun g hg => oW.lt hg) hbxH
  replace oW := oW.below (fun g hg => oW.lt hg) hbxH
  replace BW := BW.below hbxH BW.lt
  replace hG := hG.below (fun g hg => oG.lt hg) hbxH
  replace oG := oG.below (fun g hg => oG.lt hg) hbxH
  replace BG := BG.below hbxH BG.lt
  replace hH := hH.below (fun g hg => oH.lt hg) hbxH
  replace oH := oH.below (fun g hg => oH.lt hg) hbxH
  replace K := K.up hbxH
  have z_hbxH := hbxH.size
  obtain ⟨p00, p01, p02, p03, p04⟩ := Blk.boxV BH
  obtain ⟨p10, p11, p12, p13, p14⟩ := Blk.boxV BW
  go_wp2_with fail
  clear p00 p01 p02 p03 p04 p10 p11 p12 p13 p14
  refine (l_eqVal R uH uW _ hH hW (fun g hg => oH.lt hg) (fun g hg => oW.lt hg)).mono ?_; rintro e w14 ⟨rfl, hb14⟩
  replace BV := BV.below hb14 BV.lt
  replace hW := hW.below (fun g hg => oW.lt hg) hb14
  replace oW := oW.below (fun g hg => oW.lt hg) hb14
  replace BW := BW.below hb14 BW.lt
  replace hG := hG.below (fun g hg => oG.lt hg) hb14
  replace oG := oG.below (fun g hg => oG.lt hg) hb14
  replace BG := BG.below hb14 BG.lt
  replace hH := hH.below (fun g hg => oH.lt hg) hb14
  replace oH := oH.below (fun g hg => oH.lt hg) hb14
  replace BH := BH.below hb14 BH.lt
  replace K := K.up hb14
  have z_hb14 := hb14.size
  obtain ⟨p00, p01, p02, p03, p04⟩ := Blk.boxV BG
  go_wp2_with fail
  clear p00 p01 p02 p03 p04
  refine (l_heldVal R uG 1 _ hG (fun g hg => oG.lt hg) (by omega) (by omega)).mono ?_; rintro e w15 ⟨rfl, hb15⟩
  replace BV := BV.below hb15 BV.lt
  replace hW := hW.below (fun g hg => oW.lt hg) hb15
  replace oW := oW.below (fun g hg => oW.lt hg) hb15
  replace BW := BW.below hb15 BW.lt
  replace hG := hG.below (fun g hg => oG.lt hg) hb15
  replace oG := oG.below (fun g hg => oG.lt hg) hb15
  replace BG := BG.below hb15 BG.lt
  replace hH := hH.below (fun g hg => oH.lt hg) hb15
  replace oH := oH.below (fun g hg => oH.lt hg) hb15
  replace BH := BH.below hb15 BH.lt
  replace K := K.up hb15
  have z_hb15 := hb15.size
  go_wp2_with fail
  go_ret
  exact ⟨rfl, K⟩
end Go.Proofs.Ytjjcdlghichmdaa
