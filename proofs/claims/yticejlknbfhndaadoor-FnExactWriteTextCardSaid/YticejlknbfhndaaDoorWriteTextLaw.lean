/- The law on WriteText. (Written by wip/gen/lawscal.py.) -/
import Derived.Test.YticejlknbfhndaaDoorWriteTextS
import Derived.Test.YticejlknbfhndaaDoorLessTight
import Derived.Test.YticejlknbfhndaaDoorOpenVal
set_option linter.unusedVariables false
set_option maxRecDepth 100000
set_option linter.unusedSimpArgs false
namespace Go.Proofs.YticejlknbfhndaaDoor
open Go.RowKit

set_option maxHeartbeats 2000000 in
theorem law_WriteText (a : Tr) (ea : El) (w : World) (hla : LsAt w a.l ea) (hea : ea.lt w.heap.size) (hwa : a.wf) (hU : Lib.Utf8Tabs 0 1 w) (hP : PowT w) :
    Calls Tryd.prog 9 #[trV a ea] w fun e' w' => e' = .returned (.bool true) ∧ Below w.heap.size w w' := by
  have K := Below.one w (.cells (valCells a ea) 24)
  have BA := Blk.new w 24 (valCells a ea)
  have hT : TabUP w := ⟨hU, hP⟩
  have hsa := fun w1 (hb : Below w.heap.size w w1) => l_szVal a ea 1048576 w1 hwa (hla.below hea hb) (hea.mono hb.size) (by decide) (by decide)
  by_cases hle : a.sz ≤ 1048576
  · have hres : szRes 1048576 a.sz = 1048576 - a.sz := by unfold szRes; rw [if_pos (by omega)]
    rw [hres] at hsa
    have hta := fun w1 (hb : Below w.heap.size w w1) => l_toVal a ea w1 (hla.below hea hb) (hea.mono hb.size) hle
    have hs := fun (u : El) w1 (h1 : LsAt w1 a.l u) (h2 : u.lt w1.heap.size) (hb : Below w.heap.size w w1) => s_WriteText a u w1 ⟨hwa, hle⟩ h1 h2 (hT.below hb)
    have hi := fun (u : El) w1 (h1 : LsAt w1 a.l u) (h2 : u.lt w1.heap.size) (hb : Below w.heap.size w w1) => i_WriteText a u w1 ⟨hwa, hle⟩ h1 h2 (hT.below hb)
    generalize writeTextS a = R at hs hi
    go_enter Tryd.func9, Tryd.ntmps9
    go_wp2_with (go_at_call 11; refine (hsa _ K).mono ?_; rintro e w5 ⟨rfl, hb5⟩; replace BA := BA.below hb5 BA.lt; replace K := K.up hb5; obtain ⟨v0, v1, v2, v3, v4⟩ := BA.boxV)
    clear hsa v0 v1 v2 v3 v4
    refine (hta _ K).mono ?_; rintro e w6 ⟨uW, rfl, hW, oW, hb6⟩
    replace BA := BA.below hb6 BA.lt
    replace K := K.up hb6
    go_wp2_with fail
    refine (hs uW _ hW (fun g hg => oW.lt hg) K).mono ?_; rintro e w7 ⟨rfl, hb7⟩
    replace BA := BA.below hb7 BA.lt
    replace K := K.up hb7
    obtain ⟨v0, v1, v2, v3, v4⟩ := BA.boxV
    clear hW oW hb6 hb5 hs
    go_wp2_with fail
    clear v0 v1 v2 v3 v4
    refine (hta _ K).mono ?_; rintro e wX ⟨uX, rfl, hX, oX, hbX⟩
    replace BA := BA.below hbX BA.lt
    replace K := K.up hbX
    have BX : Blk (wX.alloc (.cells (valCells a uX) 29)) wX.heap.size 29 (valCells a uX) := Blk.new wX _ _
    have hba := Below.one wX (.cells (valCells a uX) 29)
    replace hX := hX.below (fun g hg => oX.lt hg) hba
    replace oX := oX.below (fun g hg => oX.lt hg) hba
    replace BA := BA.below hba BA.lt
    replace K := K.up hba
    obtain ⟨v0, v1, v2, v3, v4⟩ := BX.boxV
    go_wp2_with fail
    clear v0 v1 v2 v3 v4
    refine (hi uX _ hX (fun g hg => oX.lt hg) K).mono ?_; rintro e wG ⟨rfl, hbG⟩
    replace hX := hX.below (fun g hg => oX.lt hg) hbG
    replace oX := oX.below (fun g hg => oX.lt hg) hbG
    replace BX := BX.below hbG BX.lt
    replace BA := BA.below hbG BA.lt
    replace K := K.up hbG
    have hS0 := fun (w' : World) (hb : Below wG.heap.size wG w') => boxVV BX BA hb
    have hS2 := fun (w' w'' : World) (h : BoxVV wG wX.heap.size a uX w.heap.size a ea w') (hb : Below w'.heap.size w' w'') => hS0 w'' (h.2.up hb)
    have hTt := fun (w' : World) (h : BoxVV wG wX.heap.size a uX w.heap.size a ea w') => hta w' (K.up h.2)
    have hE := fun (w' : World) (h : BoxVV wG wX.heap.size a uX w.heap.size a ea w') (z : El) (h1 : LsAt w' a.l z) (h2 : Own w' 0 z.fp) => l_eqVal a uX z w' (hX.below (fun g hg => oX.lt hg) h.2) h1 (fun g hg => Nat.lt_of_lt_of_le (oX.lt hg) h.2.size) (fun g hg => h2.lt hg)
    clear hi hla hea hT hU hP
    go_wp2_with fail
    go_region_held3 (fun w' => BoxVV wG wX.heap.size a uX w.heap.size a ea w')
      (first | exact hS0 _ (Below.refl _ _).drew | (refine hS2 _ _ ?_ hbq; assumption) | (refine hS2 _ _ ?_ hbr; assumption))
      (first
          | (go_at_call 13; refine (hTt _ (by assumption)).mono ?_; rintro e w2 ⟨z, rfl, hz1, hz2, hbq⟩)
          | (go_at_call 15; refine (hE _ (by assumption) _ hz1 (hz2.mono (Nat.zero_le _))).mono ?_; rintro e w3 ⟨rfl, hbr⟩))
    rename_i hHeld
    have kbz := hHeld.2
    clear hS0 hS2 hTt hE hHeld
    go_wp2_with fail
    go_ret
    exact ⟨rfl, K.up kbz⟩
  · have hres : szRes 1048576 a.sz = -1 := by unfold szRes; rw [if_neg (by omega)]
    rw [hres] at hsa
    go_enter Tryd.func9, Tryd.ntmps9
    go_wp2_with (go_at_call 11; refine (hsa _ K).mono ?_; rintro r w1 ⟨rfl, hb1⟩)
    go_ret
    exact ⟨rfl, K.up hb1⟩
end Go.Proofs.YticejlknbfhndaaDoor
