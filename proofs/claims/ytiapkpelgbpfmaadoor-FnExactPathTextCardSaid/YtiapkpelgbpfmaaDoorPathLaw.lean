/- The law FnExactPathText. -/
import Derived.Test.YtiapkpelgbpfmaaDoorPathTextS
import Derived.Test.YtiapkpelgbpfmaaDoorAtPathLaw
set_option linter.unusedVariables false
set_option maxRecDepth 100000
set_option linter.unusedSimpArgs false
namespace Go.Proofs.YtiapkpelgbpfmaaDoor
open Go.RowKit

set_option maxHeartbeats 2000000 in
theorem law_PathText (t : Tr) (e : El) (A : Option Addr) (n c : Nat) (ps : List (Int × Bool)) (w : World) (hl : LsAt w t.l e) (hel : e.lt w.heap.size) (hwf : t.wf) (hps : Sl w w.heap.size 2 A n c (stC ps)) (hpb : ∀ p ∈ ps, -9223372036854775808 ≤ p.1 ∧ p.1 ≤ 9223372036854775807) (hPw : PowT w) :
    Calls Tryd.prog 6 #[trV t e, .slice A n c] w fun e' w' => e' = .returned (.bool true) ∧ Below w.heap.size w w' := by
  have hsz := fun w1 (hb : Below w.heap.size w w1) => l_szVal t e 1048576 w1 hwf (hl.below hel hb) (hel.mono hb.size) (by decide) (by decide)
  have hnm : n ≤ 9223372036854775807 := by have := hps.cap; have := hps.max; unfold maxLen at *; omega
  have BV : Blk (w.alloc (.cells (valCells t e) 29)) w.heap.size 29 (valCells t e) := Blk.new w _ _
  have K := Below.one w (.cells (valCells t e) 29)
  have zV : (w.alloc (.cells (valCells t e) 29)).heap.size = w.heap.size + 1 := by simp
  by_cases hle : t.sz ≤ 1048576
  · have hres : szRes 1048576 t.sz = 1048576 - t.sz := by unfold szRes; rw [if_pos (by omega)]
    rw [hres] at hsz
    have hss := fun w1 => l_szStepS A n c (1048576 - t.sz) w1 hnm (by omega) (by omega)
    by_cases hln : (n : Int) ≤ 1048576 - t.sz
    case neg =>
      rw [if_neg hln] at hss
      go_enter Tryd.func6, Tryd.ntmps6
      go_wp2_with (first
        | (go_at_call 19; refine (hsz _ K).mono ?_; rintro r w1 ⟨rfl, hb1⟩)
        | (go_at_call 20; refine (hss _).mono ?_; rintro r w2 ⟨rfl, rfl⟩))
      go_ret
      exact ⟨rfl, K.up hb1⟩
    rw [if_pos hln] at hss
    have hto := fun w1 (hb : Below w.heap.size w w1) => l_toVal t e w1 (hl.below hel hb) (hel.mono hb.size) hle
    have hst := fun w1 (hb : Below w.heap.size w w1) => l_toStepS A n c ps w1 w.heap.size (hps.below hb) hb.size (by omega)
    have hSp := fun lo u A' c' w1 (h1 : LsAt w1 t.l u) (h2 : u.lt w1.heap.size) (h3 : SS w1 lo A' n c' ps) => s_PathText t u A' n c' ps w1 h1 h2 hle h3.sl (by omega) hpb
    have hIp := fun lo u A' c' w1 (h1 : LsAt w1 t.l u) (h2 : u.lt w1.heap.size) (h3 : SS w1 lo A' n c' ps) (hK : Below w.heap.size w w1) => i_PathText t u A' n c' ps w1 h1 h2 hle h3.sl (by omega) hpb (hPw.below hK)
    obtain ⟨Q, hQ⟩ : ∃ Q, 36 :: pathTxt t ps = Q := ⟨_, rfl⟩
    rw [hQ] at hSp hIp
    clear hres hwf hpb hQ
    go_enter Tryd.func6, Tryd.ntmps6
    obtain ⟨p00, p01, p02, p03, p04⟩ := Blk.boxV BV
    go_wp2_with fail
    clear p00 p01 p02 p03 p04
    refine (hsz _ K).mono ?_; rintro e wz ⟨rfl, hbz⟩
    clear hsz
    replace BV := BV.below hbz BV.lt
    replace K := K.up hbz
    go_wp2_with fail
    refine (hss _).mono ?_; rintro r wz2 ⟨rfl, rfl⟩
    obtain ⟨p00, p01, p02, p03, p04⟩ := Blk.boxV BV
    go_wp2_with fail
    clear p00 p01 p02 p03 p04
    refine (hto _ K).mono ?_; rintro e wa ⟨ua, rfl, ha, oa, hba⟩
    replace BV := BV.below hba BV.lt
    replace K := K.up hba
    go_wp2_with fail
    refine (hst _ K).mono ?_; rintro e wb ⟨Ab, cb, rfl, hb, hbb⟩
    replace BV := BV.below hbb BV.lt
    replace ha := ha.below (fun g hg => oa.lt hg) hbb
    replace oa := oa.below (fun g hg => oa.lt hg) hbb
    replace K := K.up hbb
    go_wp2_with fail
    refine (hSp _ _ _ _ _ ha (fun g hg => oa.lt hg) hb).mono ?_; rintro e wW ⟨rfl, hbW⟩
    replace BV := BV.below hbW BV.lt
    replace K := K.up hbW
    clear ha hb oa hSp
    obtain ⟨p00, p01, p02, p03, p04⟩ := Blk.boxV BV
    go_wp2_with fail
    clear p00 p01 p02 p03 p04
    refine (hto _ K).mono ?_; rintro e wX ⟨uX, rfl, hX, oX, hbX⟩
    replace BV := BV.below hbX BV.lt
    replace K := K.up hbX
    have BX : Blk (wX.alloc (.cells (valCells t uX) 36)) wX.heap.size 36 (valCells t uX) := Blk.new wX _ _
    have hbxX := Below.one wX (.cells (valCells t uX) 36)
    replace BV := BV.below hbxX BV.lt
    replace hX := hX.below (fun g hg => oX.lt hg) hbxX
    replace oX := oX.below (fun g hg => oX.lt hg) hbxX
    replace K := K.up hbxX
    go_wp2_with fail
    refine (hst _ K).mono ?_; rintro e wP ⟨AP, cP, rfl, hP, hbP⟩
    replace BV := BV.below hbP BV.lt
    replace hX := hX.below (fun g hg => oX.lt hg) hbP
    replace oX := oX.below (fun g hg => oX.lt hg) hbP
    replace BX := BX.below hbP BX.lt
    replace K := K.up hbP
    obtain ⟨p00, p01, p02, p03, p04⟩ := Blk.boxV BX
    go_wp2_with fail
    clear p00 p01 p02 p03 p04
    refine (hIp _ _ _ _ _ hX (fun g hg => oX.lt hg) hP K).mono ?_; rintro e w5 ⟨rfl, hbG⟩
    replace BV := BV.below hbG BV.lt
    replace hX := hX.below (fun g hg => oX.lt hg) hbG
    replace oX := oX.below (fun g hg => oX.lt hg) hbG
    replace BX := BX.below hbG BX.lt
    replace hP := hP.below hbG
    replace K := K.up hbG
    clear hIp
    have hS0 := fun (w' : World) (hb : Below w5.heap.size w5 w') => (show (BoxV w' wX.heap.size t uX ∧ BoxV w' w.heap.size t e) ∧ Below w5.heap.size w5 w' from ⟨⟨(BX.below hb BX.lt).boxV, (BV.below hb BV.lt).boxV⟩, hb⟩)
    have hS2 := fun (w' w'' : World) (h : (BoxV w' wX.heap.size t uX ∧ BoxV w' w.heap.size t e) ∧ Below w5.heap.size w5 w') (hb : Below w'.heap.size w' w'') => hS0 w'' (h.2.up hb)
    have hT := fun (w' : World) (h : (BoxV w' wX.heap.size t uX ∧ BoxV w' w.heap.size t e) ∧ Below w5.heap.size w5 w') => hto w' (K.up h.2)
    have hE := fun (w' : World) (h : (BoxV w' wX.heap.size t uX ∧ BoxV w' w.heap.size t e) ∧ Below w5.heap.size w5 w') (z : El) (h1 : LsAt w' t.l z) (h2 : Own w' 0 z.fp) => l_eqVal t uX z w' (hX.below (fun g hg => oX.lt hg) h.2) h1 (fun g hg => Nat.lt_of_lt_of_le (oX.lt hg) h.2.size) (fun g hg => h2.lt hg)
    go_wp2_with fail
    go_region_held3 (fun w' => (BoxV w' wX.heap.size t uX ∧ BoxV w' w.heap.size t e) ∧ Below w5.heap.size w5 w')
      (first | exact hS0 _ (Below.refl _ _).drew | (refine hS2 _ _ ?_ hbq; assumption) | (refine hS2 _ _ ?_ hbr; assumption))
      (first
        | (go_at_call 22; refine (hT _ (by assumption)).mono ?_; rintro e w2 ⟨z, rfl, hz1, hz2, hbq⟩)
        | (go_at_call 25; refine (hE _ (by assumption) _ hz1 (hz2.mono (Nat.zero_le _))).mono ?_; rintro e w3 ⟨rfl, hbr⟩))
    rename_i hHeld
    have kb6 := hHeld.2
    clear hS0 hS2 hT hE hHeld hbq hbr hz1 hz2
    replace hP := hP.below kb6
    replace K := K.up kb6
    clear hX oX BX BV
    go_wp2_with fail
    refine (hst _ K).mono ?_; rintro e w7 ⟨A7, c7, rfl, h7, hb7⟩
    replace hP := hP.below hb7
    replace K := K.up hb7
    go_wp2_with fail
    refine (l_eqStepS ps _ _ _ _ _ _ _ hP.sl h7.sl).mono ?_; rintro e w8 ⟨rfl, hb8⟩
    replace K := K.up hb8
    go_wp2_with fail
    go_ret
    exact ⟨rfl, K⟩
  · have hres : szRes 1048576 t.sz < 0 := by unfold szRes; rw [if_neg (by omega)]; decide
    go_enter Tryd.func6, Tryd.ntmps6
    go_wp2_with (first
      | (go_at_call 19; refine (hsz _ K).mono ?_; rintro r w1 ⟨rfl, hb1⟩))
    go_ret
    exact ⟨rfl, K.up hb1⟩
end Go.Proofs.YtiapkpelgbpfmaaDoor
