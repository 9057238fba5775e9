/- The law FnPaths. Written by gen/pathslaw.py. -/
import Derived.Test.YtpafgmlkbbbmhaaDoorPqPathDraws2
import Derived.Test.YtpafgmlkbbbmhaaDoorPqPathLess
import Derived.Test.YtpafgmlkbbbmhaaDoorPqM46
import Derived.Test.YtpafgmlkbbbmhaaDoorPqPathTextS
import Derived.Test.YtpafgmlkbbbmhaaDoorPqM48
set_option linter.unusedVariables false
set_option maxRecDepth 100000
set_option linter.unusedSimpArgs false
namespace Go.Proofs.YtpafgmlkbbbmhaaDoor
open Go.RowKit

/-- A tree in a box of five cells. -/
structure TB (w : World) (g : Nat) (t : Tr) (e : El) : Prop where
  blk : Blk w g 26 (valCells t e)
  ls : LsAt w t.l e
  lt : e.lt w.heap.size
theorem TB.below {w w' : World} {g : Nat} {t : Tr} {e : El} (h : TB w g t e) (hb : Below w.heap.size w w') : TB w' g t e := ⟨h.blk.below hb h.blk.lt, h.ls.below h.lt hb, h.lt.mono hb.size⟩
theorem TB.new {w : World} {t : Tr} {e : El} (hl : LsAt w t.l e) (ht : e.lt w.heap.size) : TB (w.alloc (.cells (valCells t e) 26)) w.heap.size t e :=
  ⟨Blk.new w _ _, hl.below ht (Below.one _ _), ht.mono (Below.one _ _).size⟩
/-- A tree and a truth value returned. -/
def TrRet (w w' : World) (r : Ending) (t : Tr) (b : Bool) : Prop := ∃ u : El, r = .returned (.tuple #[trV t u, .bool b]) ∧ LsAt w' t.l u ∧ u.lt w'.heap.size ∧ Below w.heap.size w w'
theorem AtOf.ret {w w' : World} {r : Ending} {o : Option Tr} (h : AtOf w w' r o) : TrRet w w' r (o.getD zT) o.isSome := by
  obtain ⟨u, h1, h2, h3, h4⟩ := h
  exact ⟨u, h1, h2, fun x hx => h3.lt hx, h4⟩
theorem sameT_rfl (t : Tr) : sameT t t = true := sameT_iff.2 rfl
theorem same_tb {w : World} {g1 g2 : Nat} {t : Tr} {e1 e2 : El} (h1 : TB w g1 t e1) (h2 : TB w g2 t e2) : Calls Tryd.prog 17 #[trV t e1, trV t e2] w fun r w' => r = .returned (.bool true) ∧ Below w.heap.size w w' := by
  have h := l_sameVal t t e1 e2 w h1.ls h2.ls h1.lt h2.lt
  rw [sameT_rfl] at h
  exact h
theorem goodPs_all (v : Tr) (hv : v.sz ≤ 400000) : ∃ L, pathsT v [] = L ∧ (∀ j (h : j < L.length), (atPath v L[j]).isSome = true) ∧ (∀ j (h : j + 1 < L.length), lessP L[j] L[j + 1] = true) ∧ L.length = valT v ∧ (∃ h : 0 < L.length, L[0] = []) ∧ ∀ q ∈ L, q.length ≤ 400000 := by
  have hG := goodPs v []
  have hB := (pathsT_bd v []).2
  have hE := pathsT_eq v []
  refine ⟨_, rfl, fun j h => ?_, fun j h => ?_, hG.cnt, ?_, fun q hq => ?_⟩
  · obtain ⟨r, e, hr⟩ := hG.each _ (List.getElem_mem h)
    rw [e]; exact hr
  · exact List.pairwise_iff_getElem.1 hG.asc j (j + 1) (by omega) h (by omega)
  · refine ⟨by rw [hE]; simp, ?_⟩
    have h0 := pathsT_head v
    exact (List.getElem_eq_iff _).2 h0
  · have := hB q hq
    simp at this
    omega
set_option maxHeartbeats 16000000 in
theorem law_FnPaths (A : Option Addr) (n c : Nat) (b : List UInt8) (w : World) (h : Sl w w.heap.size 1 A n c (u8s b)) (hPw : PowT w) :
    Calls Tryd.prog 3 #[.slice A n c] w fun e' w' => e' = .returned (.bool true) ∧ Below w.heap.size w w' := by
  have hn9 : n ≤ 9223372036854775807 := by have := h.cap; have := h.max; unfold maxLen at *; omega
  have hbig := fun w1 => l_big A n c w1 hn9
  by_cases hn : 1048576 < n
  · rw [decide_eq_true hn] at hbig
    go_enter Tryd.func3, Tryd.ntmps3
    go_wp2_with (go_at_call 4; refine (hbig _).mono ?_; rintro e w1 ⟨rfl, rfl⟩)
    go_ret
    exact ⟨rfl, Below.refl _ _⟩
  · rw [decide_eq_false hn] at hbig
    have hnn : n ≤ 1048576 := by omega
    clear hn hn9
    go_enter Tryd.func3, Tryd.ntmps3
    go_wp2_with fail
    refine (hbig _).mono ?_; rintro e w1 ⟨rfl, rfl⟩
    clear hbig
    go_wp2_with fail
    refine (s_DrawVal A n c b _ h hnn).mono ?_; rintro r w1 ⟨v, e, rfl, hlv, hte, hvs, hb1⟩
    have kq := Below.one w1 (.cells (valCells v e) 26)
    have kr := hb1.up kq
    replace h := (h.below kr).more kr.size
    have TV := TB.new hlv hte
    clear hlv hte kq
    have K := kr
    clear kr
    go_wp2_with fail
    refine (s_DrawAllPaths A n c b _ h hnn).mono ?_; rintro r w2 ⟨u, eu, rfl, hlu, htu, hus, hb2⟩
    have kq := Below.one w2 (.cells (valCells u eu) 26)
    have kr := hb2.up kq
    replace h := (h.below kr).more kr.size
    replace TV := TV.below kr
    have TU := TB.new hlu htu
    clear hlu htu kq
    replace K := K.up kr
    clear kr
    go_wp2_with fail
    refine (s_DrawAtPath A n c b _ h hnn).mono ?_; rintro r w3 ⟨x, ex, A6, m6, c6, ps, rfl, hlx, htx, hxs, hS, hm6, hps, hb3⟩
    have kq := Below.one w3 (.cells (valCells x ex) 26)
    have kr := hb3.up kq
    replace h := (h.below kr).more kr.size
    replace TV := TV.below kr
    replace TU := TU.below kr
    have TX := TB.new hlx htx
    replace hS := (hS.below kq).more kq.size
    clear hlx htx kq
    replace K := K.up kr
    clear kr
    obtain ⟨O1, hO1⟩ : ∃ O, atPath x ps = O := ⟨_, rfl⟩
    have hAi := fun w' (hx : TB w' w3.heap.size x ex) (hs : Sl w' w'.heap.size 2 A6 m6 c6 (stC ps)) => (i_AtPath x ex A6 m6 c6 ps w' hx.ls hx.lt (by omega) hs).mono fun r w2 h => h.ret
    have hAs := fun w' (hx : TB w' w3.heap.size x ex) (hs : Sl w' w'.heap.size 2 A6 m6 c6 (stC ps)) => (s_AtPath x ex A6 m6 c6 ps w' hx.ls hx.lt (by omega) hs hps).mono fun r w2 h => h.ret
    simp only [hO1] at hAi hAs
    clear hO1
    generalize O1.getD zT = y1 at hAi hAs
    generalize O1.isSome = o1 at hAi hAs
    obtain ⟨a0, a1, a2, a3, a4⟩ := TX.blk.boxV
    go_wp2_with fail
    refine (hAi _ TX hS).mono ?_; rintro r w4 ⟨u1, rfl, hl1, ht1, hb4⟩
    have kq := Below.one w4 (.cells (valCells y1 u1) 26)
    have kr := hb4.up kq
    replace h := (h.below kr).more kr.size
    replace TV := TV.below kr
    replace TU := TU.below kr
    replace TX := TX.below kr
    replace hS := (hS.below kr).more kr.size
    have T1 := TB.new hl1 ht1
    clear hl1 ht1 kq
    replace K := K.up kr
    clear kr
    clear a0 a1 a2 a3 a4
    obtain ⟨a0, a1, a2, a3, a4⟩ := TX.blk.boxV
    go_wp2_with fail
    refine (hAs _ TX hS).mono ?_; rintro r w5 ⟨u2, rfl, hl2, ht2, hb5⟩
    have kq := Below.one w5 (.cells (valCells y1 u2) 26)
    have kr := hb5.up kq
    replace h := (h.below kr).more kr.size
    replace TV := TV.below kr
    replace TU := TU.below kr
    replace TX := TX.below kr
    replace hS := (hS.below kr).more kr.size
    replace T1 := T1.below kr
    have T2 := TB.new hl2 ht2
    clear hl2 ht2 kq
    replace K := K.up kr
    clear kr
    clear a0 a1 a2 a3 a4
    clear hAi hAs
    go_wp2_with fail
    refine (s_DrawStepVal A n c b _ h hnn).mono ?_; rintro r w6 ⟨s, es, p, rfl, hls, hts, hss, hp, hb6⟩
    have kq := Below.one w6 (.cells (valCells s es) 26)
    have kq2 := Below.one (w6.alloc (.cells (valCells s es) 26)) (.cells #[.int .i64 p.1, .bool p.2] 34)
    have kr := (hb6.up kq).up kq2
    replace h := (h.below kr).more kr.size
    replace TV := TV.below kr
    replace TU := TU.below kr
    replace TX := TX.below kr
    replace hS := (hS.below kr).more kr.size
    replace T1 := T1.below kr
    replace T2 := T2.below kr
    have TS := (TB.new hls hts).below kq2
    have BP := Blk.new (w6.alloc (.cells (valCells s es) 26)) 34 #[.int .i64 p.1, .bool p.2]
    have hz : (w6.alloc (.cells (valCells s es) 26)).heap.size = w6.heap.size + 1 := by simp
    rw [hz] at BP
    replace K := K.up kr
    clear hls hts kq kq2 kr hb6 hz
    obtain ⟨O2, hO2⟩ : ∃ O, stepT s p = O := ⟨_, rfl⟩
    have hVi := fun w' (hx : TB w' w6.heap.size s es) => (i_StepVal s es p w' hx.ls hx.lt (by omega)).mono fun r w2 h => h.ret
    have hVs := fun w' (hx : TB w' w6.heap.size s es) => (s_StepVal s es p w' hx.ls hx.lt (by omega) hp).mono fun r w2 h => h.ret
    simp only [hO2] at hVi hVs
    clear hO2
    generalize O2.getD zT = y2 at hVi hVs
    generalize O2.isSome = o2 at hVi hVs
    go_upto_region 9 with fail
    obtain ⟨a0, a1, a2, a3, a4⟩ := TS.blk.boxV
    have q0 := BP.cell 0
    have q1 := BP.cell 1
    go_wp2_with fail
    refine (hVi _ TS).mono ?_; rintro r w7 ⟨u3, rfl, hl3, ht3, hb7⟩
    have kq := Below.one w7 (.cells (valCells y2 u3) 26)
    have kr := hb7.up kq
    replace h := (h.below kr).more kr.size
    replace TV := TV.below kr
    replace TU := TU.below kr
    replace TX := TX.below kr
    replace hS := (hS.below kr).more kr.size
    replace T1 := T1.below kr
    replace T2 := T2.below kr
    replace TS := TS.below kr
    replace BP := BP.below kr BP.lt
    have T3 := TB.new hl3 ht3
    clear hl3 ht3 kq
    replace K := K.up kr
    clear kr
    clear a0 a1 a2 a3 a4
    clear q0 q1
    obtain ⟨a0, a1, a2, a3, a4⟩ := TS.blk.boxV
    have q0 := BP.cell 0
    have q1 := BP.cell 1
    go_wp2_with fail
    refine (hVs _ TS).mono ?_; rintro r w8 ⟨u4, rfl, hl4, ht4, hb8⟩
    have kq := Below.one w8 (.cells (valCells y2 u4) 26)
    have kr := hb8.up kq
    replace h := (h.below kr).more kr.size
    replace TV := TV.below kr
    replace TU := TU.below kr
    replace TX := TX.below kr
    replace hS := (hS.below kr).more kr.size
    replace T1 := T1.below kr
    replace T2 := T2.below kr
    replace TS := TS.below kr
    replace BP := BP.below kr BP.lt
    replace T3 := T3.below kr
    have T4 := TB.new hl4 ht4
    clear hl4 ht4 kq
    replace K := K.up kr
    clear kr
    clear a0 a1 a2 a3 a4
    clear q0 q1 hVi hVs TS BP
    go_wp2_with fail
    refine (s_DrawLessPath A n c b _ h hnn).mono ?_; rintro r w9 ⟨A7, m7, c7, p7, A8, m8, c8, p8, rfl, h7, h8, hb9⟩
    replace h := (h.below hb9).more hb9.size
    replace TV := TV.below hb9
    replace TU := TU.below hb9
    replace TX := TX.below hb9
    replace hS := (hS.below hb9).more hb9.size
    replace T1 := T1.below hb9
    replace T2 := T2.below hb9
    replace T3 := T3.below hb9
    replace T4 := T4.below hb9
    replace K := K.up hb9
    clear hb9
    clear h
    go_upto_region 12 with fail
    have hS0 := fun (w' : World) (hb : Below w9.heap.size w9 w') => (show (BoxV w' w2.heap.size u eu ∧ BoxV w' w4.heap.size y1 u1 ∧ BoxV w' w5.heap.size y1 u2 ∧ BoxV w' w7.heap.size y2 u3 ∧ BoxV w' w8.heap.size y2 u4 ∧ BoxV w' w3.heap.size x ex) ∧ Below w9.heap.size w9 w' from ⟨⟨(TU.below hb).blk.boxV, (T1.below hb).blk.boxV, (T2.below hb).blk.boxV, (T3.below hb).blk.boxV, (T4.below hb).blk.boxV, (TX.below hb).blk.boxV⟩, hb⟩)
    have hS2 := fun (w' w'' : World) (h : (BoxV w' w2.heap.size u eu ∧ BoxV w' w4.heap.size y1 u1 ∧ BoxV w' w5.heap.size y1 u2 ∧ BoxV w' w7.heap.size y2 u3 ∧ BoxV w' w8.heap.size y2 u4 ∧ BoxV w' w3.heap.size x ex) ∧ Below w9.heap.size w9 w') (hb : Below w'.heap.size w' w'') => hS0 w'' (h.2.up hb)
    have hE1 := fun (w' : World) (h : (BoxV w' w2.heap.size u eu ∧ BoxV w' w4.heap.size y1 u1 ∧ BoxV w' w5.heap.size y1 u2 ∧ BoxV w' w7.heap.size y2 u3 ∧ BoxV w' w8.heap.size y2 u4 ∧ BoxV w' w3.heap.size x ex) ∧ Below w9.heap.size w9 w') => same_tb (T1.below h.2) (T2.below h.2)
    have hE2 := fun (w' : World) (h : (BoxV w' w2.heap.size u eu ∧ BoxV w' w4.heap.size y1 u1 ∧ BoxV w' w5.heap.size y1 u2 ∧ BoxV w' w7.heap.size y2 u3 ∧ BoxV w' w8.heap.size y2 u4 ∧ BoxV w' w3.heap.size x ex) ∧ Below w9.heap.size w9 w') => same_tb (T3.below h.2) (T4.below h.2)
    have hPi := fun (w' : World) (h : (BoxV w' w2.heap.size u eu ∧ BoxV w' w4.heap.size y1 u1 ∧ BoxV w' w5.heap.size y1 u2 ∧ BoxV w' w7.heap.size y2 u3 ∧ BoxV w' w8.heap.size y2 u4 ∧ BoxV w' w3.heap.size x ex) ∧ Below w9.heap.size w9 w') => i_AllPaths u eu w' (TU.below h.2).ls (TU.below h.2).lt (by omega)
    have hPs := fun (w' : World) (h : (BoxV w' w2.heap.size u eu ∧ BoxV w' w4.heap.size y1 u1 ∧ BoxV w' w5.heap.size y1 u2 ∧ BoxV w' w7.heap.size y2 u3 ∧ BoxV w' w8.heap.size y2 u4 ∧ BoxV w' w3.heap.size x ex) ∧ Below w9.heap.size w9 w') => s_AllPaths u eu w' (TU.below h.2).ls (TU.below h.2).lt (by omega)
    have hLi := fun (w' : World) (h : (BoxV w' w2.heap.size u eu ∧ BoxV w' w4.heap.size y1 u1 ∧ BoxV w' w5.heap.size y1 u2 ∧ BoxV w' w7.heap.size y2 u3 ∧ BoxV w' w8.heap.size y2 u4 ∧ BoxV w' w3.heap.size x ex) ∧ Below w9.heap.size w9 w') => i_LessPath p7 p8 A7 m7 c7 A8 m8 c8 w' ((h7.below h.2).more h.2.size) ((h8.below h.2).more h.2.size)
    have hLs := fun (w' : World) (h : (BoxV w' w2.heap.size u eu ∧ BoxV w' w4.heap.size y1 u1 ∧ BoxV w' w5.heap.size y1 u2 ∧ BoxV w' w7.heap.size y2 u3 ∧ BoxV w' w8.heap.size y2 u4 ∧ BoxV w' w3.heap.size x ex) ∧ Below w9.heap.size w9 w') => s_LessPath p7 p8 A7 m7 c7 A8 m8 c8 w' ((h7.below h.2).more h.2.size) ((h8.below h.2).more h.2.size)
    have hTi := fun (w' : World) (h : (BoxV w' w2.heap.size u eu ∧ BoxV w' w4.heap.size y1 u1 ∧ BoxV w' w5.heap.size y1 u2 ∧ BoxV w' w7.heap.size y2 u3 ∧ BoxV w' w8.heap.size y2 u4 ∧ BoxV w' w3.heap.size x ex) ∧ Below w9.heap.size w9 w') => i_PathText x ex A6 m6 c6 ps w' (TX.below h.2).ls (TX.below h.2).lt (by omega) ((hS.below h.2).more h.2.size) (by omega) hps (hPw.below (K.up h.2))
    have hTs := fun (w' : World) (h : (BoxV w' w2.heap.size u eu ∧ BoxV w' w4.heap.size y1 u1 ∧ BoxV w' w5.heap.size y1 u2 ∧ BoxV w' w7.heap.size y2 u3 ∧ BoxV w' w8.heap.size y2 u4 ∧ BoxV w' w3.heap.size x ex) ∧ Below w9.heap.size w9 w') => s_PathText x ex A6 m6 c6 ps w' (TX.below h.2).ls (TX.below h.2).lt (by omega) ((hS.below h.2).more h.2.size) (by omega) hps
    generalize lessP p7 p8 = lp at hLi hLs
    generalize 36 :: pathTxt x ps = tx at hTi hTs
    generalize pathsT u [] = LU at hPi hPs
    unfold ApOut at hPi hPs
    clear TU T1 T2 T3 T4 TX hS h7 h8 hps hp hxs hus hss hm6 hPw
    go_region_held3 (fun w' => (BoxV w' w2.heap.size u eu ∧ BoxV w' w4.heap.size y1 u1 ∧ BoxV w' w5.heap.size y1 u2 ∧ BoxV w' w7.heap.size y2 u3 ∧ BoxV w' w8.heap.size y2 u4 ∧ BoxV w' w3.heap.size x ex) ∧ Below w9.heap.size w9 w')
      (first | exact hS0 _ (Below.refl _ _).drew | (refine hS2 _ _ ?_ hbA; assumption) | (refine hS2 _ _ ?_ hbB; assumption) | (refine hS2 _ _ ?_ hbC; assumption) | (refine hS2 _ _ ?_ hbD; assumption) | (refine hS2 _ _ ?_ hbE; assumption) | (refine hS2 _ _ ?_ hbF; assumption) | (refine hS2 _ _ ?_ hbG; assumption) | (refine hS2 _ _ ?_ hbH; assumption) | (refine hS2 _ _ ?_ hbI; assumption) | fail)
      (first
        | (go_at_call 15; refine (hPi _ (by assumption)).mono ?_; rintro r wa ⟨AA, na, ca, ra, rfl, hRA, hbA⟩; first | (have hRB2 := hRB.below hbA) | skip)
        | (go_at_call 16; refine (hPs _ (by assumption)).mono ?_; rintro r wb ⟨AB, nb, cb, rb, rfl, hRB, hbB⟩; first | (have hRA2 := hRA.below hbB) | skip)
        | (go_at_call 14; (first | (refine (l_samePaths LU AA na ca _ ra AB nb cb _ rb _ hRA2 hRB).mono ?_) | (refine (l_samePaths LU AA na ca _ ra AB nb cb _ rb _ hRA hRB2).mono ?_)); rintro r wc ⟨rfl, hbC⟩)
        | (go_at_call 17; have hq := hE1; clear hq; refine (hE1 _ (by assumption)).mono ?_; clear hE1; rintro r wd ⟨rfl, hbD⟩)
        | (go_at_call 17; refine (hE2 _ (by assumption)).mono ?_; rintro r we ⟨rfl, hbE⟩)
        | (go_at_call 18; refine (hLi _ (by assumption)).mono ?_; rintro r wf ⟨rfl, hbF⟩)
        | (go_at_call 19; refine (hLs _ (by assumption)).mono ?_; rintro r wg ⟨rfl, hbG⟩)
        | (go_at_call 20; refine (hTi _ (by assumption)).mono ?_; rintro r wh ⟨rfl, hbH⟩)
        | (go_at_call 21; refine (hTs _ (by assumption)).mono ?_; rintro r wi ⟨rfl, hbI⟩))
    rename_i hHeld
    have kR := hHeld.2
    rename World => wR
    replace TV := TV.below kR
    replace K := K.up kR
    clear hS0 hS2 hE2 hPi hPs hLi hLs hTi hTs hHeld kR
    obtain ⟨LV, hLV, hgood, hasc, hcnt, ⟨hL0, hL00⟩, hlen⟩ := goodPs_all v hvs
    have hPv := i_AllPaths v e wR TV.ls TV.lt (by omega)
    rw [hLV] at hPv
    unfold ApOut at hPv
    clear hLV
    obtain ⟨a0, a1, a2, a3, a4⟩ := TV.blk.boxV
    go_wp2_with fail
    refine hPv.mono ?_; rintro r wP ⟨AL, nL, cL, rs, rfl, hPR, hbP⟩
    replace TV := TV.below hbP
    replace K := K.up hbP
    clear hPv hbP
    clear a0 a1 a2 a3 a4
    have hnL := hPR.len
    have hcL := hPR.cap
    have hnb : nL ≤ 9223372036854775807 := by have := hcL.1; have := hcL.2; unfold maxLen at *; omega
    have HN := Lib.hid (And.intro hcnt (And.intro hL0 hnL))
    clear hcnt hcL
    go_wp2_with fail
    go_loopg [20] nL (fun f i wr => ∃ j : Nat, j + f = nL ∧ i = .int .i64 j ∧ Below wP.heap.size wP wr)
    case atStart => exact ⟨0, by omega, rfl, Below.refl _ _⟩
    case round =>
      obtain ⟨j, hjk, rfl, hb⟩ := hrel
      have TVr := TV.below hb
      have hPRr := hPR.below hb
      by_cases hlt : j < nL
      · obtain ⟨f, rfl⟩ : ∃ f, gk = f + 1 := ⟨gk - 1, by omega⟩
        obtain ⟨gA, hl1, hr1, hAe, hgA, hloA, hc0, hS0⟩ := hPRr.elem hlt
        subst hAe
        have hg1 := hgood j hl1
        have m1 : (j : Int) < (nL : Int) := by omega
        have m2 : (0 : Int) ≤ (j : Int) := by omega
        have hat := fun w' (hx : TB w' w1.heap.size v e) (hs : Sl w' w'.heap.size 2 rs[j].A rs[j].n rs[j].c (stC LV[j])) => (i_AtPath v e rs[j].A rs[j].n rs[j].c LV[j] w' hx.ls hx.lt (by omega) hs).mono fun r w2 h => h.ret
        rw [hg1] at hat
        generalize (atPath v LV[j]).getD zT = yv at hat
        go_upto_region 18 with fail
        have TA := TVr.below (Below.refl wr.heap.size wr).drew
        have hcd : wr.drew.cell? ⟨gA, j, none⟩ = some (.slice rs[j].A rs[j].n rs[j].c) := hc0
        have hSd := hS0.below (Below.refl wr.heap.size wr).drew
        have kd := (Below.refl wr.heap.size wr).drew
        have hSl := hSd.sl
        have hcr := hc0
        refine wp_region_noPanic ?_
        refine wp_region_held_drew (S := fun w' => BoxV w' w1.heap.size v e ∧ w'.cell? ⟨gA, j, none⟩ = some (.slice rs[j].A rs[j].n rs[j].c)) (by kernel_rfl) (⟨TA.blk.boxV, hcd⟩) (fun hHeld => ?_)
        generalize wr.drew = wv at TA hcd hSl kd hHeld ⊢
        clear hSd hS0 hc0
        have hgv : gA < wv.heap.size := Nat.lt_of_lt_of_le hgA kd.size
        refine wpAnyH_take (i := 0) (oi := ?oi0x1) (v := ?vv0x1) ?hi0x1 (by kernel_rfl) (by kernel_rfl) (by kernel_rfl) ?hQ0x1 (Or.inl ⟨?hw0x1, ?hy0x1⟩) (by assumption) ?rest0x1
        case hi0x1 => (simp only [List.getElem?_toArray, List.getElem?_cons_succ, List.getElem?_cons_zero]; exact rfl)
        case hQ0x1 => exact fun _ _ _ h => h
        case hw0x1 => rfl
        case hy0x1 => ((intro w hSw; (try dsimp only at hSw); go_simp) <;> (with_reducible rfl))
        try simp only [Act.put, List.setIfInBounds_toArray, List.set_cons_zero, List.set_cons_succ]
        refine wpAnyH_take (i := 1) (oi := ?oi1x2) (v := ?vv1x2) ?hi1x2 (by kernel_rfl) (by kernel_rfl) (by kernel_rfl) ?hQ1x2 (Or.inl ⟨?hw1x2, ?hy1x2⟩) (by assumption) ?rest1x2
        case hi1x2 => (simp only [List.getElem?_toArray, List.getElem?_cons_succ, List.getElem?_cons_zero]; exact rfl)
        case hQ1x2 => exact fun _ _ _ h => h
        case hw1x2 => rfl
        case hy1x2 => ((intro w hSw; (try dsimp only at hSw); go_simp) <;> (with_reducible rfl))
        try simp only [Act.put, List.setIfInBounds_toArray, List.set_cons_zero, List.set_cons_succ]
        refine wpAnyH_take (i := 2) (oi := ?oi2x3) (v := ?vv2x3) ?hi2x3 (by kernel_rfl) (by kernel_rfl) (by kernel_rfl) ?hQ2x3 (Or.inl ⟨?hw2x3, ?hy2x3⟩) (by assumption) ?rest2x3
        case hi2x3 => (simp only [List.getElem?_toArray, List.getElem?_cons_succ, List.getElem?_cons_zero]; exact rfl)
        case hQ2x3 => exact fun _ _ _ h => h
        case hw2x3 => rfl
        case hy2x3 => ((intro w hSw; (try dsimp only at hSw); go_simp) <;> (with_reducible rfl))
        try simp only [Act.put, List.setIfInBounds_toArray, List.set_cons_zero, List.set_cons_succ]
        refine wpAnyH_take (i := 3) (oi := ?oi3x4) (v := ?vv3x4) ?hi3x4 (by kernel_rfl) (by kernel_rfl) (by kernel_rfl) ?hQ3x4 (Or.inl ⟨?hw3x4, ?hy3x4⟩) (by assumption) ?rest3x4
        case hi3x4 => (simp only [List.getElem?_toArray, List.getElem?_cons_succ, List.getElem?_cons_zero]; exact rfl)
        case hQ3x4 => exact fun _ _ _ h => h
        case hw3x4 => rfl
        case hy3x4 => ((intro w hSw; (try dsimp only at hSw); go_simp) <;> (with_reducible rfl))
        try simp only [Act.put, List.setIfInBounds_toArray, List.set_cons_zero, List.set_cons_succ]
        refine wpAnyH_take (i := 4) (oi := ?oi4x5) (v := ?vv4x5) ?hi4x5 (by kernel_rfl) (by kernel_rfl) (by kernel_rfl) ?hQ4x5 (Or.inl ⟨?hw4x5, ?hy4x5⟩) (by assumption) ?rest4x5
        case hi4x5 => (simp only [List.getElem?_toArray, List.getElem?_cons_succ, List.getElem?_cons_zero]; exact rfl)
        case hQ4x5 => exact fun _ _ _ h => h
        case hw4x5 => rfl
        case hy4x5 => ((intro w hSw; (try dsimp only at hSw); go_simp) <;> (with_reducible rfl))
        try simp only [Act.put, List.setIfInBounds_toArray, List.set_cons_zero, List.set_cons_succ]
        refine wpAnyH_take (i := 5) (oi := ?oi5x6) (v := ?vv5x6) ?hi5x6 (by kernel_rfl) (by kernel_rfl) (by kernel_rfl) ?hQ5x6 (Or.inl ⟨?hw5x6, ?hy5x6⟩) (by assumption) ?rest5x6
        case hi5x6 => (simp only [List.getElem?_toArray, List.getElem?_cons_succ, List.getElem?_cons_zero]; exact rfl)
        case hQ5x6 => exact fun _ _ _ h => h
        case hw5x6 => rfl
        case hy5x6 => ((intro w hSw; (try dsimp only at hSw); go_simp) <;> (with_reducible rfl))
        try simp only [Act.put, List.setIfInBounds_toArray, List.set_cons_zero, List.set_cons_succ]
        refine wpAnyH_ready (rs := [6, 10]) (by kernel_rfl) (by simp) ?_
        refine AllReadyH.cons (o := ?o6y19) ?ho6y19 (fun KK hKK => ?st6y19) (AllReadyH.cons (o := ?o10y19) ?ho10y19 (fun KK hKK => ?st10y19) (AllReadyH.nil))
        case ho6y19 => (simp only [List.getElem?_toArray, List.getElem?_cons_succ, List.getElem?_cons_zero]; exact rfl)
        case ho10y19 => (simp only [List.getElem?_toArray, List.getElem?_cons_succ, List.getElem?_cons_zero]; exact rfl)
        case st6y19 =>
          rw [if_pos (by rfl)]
          go_simp
          go_at_call 8
          refine (hat _ TA hSl).mono ?_; rintro r w5 ⟨u5, rfl, hl5, ht5, hb5⟩
          have TA5 := TA.below hb5
          have hc5 : w5.cell? ⟨gA, j, none⟩ = some (.slice rs[j].A rs[j].n rs[j].c) := (hb5.cell (p := ⟨gA, j, none⟩) hgv).trans hcd
          have kd5 := kd.up hb5
          clear hat TA hSl hcd
          refine hKK.out _ _ ⟨TA5.blk.boxV, hc5⟩ (fun _ => ?_)
          clear hKK KK
          try simp only [Act.put, List.setIfInBounds_toArray, List.set_cons_zero, List.set_cons_succ]
          refine wpAnyH_take (i := 7) (oi := ?oi7x7) (v := ?vv7x7) ?hi7x7 (by kernel_rfl) (by kernel_rfl) (by kernel_rfl) ?hQ7x7 (Or.inl ⟨?hw7x7, ?hy7x7⟩) (by assumption) ?rest7x7
          case hi7x7 => (simp only [List.getElem?_toArray, List.getElem?_cons_succ, List.getElem?_cons_zero]; exact rfl)
          case hQ7x7 => exact fun _ _ _ h => h
          case hw7x7 => rfl
          case hy7x7 => ((intro w hSw; (try dsimp only at hSw); go_simp) <;> (with_reducible rfl))
          try simp only [Act.put, List.setIfInBounds_toArray, List.set_cons_zero, List.set_cons_succ]
          refine wpAnyH_take (i := 8) (oi := ?oi8x8) (v := ?vv8x8) ?hi8x8 (by kernel_rfl) (by kernel_rfl) (by kernel_rfl) ?hQ8x8 (Or.inl ⟨?hw8x8, ?hy8x8⟩) (by assumption) ?rest8x8
          case hi8x8 => (simp only [List.getElem?_toArray, List.getElem?_cons_succ, List.getElem?_cons_zero]; exact rfl)
          case hQ8x8 => exact fun _ _ _ h => h
          case hw8x8 => rfl
          case hy8x8 => ((intro w hSw; (try dsimp only at hSw); go_simp) <;> (with_reducible rfl))
          try simp only [Act.put, List.setIfInBounds_toArray, List.set_cons_zero, List.set_cons_succ]
          refine wpAnyH_take (i := 9) (oi := ?oi9x9) (v := ?vv9x9) ?hi9x9 (by kernel_rfl) (by kernel_rfl) (by kernel_rfl) ?hQ9x9 (Or.inl ⟨?hw9x9, ?hy9x9⟩) (by assumption) ?rest9x9
          case hi9x9 => (simp only [List.getElem?_toArray, List.getElem?_cons_succ, List.getElem?_cons_zero]; exact rfl)
          case hQ9x9 => exact fun _ _ _ h => h
          case hw9x9 => rfl
          case hy9x9 => ((intro w hSw; (try dsimp only at hSw); go_simp) <;> (with_reducible rfl))
          try simp only [Act.put, List.setIfInBounds_toArray, List.set_cons_zero, List.set_cons_succ]
          refine wpAnyH_ready (rs := [10]) (by kernel_rfl) (by simp) ?_
          refine AllReadyH.cons (o := ?o10y12) ?ho10y12 (fun KK hKK => ?st10y12) (AllReadyH.nil)
          case ho10y12 => (simp only [List.getElem?_toArray, List.getElem?_cons_succ, List.getElem?_cons_zero]; exact rfl)
          rw [if_pos (by rfl)]
          go_simp
          have kn := Below.one w5 (.cells #[.int .i64 0, .int .i64 0, .int .i64 0, .string ⟨#[]⟩, .slice none 0 0] 26)
          have BN := Blk.new w5 26 #[.int .i64 0, .int .i64 0, .int .i64 0, .string ⟨#[]⟩, .slice none 0 0]
          have TA6 := TA5.below kn
          have hc6 := (kn.cell (p := ⟨gA, j, none⟩) (Nat.lt_of_lt_of_le hgv hb5.size)).trans hc5
          have kd6 := kd5.up kn
          refine hKK.out _ _ ⟨TA6.blk.boxV, hc6⟩ (fun _ => ?_)
          clear hKK KK
          try simp only [Act.put, List.setIfInBounds_toArray, List.set_cons_zero, List.set_cons_succ]
          refine wpAnyH_ready (rs := [11]) (by kernel_rfl) (by simp) ?_
          refine AllReadyH.cons (o := ?o11y11) ?ho11y11 (fun KK hKK => ?st11y11) (AllReadyH.nil)
          case ho11y11 => (simp only [List.getElem?_toArray, List.getElem?_cons_succ, List.getElem?_cons_zero]; exact rfl)
          obtain ⟨x0, x1, x2, x3, x4, ⟨s0, t0⟩, ⟨s1, t1⟩, ⟨s2, t2⟩, ⟨s3, t3⟩, s4, t4⟩ := BN.five (o := 0) (by simp) (.int .i64 yv.k) (.int .i64 yv.n) (.int .i64 yv.x) (.string yv.s)
          rw [if_pos (by rfl)]
          go_simp
          have kF := kd5.up (Below.one w5 (.cells (valCells yv u5) 26))
          refine hKK.out _ _ ⟨(TVr.below kF).blk.boxV, (kF.cell (p := ⟨gA, j, none⟩) hgA).trans hcr⟩ (fun _ => ?_)
          clear hKK KK
          try simp only [Act.put, List.setIfInBounds_toArray, List.set_cons_zero, List.set_cons_succ]
          clear x0 x1 x2 x3 x4 s0 t0 s1 t1 s2 t2 s3 t3 s4 t4
          clear BN kn TA6 hc6 kd6
          refine wpAnyH_take (i := 12) (oi := ?oi12x10) (v := ?vv12x10) ?hi12x10 (by kernel_rfl) (by kernel_rfl) (by kernel_rfl) ?hQ12x10 (Or.inl ⟨?hw12x10, ?hy12x10⟩) (by assumption) ?rest12x10
          case hi12x10 => (simp only [List.getElem?_toArray, List.getElem?_cons_succ, List.getElem?_cons_zero]; exact rfl)
          case hQ12x10 => exact fun _ _ _ h => h
          case hw12x10 => rfl
          case hy12x10 => ((intro w hSw; (try dsimp only at hSw); go_simp) <;> (with_reducible rfl))
          try simp only [Act.put, List.setIfInBounds_toArray, List.set_cons_zero, List.set_cons_succ]
          refine wpAnyH_done (by kernel_rfl) ?_ _
          refine NoPanic.normal ?_
          clear hHeld
          generalize (w5.alloc (.cells #[.int .i64 yv.k, .int .i64 yv.n, .int .i64 yv.x, .string yv.s, .slice u5.A u5.n u5.c] 26)) = wF at kF ⊢
          have hbF := hb.up kF
          have hPF := hPR.below hbF
          clear TVr hPRr kF hgv
          by_cases hj0 : j = 0
          · subst hj0
            have q0 : decide ((0 : Int) < ((0 : Nat) : Int)) = false := by decide
            go_wp2_with fail
            go_quiet (fail)
            go_wp2_with fail
            go_roundg f
            case measure => omega
            case rel => exact ⟨1, by omega, by go_num, below_drewN hbF nq⟩
          · obtain ⟨k, rfl⟩ : ∃ k, j = k + 1 := ⟨j - 1, by omega⟩
            obtain ⟨gA1, hl1', hr1', hA1, hg1', -, hk0, hk1⟩ := hPF.elem (show k < nL by omega)
            obtain rfl : gA = gA1 := by simpa using hA1
            obtain ⟨gA2, hl2', hr2', hA2, -, -, hk2, hk3⟩ := hPF.elem (show k + 1 < nL by omega)
            obtain rfl : gA = gA2 := by simpa using hA2
            have hlp := hasc k hl2'
            have hLp := fun (w' : World) (h : Below wF.heap.size wF w') => i_LessPath LV[k] LV[k + 1] rs[k].A rs[k].n rs[k].c rs[k + 1].A rs[k + 1].n rs[k + 1].c w' (hk1.below h).sl (hk3.below h).sl
            rw [hlp] at hLp
            have hS0 := fun (w' : World) (hb : Below wF.heap.size wF w') => (show (w'.cell? ⟨gA, k, none⟩ = some (.slice rs[k].A rs[k].n rs[k].c) ∧ w'.cell? ⟨gA, k + 1, none⟩ = some (.slice rs[k + 1].A rs[k + 1].n rs[k + 1].c)) ∧ Below wF.heap.size wF w' from ⟨⟨(hb.cell (p := ⟨gA, k, none⟩) hg1').trans hk0, (hb.cell (p := ⟨gA, k + 1, none⟩) hg1').trans hk2⟩, hb⟩)
            have hS2 := fun (w' w'' : World) (h : (w'.cell? ⟨gA, k, none⟩ = some (.slice rs[k].A rs[k].n rs[k].c) ∧ w'.cell? ⟨gA, k + 1, none⟩ = some (.slice rs[k + 1].A rs[k + 1].n rs[k + 1].c)) ∧ Below wF.heap.size wF w') (hb : Below w'.heap.size w' w'') => hS0 w'' (h.2.up hb)
            have q1 : (k : Int) < (nL : Int) := by omega
            have q2 : (0 : Int) ≤ (k : Int) := by omega
            have q3 : (k : Int) + 1 < (nL : Int) := by omega
            have q4 : (0 : Int) ≤ (k : Int) + 1 := by omega
            have q5 : ((k : Int) + 1).toNat = k + 1 := by omega
            have q6 : IntKind.i64.wrap (k : Int) = k := by rw [IntKind.wrap_i64]; omega
            have q7 : IntKind.i64.wrap ((k : Int) + 1 - 1) = k := by rw [IntKind.wrap_i64]; omega
            have q8 : decide ((0 : Int) < (k : Int) + 1) = true := decide_eq_true (by omega)
            have HJ := Lib.hid hjk
            generalize rs[k] = r1 at hk0 hk1 hLp hS0 hS2
            generalize rs[k + 1] = r2 at hk2 hk3 hLp hS0 hS2
            clear hk0 hk1 hk2 hk3 hlp hjk hlt m1 m2
            go_wp2_with fail
            go_region_held3 (fun w' => (w'.cell? ⟨gA, k, none⟩ = some (.slice r1.A r1.n r1.c) ∧ w'.cell? ⟨gA, k + 1, none⟩ = some (.slice r2.A r2.n r2.c)) ∧ Below wF.heap.size wF w')
              (first | exact hS0 _ (Below.refl _ _).drew | (refine hS2 _ _ ?_ hbA; assumption))
              (first | (go_at_call 18; refine (hLp _ (And.right (by assumption))).mono ?_; rintro r wz ⟨rfl, hbA⟩))
            rename_i hHeld
            have kR := hHeld.2
            clear hS0 hS2 hLp hHeld
            go_wp2_with fail
            go_roundg f
            case measure => omega
            case rel => exact ⟨k + 1 + 1, by have := HJ.out; omega, by go_num, hbF.up kR⟩
        case st10y19 =>
          rw [if_pos (by rfl)]
          go_simp
          have kn := Below.one wv (.cells #[.int .i64 0, .int .i64 0, .int .i64 0, .string ⟨#[]⟩, .slice none 0 0] 26)
          have BN := Blk.new wv 26 #[.int .i64 0, .int .i64 0, .int .i64 0, .string ⟨#[]⟩, .slice none 0 0]
          have TA4 := TA.below kn
          have hc4 := (kn.cell (p := ⟨gA, j, none⟩) hgv).trans hcd
          have kd4 := kd.up kn
          replace hSl := (hSl.below kn).more kn.size
          refine hKK.out _ _ ⟨TA4.blk.boxV, hc4⟩ (fun _ => ?_)
          clear hKK KK
          try simp only [Act.put, List.setIfInBounds_toArray, List.set_cons_zero, List.set_cons_succ]
          refine wpAnyH_ready (rs := [6]) (by kernel_rfl) (by simp) ?_
          refine AllReadyH.cons (o := ?o6y18) ?ho6y18 (fun KK hKK => ?st6y18) (AllReadyH.nil)
          case ho6y18 => (simp only [List.getElem?_toArray, List.getElem?_cons_succ, List.getElem?_cons_zero]; exact rfl)
          rw [if_pos (by rfl)]
          go_simp
          go_at_call 8
          refine (hat _ TA4 hSl).mono ?_; rintro r w5 ⟨u5, rfl, hl5, ht5, hb5⟩
          have TA5 := TA4.below hb5
          have hc5 : w5.cell? ⟨gA, j, none⟩ = some (.slice rs[j].A rs[j].n rs[j].c) := (hb5.cell (p := ⟨gA, j, none⟩) (Nat.lt_of_lt_of_le hgv kn.size)).trans hc4
          have BN5 := BN.below hb5 BN.lt
          have kd5 := kd4.up hb5
          clear hat TA hSl hcd
          refine hKK.out _ _ ⟨TA5.blk.boxV, hc5⟩ (fun _ => ?_)
          clear hKK KK
          try simp only [Act.put, List.setIfInBounds_toArray, List.set_cons_zero, List.set_cons_succ]
          refine wpAnyH_take (i := 7) (oi := ?oi7x13) (v := ?vv7x13) ?hi7x13 (by kernel_rfl) (by kernel_rfl) (by kernel_rfl) ?hQ7x13 (Or.inl ⟨?hw7x13, ?hy7x13⟩) (by assumption) ?rest7x13
          case hi7x13 => (simp only [List.getElem?_toArray, List.getElem?_cons_succ, List.getElem?_cons_zero]; exact rfl)
          case hQ7x13 => exact fun _ _ _ h => h
          case hw7x13 => rfl
          case hy7x13 => ((intro w hSw; (try dsimp only at hSw); go_simp) <;> (with_reducible rfl))
          try simp only [Act.put, List.setIfInBounds_toArray, List.set_cons_zero, List.set_cons_succ]
          refine wpAnyH_take (i := 8) (oi := ?oi8x14) (v := ?vv8x14) ?hi8x14 (by kernel_rfl) (by kernel_rfl) (by kernel_rfl) ?hQ8x14 (Or.inl ⟨?hw8x14, ?hy8x14⟩) (by assumption) ?rest8x14
          case hi8x14 => (simp only [List.getElem?_toArray, List.getElem?_cons_succ, List.getElem?_cons_zero]; exact rfl)
          case hQ8x14 => exact fun _ _ _ h => h
          case hw8x14 => rfl
          case hy8x14 => ((intro w hSw; (try dsimp only at hSw); go_simp) <;> (with_reducible rfl))
          try simp only [Act.put, List.setIfInBounds_toArray, List.set_cons_zero, List.set_cons_succ]
          refine wpAnyH_take (i := 9) (oi := ?oi9x15) (v := ?vv9x15) ?hi9x15 (by kernel_rfl) (by kernel_rfl) (by kernel_rfl) ?hQ9x15 (Or.inl ⟨?hw9x15, ?hy9x15⟩) (by assumption) ?rest9x15
          case hi9x15 => (simp only [List.getElem?_toArray, List.getElem?_cons_succ, List.getElem?_cons_zero]; exact rfl)
          case hQ9x15 => exact fun _ _ _ h => h
          case hw9x15 => rfl
          case hy9x15 => ((intro w hSw; (try dsimp only at hSw); go_simp) <;> (with_reducible rfl))
          try simp only [Act.put, List.setIfInBounds_toArray, List.set_cons_zero, List.set_cons_succ]
          refine wpAnyH_ready (rs := [11]) (by kernel_rfl) (by simp) ?_
          refine AllReadyH.cons (o := ?o11y17) ?ho11y17 (fun KK hKK => ?st11y17) (AllReadyH.nil)
          case ho11y17 => (simp only [List.getElem?_toArray, List.getElem?_cons_succ, List.getElem?_cons_zero]; exact rfl)
          obtain ⟨x0, x1, x2, x3, x4, ⟨s0, t0⟩, ⟨s1, t1⟩, ⟨s2, t2⟩, ⟨s3, t3⟩, s4, t4⟩ := BN5.five (o := 0) (by simp) (.int .i64 yv.k) (.int .i64 yv.n) (.int .i64 yv.x) (.string yv.s)
          rw [if_pos (by rfl)]
          go_simp
          have kF := below_set5 (g := wv.heap.size) (o := 0) (t := yv) (e := u5) kd5 kd.size
          unfold set5 at kF
          refine hKK.out _ _ ⟨(TVr.below kF).blk.boxV, (kF.cell (p := ⟨gA, j, none⟩) hgA).trans hcr⟩ (fun _ => ?_)
          clear hKK KK
          try simp only [Act.put, List.setIfInBounds_toArray, List.set_cons_zero, List.set_cons_succ]
          clear x0 x1 x2 x3 x4 s0 t0 s1 t1 s2 t2 s3 t3 s4 t4
          clear BN kn BN5 TA4 hc4 kd4
          refine wpAnyH_take (i := 12) (oi := ?oi12x16) (v := ?vv12x16) ?hi12x16 (by kernel_rfl) (by kernel_rfl) (by kernel_rfl) ?hQ12x16 (Or.inl ⟨?hw12x16, ?hy12x16⟩) (by assumption) ?rest12x16
          case hi12x16 => (simp only [List.getElem?_toArray, List.getElem?_cons_succ, List.getElem?_cons_zero]; exact rfl)
          case hQ12x16 => exact fun _ _ _ h => h
          case hw12x16 => rfl
          case hy12x16 => ((intro w hSw; (try dsimp only at hSw); go_simp) <;> (with_reducible rfl))
          try simp only [Act.put, List.setIfInBounds_toArray, List.set_cons_zero, List.set_cons_succ]
          refine wpAnyH_done (by kernel_rfl) ?_ _
          refine NoPanic.normal ?_
          clear hHeld
          generalize (((((w5.setCell ⟨wv.heap.size, 0, none⟩ (.int .i64 yv.k)).setCell ⟨wv.heap.size, 1, none⟩ (.int .i64 yv.n)).setCell ⟨wv.heap.size, 2, none⟩ (.int .i64 yv.x)).setCell ⟨wv.heap.size, 3, none⟩ (.string yv.s)).setCell ⟨wv.heap.size, 4, none⟩ (.slice u5.A u5.n u5.c)) = wF at kF ⊢
          have hbF := hb.up kF
          have hPF := hPR.below hbF
          clear TVr hPRr kF hgv
          by_cases hj0 : j = 0
          · subst hj0
            have q0 : decide ((0 : Int) < ((0 : Nat) : Int)) = false := by decide
            go_wp2_with fail
            go_quiet (fail)
            go_wp2_with fail
            go_roundg f
            case measure => omega
            case rel => exact ⟨1, by omega, by go_num, below_drewN hbF nq⟩
          · obtain ⟨k, rfl⟩ : ∃ k, j = k + 1 := ⟨j - 1, by omega⟩
            obtain ⟨gA1, hl1', hr1', hA1, hg1', -, hk0, hk1⟩ := hPF.elem (show k < nL by omega)
            obtain rfl : gA = gA1 := by simpa using hA1
            obtain ⟨gA2, hl2', hr2', hA2, -, -, hk2, hk3⟩ := hPF.elem (show k + 1 < nL by omega)
            obtain rfl : gA = gA2 := by simpa using hA2
            have hlp := hasc k hl2'
            have hLp := fun (w' : World) (h : Below wF.heap.size wF w') => i_LessPath LV[k] LV[k + 1] rs[k].A rs[k].n rs[k].c rs[k + 1].A rs[k + 1].n rs[k + 1].c w' (hk1.below h).sl (hk3.below h).sl
            rw [hlp] at hLp
            have hS0 := fun (w' : World) (hb : Below wF.heap.size wF w') => (show (w'.cell? ⟨gA, k, none⟩ = some (.slice rs[k].A rs[k].n rs[k].c) ∧ w'.cell? ⟨gA, k + 1, none⟩ = some (.slice rs[k + 1].A rs[k + 1].n rs[k + 1].c)) ∧ Below wF.heap.size wF w' from ⟨⟨(hb.cell (p := ⟨gA, k, none⟩) hg1').trans hk0, (hb.cell (p := ⟨gA, k + 1, none⟩) hg1').trans hk2⟩, hb⟩)
            have hS2 := fun (w' w'' : World) (h : (w'.cell? ⟨gA, k, none⟩ = some (.slice rs[k].A rs[k].n rs[k].c) ∧ w'.cell? ⟨gA, k + 1, none⟩ = some (.slice rs[k + 1].A rs[k + 1].n rs[k + 1].c)) ∧ Below wF.heap.size wF w') (hb : Below w'.heap.size w' w'') => hS0 w'' (h.2.up hb)
            have q1 : (k : Int) < (nL : Int) := by omega
            have q2 : (0 : Int) ≤ (k : Int) := by omega
            have q3 : (k : Int) + 1 < (nL : Int) := by omega
            have q4 : (0 : Int) ≤ (k : Int) + 1 := by omega
            have q5 : ((k : Int) + 1).toNat = k + 1 := by omega
            have q6 : IntKind.i64.wrap (k : Int) = k := by rw [IntKind.wrap_i64]; omega
            have q7 : IntKind.i64.wrap ((k : Int) + 1 - 1) = k := by rw [IntKind.wrap_i64]; omega
            have q8 : decide ((0 : Int) < (k : Int) + 1) = true := decide_eq_true (by omega)
            have HJ := Lib.hid hjk
            generalize rs[k] = r1 at hk0 hk1 hLp hS0 hS2
            generalize rs[k + 1] = r2 at hk2 hk3 hLp hS0 hS2
            clear hk0 hk1 hk2 hk3 hlp hjk hlt m1 m2
            go_wp2_with fail
            go_region_held3 (fun w' => (w'.cell? ⟨gA, k, none⟩ = some (.slice r1.A r1.n r1.c) ∧ w'.cell? ⟨gA, k + 1, none⟩ = some (.slice r2.A r2.n r2.c)) ∧ Below wF.heap.size wF w')
              (first | exact hS0 _ (Below.refl _ _).drew | (refine hS2 _ _ ?_ hbA; assumption))
              (first | (go_at_call 18; refine (hLp _ (And.right (by assumption))).mono ?_; rintro r wz ⟨rfl, hbA⟩))
            rename_i hHeld
            have kR := hHeld.2
            clear hS0 hS2 hLp hHeld
            go_wp2_with fail
            go_roundg f
            case measure => omega
            case rel => exact ⟨k + 1 + 1, by have := HJ.out; omega, by go_num, hbF.up kR⟩
      · obtain rfl : j = nL := by omega
        have hl0 := HN.out.2.1
        obtain ⟨gA, hl1, hr1, hAe, hgA, hloA, hc0, hS0⟩ := hPRr.elem (show 0 < j by have := HN.out.2.2; omega)
        subst hAe
        have hn0 := hS0.len
        rw [hL00] at hn0
        have hn1 : rs[0].n = 0 := by simpa using hn0.symm
        rw [hn1] at hc0
        have hct := i_CountOf v e wr TVr.ls TVr.lt (by omega)
        have hvn : valT v = j := by have := HN.out.1; have := HN.out.2.2; omega
        rw [hvn] at hct
        generalize rs[0] = r0 at hc0
        have hj0 : (0 : Int) < (j : Int) := by have := HN.out.2.2; omega
        clear hgood hasc hlen hS0 hL00 hn0 hn1 hvn
        obtain ⟨a0, a1, a2, a3, a4⟩ := TVr.blk.boxV
        go_wp2_with (go_at_call 22; refine hct.mono ?_; rintro r w9 ⟨rfl, hb9⟩; have c0 := (hb9.cell (p := ⟨gA, 0, none⟩) hgA).trans hc0)
        go_ret
        exact ⟨by simp, (K.up hb).up hb9⟩
end Go.Proofs.YtpafgmlkbbbmhaaDoor
