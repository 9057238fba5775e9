/- The law FnPuts. Written by gen/putslaw.py. -/
import Derived.Test.YtpafgmlkbbbmhaaMuM43
import Derived.Test.YtpafgmlkbbbmhaaMuBitsLaw
import Derived.Test.YtpafgmlkbbbmhaaMuPutAtS
import Derived.Test.YtpafgmlkbbbmhaaMuPutAt
import Derived.Test.YtpafgmlkbbbmhaaMuAtPath3
import Derived.Test.YtpafgmlkbbbmhaaMuM48
set_option linter.unusedVariables false
set_option maxRecDepth 100000
set_option linter.unusedSimpArgs false
namespace Go.Proofs.Ytpafgmlkbbbmhaa
open Go.RowKit

/-- A tree in a box of five cells. -/
structure TB (w : World) (g : Nat) (t : Tr) (e : El) : Prop where
  blk : Blk w g 26 (valCells t e)
  ls : LsAt w t.l e
  lt : e.lt w.heap.size
theorem TB.below {w w' : World} {g : Nat} {t : Tr} {e : El} (h : TB w g t e) (hb : Below w.heap.size w w') : TB w' g t e := ⟨h.blk.below hb h.blk.lt, h.ls.below h.lt hb, h.lt.mono hb.size⟩
theorem TB.new {w : World} {t : Tr} {e : El} (hl : LsAt w t.l e) (ht : e.lt w.heap.size) : TB (w.alloc (.cells (valCells t e) 26)) w.heap.size t e :=
  ⟨Blk.new w _ _, hl.below ht (Below.one _ _), ht.mono (Below.one _ _).size⟩
/-- A tree and a truth value returned. -/
def TrRet (w w' : World) (r : Ending) (t : Tr) (b : Bool) : Prop := ∃ u : El, r = .returned (.tuple #[trV t u, .bool b]) ∧ LsAt w' t.l u ∧ u.lt w'.heap.size ∧ Below w.heap.size w w'
theorem PutOf.ret {w w' : World} {r : Ending} {t : Tr} {o : Option Tr} (h : PutOf w w' r t o) : TrRet w w' r (o.getD t) o.isSome := by
  obtain ⟨u, h1, h2, h3, h4⟩ := h
  exact ⟨u, h1, h2, fun x hx => h3.lt hx, h4⟩
theorem AtOf.ret {w w' : World} {r : Ending} {o : Option Tr} (h : AtOf w w' r o) : TrRet w w' r (o.getD zT) o.isSome := by
  obtain ⟨u, h1, h2, h3, h4⟩ := h
  exact ⟨u, h1, h2, fun x hx => h3.lt hx, h4⟩
theorem sameT_rfl (t : Tr) : sameT t t = true := sameT_iff.2 rfl
theorem same_tb {w : World} {g1 g2 : Nat} {t : Tr} {e1 e2 : El} (h1 : TB w g1 t e1) (h2 : TB w g2 t e2) : Calls Try.prog 8 #[trV t e1, trV t e2] w fun r w' => r = .returned (.bool true) ∧ Below w.heap.size w w' := by
  have h := l_sameVal t t e1 e2 w h1.ls h2.ls h1.lt h2.lt
  rw [sameT_rfl] at h
  exact h
set_option maxHeartbeats 16000000 in
theorem law_FnPuts (A : Option Addr) (n c : Nat) (b : List UInt8) (w : World) (h : Sl w w.heap.size 1 A n c (u8s b)) :
    Calls Try.prog 3 #[.slice A n c] w fun e' w' => e' = .returned (.bool true) ∧ Below w.heap.size w w' := by
  have hn9 : n ≤ 9223372036854775807 := by have := h.cap; have := h.max; unfold maxLen at *; omega
  have hbig := fun w1 => l_big A n c w1 hn9
  by_cases hn : 1048576 < n
  · rw [decide_eq_true hn] at hbig
    go_enter Try.func3, Try.ntmps3
    go_wp2_with (go_at_call 4; refine (hbig _).mono ?_; rintro e w1 ⟨rfl, rfl⟩)
    go_ret
    exact ⟨rfl, Below.refl _ _⟩
  · rw [decide_eq_false hn] at hbig
    have hnn : n ≤ 1048576 := by omega
    clear hn hn9
    go_enter Try.func3, Try.ntmps3
    go_wp2_with fail
    refine (hbig _).mono ?_; rintro e w1 ⟨rfl, rfl⟩
    go_wp2_with fail
    refine (s_DrawPutAt A n c b _ h hnn).mono ?_; rintro r w1 ⟨v, x, e, ex, A3, m3, c3, ps, rfl, hle, hte, hvs, hlex, htex, hxs, hS, hm, hps, K⟩
    have kq := Below.two w1 (.cells (valCells v e) 26) (.cells (valCells x ex) 26)
    have TV := (TB.new hle hte).below (Below.one _ (.cells (valCells x ex) 26))
    have TX := TB.new (hlex.below htex (Below.one w1 (.cells (valCells v e) 26))) (htex.mono (Below.one w1 (.cells (valCells v e) 26)).size)
    have hz : (w1.alloc (.cells (valCells v e) 26)).heap.size = w1.heap.size + 1 := by simp
    rw [hz] at TX
    replace hS := (hS.below kq).more kq.size
    replace K := K.up kq
    clear hle hte hlex htex kq hz hbig h
    go_upto_region 4 with fail
    generalize ((w1.alloc (.cells (valCells v e) 26)).alloc (.cells (valCells x ex) 26)) = w2 at TV TX hS K ⊢
    generalize w1.heap.size = g3 at TV TX ⊢
    have hPi := fun w' (hv : TB w' g3 v e) (hx : TB w' (g3 + 1) x ex) (hs : Sl w' w'.heap.size 2 A3 m3 c3 (stC ps)) => (i_PutAt v x e ex A3 m3 c3 ps w' hv.ls hv.lt (by omega) hx.ls hx.lt (by omega) hs).mono fun r w2 h => h.ret
    have hPs := fun w' (hv : TB w' g3 v e) (hx : TB w' (g3 + 1) x ex) (hs : Sl w' w'.heap.size 2 A3 m3 c3 (stC ps)) => (s_PutAt ps v x e ex A3 m3 c3 w' hv.ls hv.lt (by omega) hx.ls hx.lt (by omega) hs hps).mono fun r w2 h => h.ret
    have hAt := fun w' (hv : TB w' g3 v e) (hs : Sl w' w'.heap.size 2 A3 m3 c3 (stC ps)) => (i_AtPath v e A3 m3 c3 ps w' hv.ls hv.lt (by omega) hs).mono fun r w2 h => h.ret
    have hOP := putAt_at ps v x
    have hall := put_all ps v x
    obtain ⟨O, hO⟩ : ∃ O, putAt v ps x = O := ⟨_, rfl⟩
    rw [hO] at hOP hall
    simp only [hO] at hPi hPs
    cases O with
    | none =>
      have hP : atPath v ps = none := by
        cases hq : atPath v ps with
        | none => rfl
        | some z => rw [hq] at hOP; cases hOP
      simp only [hP] at hAt
      clear hall hOP hP hO
      simp only [Option.getD_none, Option.isSome_none] at hPi hPs hAt
      obtain ⟨a0, a1, a2, a3, a4⟩ := TV.blk.boxV
      obtain ⟨b0, b1, b2, b3, b4⟩ := TX.blk.boxV
      go_wp2_with fail
      refine (hPi _ TV TX hS).mono ?_; rintro r w3 ⟨u1, rfl, hlu1, htu1, hb3⟩
      have kq := Below.one w3 (.cells (valCells v u1) 26)
      have kr := hb3.up kq
      replace TV := TV.below kr
      replace TX := TX.below kr
      have TY := TB.new hlu1 htu1
      replace hS := (hS.below kr).more kr.size
      replace K := K.up kr
      clear hlu1 htu1 kq kr hb3
      clear a0 a1 a2 a3 a4 b0 b1 b2 b3 b4
      obtain ⟨a0, a1, a2, a3, a4⟩ := TV.blk.boxV
      obtain ⟨b0, b1, b2, b3, b4⟩ := TX.blk.boxV
      go_wp2_with fail
      refine (hPs _ TV TX hS).mono ?_; rintro r w4 ⟨u2, rfl, hlu2, htu2, hb4⟩
      have kq := Below.one w4 (.cells (valCells v u2) 26)
      have kr := hb4.up kq
      replace TV := TV.below kr
      replace TX := TX.below kr
      replace TY := TY.below kr
      have TZ := TB.new hlu2 htu2
      replace hS := (hS.below kr).more kr.size
      replace K := K.up kr
      clear hlu2 htu2 kq kr hb4
      clear a0 a1 a2 a3 a4 b0 b1 b2 b3 b4
      obtain ⟨a0, a1, a2, a3, a4⟩ := TY.blk.boxV
      obtain ⟨b0, b1, b2, b3, b4⟩ := TZ.blk.boxV
      go_wp2_with fail
      refine (same_tb TY TZ).mono ?_; rintro r w5 ⟨rfl, hb5⟩
      replace TV := TV.below hb5
      replace TX := TX.below hb5
      replace TY := TY.below hb5
      replace TZ := TZ.below hb5
      replace hS := (hS.below hb5).more hb5.size
      replace K := K.up hb5
      clear hb5
      clear a0 a1 a2 a3 a4 b0 b1 b2 b3 b4
      clear hPi hPs TZ TX
      obtain ⟨a0, a1, a2, a3, a4⟩ := TV.blk.boxV
      go_wp2_with fail
      refine (hAt _ TV hS).mono ?_; rintro r w6 ⟨u3, rfl, hlu3, htu3, hb6⟩
      have kq := Below.one w6 (.cells (valCells zT u3) 26)
      have kr := hb6.up kq
      replace TV := TV.below kr
      replace TY := TY.below kr
      have TO := TB.new hlu3 htu3
      replace hS := (hS.below kr).more kr.size
      replace K := K.up kr
      clear hlu3 htu3 kq kr hb6
      clear a0 a1 a2 a3 a4
      clear hAt TO
      obtain ⟨a0, a1, a2, a3, a4⟩ := TV.blk.boxV
      obtain ⟨b0, b1, b2, b3, b4⟩ := TY.blk.boxV
      go_wp2_with fail
      refine (same_tb TY TV).mono ?_; rintro r w7 ⟨rfl, hb7⟩
      go_wp2_with fail
      go_ret
      exact ⟨rfl, K.up hb7⟩
    | some y =>
      obtain ⟨old, hP, hB, hG, hct, hys, hos, hco⟩ := hall y rfl
      simp only [hP] at hAt
      have hPb := fun w' g (u eo : El) (hy : LsAt w' y.l u) (hyt : u.lt w'.heap.size) (ho : TB w' g old eo) (hs : Sl w' w'.heap.size 2 A3 m3 c3 (stC ps)) => (i_PutAt y old u eo A3 m3 c3 ps w' hy hyt (by omega) ho.ls ho.lt (by omega) hs).mono fun r w2 h => h.ret
      have hAb := fun w' (u : El) (hy : LsAt w' y.l u) (hyt : u.lt w'.heap.size) (hs : Sl w' w'.heap.size 2 A3 m3 c3 (stC ps)) => (i_AtPath y u A3 m3 c3 ps w' hy hyt (by omega) hs).mono fun r w2 h => h.ret
      simp only [hB] at hPb
      simp only [hG] at hAb
      have hy1 : y.sz ≤ 2097152 := by omega
      have hcv := valT_sz v
      have hcx := valT_sz x
      have hcy := valT_sz y
      have hcz := valT_sz old
      clear hall hOP hP hO hB hG
      simp only [Option.getD_some, Option.isSome_some] at hPi hPs hAt hPb hAb
      obtain ⟨a0, a1, a2, a3, a4⟩ := TV.blk.boxV
      obtain ⟨b0, b1, b2, b3, b4⟩ := TX.blk.boxV
      go_wp2_with fail
      refine (hPi _ TV TX hS).mono ?_; rintro r w3 ⟨u1, rfl, hlu1, htu1, hb3⟩
      have kq := Below.one w3 (.cells (valCells y u1) 26)
      have kr := hb3.up kq
      replace TV := TV.below kr
      replace TX := TX.below kr
      have TY := TB.new hlu1 htu1
      replace hS := (hS.below kr).more kr.size
      replace K := K.up kr
      clear hlu1 htu1 kq kr hb3
      clear a0 a1 a2 a3 a4 b0 b1 b2 b3 b4
      obtain ⟨a0, a1, a2, a3, a4⟩ := TV.blk.boxV
      obtain ⟨b0, b1, b2, b3, b4⟩ := TX.blk.boxV
      go_wp2_with fail
      refine (hPs _ TV TX hS).mono ?_; rintro r w4 ⟨u2, rfl, hlu2, htu2, hb4⟩
      have kq := Below.one w4 (.cells (valCells y u2) 26)
      have kr := hb4.up kq
      replace TV := TV.below kr
      replace TX := TX.below kr
      replace TY := TY.below kr
      have TZ := TB.new hlu2 htu2
      replace hS := (hS.below kr).more kr.size
      replace K := K.up kr
      clear hlu2 htu2 kq kr hb4
      clear a0 a1 a2 a3 a4 b0 b1 b2 b3 b4
      obtain ⟨a0, a1, a2, a3, a4⟩ := TY.blk.boxV
      obtain ⟨b0, b1, b2, b3, b4⟩ := TZ.blk.boxV
      go_wp2_with fail
      refine (same_tb TY TZ).mono ?_; rintro r w5 ⟨rfl, hb5⟩
      replace TV := TV.below hb5
      replace TX := TX.below hb5
      replace TY := TY.below hb5
      replace TZ := TZ.below hb5
      replace hS := (hS.below hb5).more hb5.size
      replace K := K.up hb5
      clear hb5
      clear a0 a1 a2 a3 a4 b0 b1 b2 b3 b4
      clear hPi hPs TZ
      obtain ⟨a0, a1, a2, a3, a4⟩ := TV.blk.boxV
      go_wp2_with fail
      refine (hAt _ TV hS).mono ?_; rintro r w6 ⟨u3, rfl, hlu3, htu3, hb6⟩
      have kq := Below.one w6 (.cells (valCells old u3) 26)
      have kr := hb6.up kq
      replace TV := TV.below kr
      replace TX := TX.below kr
      replace TY := TY.below kr
      have TO := TB.new hlu3 htu3
      replace hS := (hS.below kr).more kr.size
      replace K := K.up kr
      clear hlu3 htu3 kq kr hb6
      clear a0 a1 a2 a3 a4
      clear hAt
      obtain ⟨a0, a1, a2, a3, a4⟩ := TY.blk.boxV
      obtain ⟨b0, b1, b2, b3, b4⟩ := TO.blk.boxV
      go_wp2_with fail
      refine (hPb _ _ u1 u3 TY.ls TY.lt TO hS).mono ?_; rintro r w7 ⟨u4, rfl, hlu4, htu4, hb7⟩
      have kq := Below.one w7 (.cells (valCells v u4) 26)
      have kr := hb7.up kq
      replace TV := TV.below kr
      replace TX := TX.below kr
      replace TY := TY.below kr
      replace TO := TO.below kr
      have TW := TB.new hlu4 htu4
      replace hS := (hS.below kr).more kr.size
      replace K := K.up kr
      clear hlu4 htu4 kq kr hb7
      clear a0 a1 a2 a3 a4 b0 b1 b2 b3 b4
      clear hPb
      obtain ⟨a0, a1, a2, a3, a4⟩ := TY.blk.boxV
      go_wp2_with fail
      refine (hAb _ u1 TY.ls TY.lt hS).mono ?_; rintro r w8 ⟨u5, rfl, hlu5, htu5, hb8⟩
      have kq := Below.one w8 (.cells (valCells x u5) 26)
      have kr := hb8.up kq
      replace TV := TV.below kr
      replace TX := TX.below kr
      replace TY := TY.below kr
      replace TO := TO.below kr
      replace TW := TW.below kr
      have TG := TB.new hlu5 htu5
      replace hS := (hS.below kr).more kr.size
      replace K := K.up kr
      clear hlu5 htu5 kq kr hb8
      clear a0 a1 a2 a3 a4
      clear hAb
      go_upto_region 15 with fail
      generalize w8.alloc (.cells (valCells x u5) 26) = wZ at TV TX TY TO TW TG hS K ⊢
      generalize w3.heap.size = gY at TY ⊢
      generalize w6.heap.size = gO at TO ⊢
      generalize w7.heap.size = gW at TW ⊢
      generalize w8.heap.size = gG at TG ⊢
      clear hS
      have hS0 := fun (w' : World) (hb : Below wZ.heap.size wZ w') => (show (BoxV w' gW v u4 ∧ BoxV w' g3 v e ∧ BoxV w' gG x u5 ∧ BoxV w' (g3 + 1) x ex ∧ BoxV w' gY y u1 ∧ BoxV w' gO old u3) ∧ Below wZ.heap.size wZ w' from ⟨⟨(TW.below hb).blk.boxV, (TV.below hb).blk.boxV, (TG.below hb).blk.boxV, (TX.below hb).blk.boxV, (TY.below hb).blk.boxV, (TO.below hb).blk.boxV⟩, hb⟩)
      have hS2 := fun (w' w'' : World) (h : (BoxV w' gW v u4 ∧ BoxV w' g3 v e ∧ BoxV w' gG x u5 ∧ BoxV w' (g3 + 1) x ex ∧ BoxV w' gY y u1 ∧ BoxV w' gO old u3) ∧ Below wZ.heap.size wZ w') (hb : Below w'.heap.size w' w'') => hS0 w'' (h.2.up hb)
      have hE1 := fun (w' : World) (h : (BoxV w' gW v u4 ∧ BoxV w' g3 v e ∧ BoxV w' gG x u5 ∧ BoxV w' (g3 + 1) x ex ∧ BoxV w' gY y u1 ∧ BoxV w' gO old u3) ∧ Below wZ.heap.size wZ w') => same_tb (TW.below h.2) (TV.below h.2)
      have hE2 := fun (w' : World) (h : (BoxV w' gW v u4 ∧ BoxV w' g3 v e ∧ BoxV w' gG x u5 ∧ BoxV w' (g3 + 1) x ex ∧ BoxV w' gY y u1 ∧ BoxV w' gO old u3) ∧ Below wZ.heap.size wZ w') => same_tb (TG.below h.2) (TX.below h.2)
      have hC1 := fun (w' : World) (h : (BoxV w' gW v u4 ∧ BoxV w' g3 v e ∧ BoxV w' gG x u5 ∧ BoxV w' (g3 + 1) x ex ∧ BoxV w' gY y u1 ∧ BoxV w' gO old u3) ∧ Below wZ.heap.size wZ w') => i_CountOf y u1 w' (TY.below h.2).ls (TY.below h.2).lt (by omega)
      have hC2 := fun (w' : World) (h : (BoxV w' gW v u4 ∧ BoxV w' g3 v e ∧ BoxV w' gG x u5 ∧ BoxV w' (g3 + 1) x ex ∧ BoxV w' gY y u1 ∧ BoxV w' gO old u3) ∧ Below wZ.heap.size wZ w') => i_CountOf v e w' (TV.below h.2).ls (TV.below h.2).lt (by omega)
      have hC3 := fun (w' : World) (h : (BoxV w' gW v u4 ∧ BoxV w' g3 v e ∧ BoxV w' gG x u5 ∧ BoxV w' (g3 + 1) x ex ∧ BoxV w' gY y u1 ∧ BoxV w' gO old u3) ∧ Below wZ.heap.size wZ w') => i_CountOf old u3 w' (TO.below h.2).ls (TO.below h.2).lt (by omega)
      have hC4 := fun (w' : World) (h : (BoxV w' gW v u4 ∧ BoxV w' g3 v e ∧ BoxV w' gG x u5 ∧ BoxV w' (g3 + 1) x ex ∧ BoxV w' gY y u1 ∧ BoxV w' gO old u3) ∧ Below wZ.heap.size wZ w') => i_CountOf x ex w' (TX.below h.2).ls (TX.below h.2).lt (by omega)
      generalize valT y = ny at hC1 hct hcy
      generalize valT v = nv at hC2 hct hcv hco
      generalize valT old = no at hC3 hct hcz hco
      generalize valT x = nx at hC4 hct hcx
      have q1 : ny ≤ 2097153 := by omega
      have q2 : nv ≤ 1048577 := by omega
      have q3 : no ≤ 1048577 := by omega
      have q4 : nx ≤ 1048577 := by omega
      have HQ := Lib.hid hct
      clear hct hcy hcv hcz hcx hco hvs hxs hys hos hy1 TV TX TY TO TW TG
      go_region_held3 (fun w' => (BoxV w' gW v u4 ∧ BoxV w' g3 v e ∧ BoxV w' gG x u5 ∧ BoxV w' (g3 + 1) x ex ∧ BoxV w' gY y u1 ∧ BoxV w' gO old u3) ∧ Below wZ.heap.size wZ w')
        (first | exact hS0 _ (Below.refl _ _).drew | (refine hS2 _ _ ?_ hbA; assumption) | (refine hS2 _ _ ?_ hbB; assumption) | (refine hS2 _ _ ?_ hbC; assumption) | (refine hS2 _ _ ?_ hbD; assumption) | (refine hS2 _ _ ?_ hbE; assumption) | (refine hS2 _ _ ?_ hbF; assumption) | fail)
        (first
          | (go_at_call 8; have hq := hE1; clear hq; refine (hE1 _ (by assumption)).mono ?_; clear hE1; rintro r wa ⟨rfl, hbA⟩)
          | (go_at_call 8; refine (hE2 _ (by assumption)).mono ?_; rintro r wb ⟨rfl, hbB⟩)
          | (go_at_call 10; have hq := hC1; clear hq; refine (hC1 _ (by assumption)).mono ?_; clear hC1; rintro r wc ⟨rfl, hbC⟩)
          | (go_at_call 10; have hq := hC2; clear hq; refine (hC2 _ (by assumption)).mono ?_; clear hC2; rintro r wd ⟨rfl, hbD⟩)
          | (go_at_call 10; have hq := hC3; clear hq; refine (hC3 _ (by assumption)).mono ?_; clear hC3; rintro r we ⟨rfl, hbE⟩)
          | (go_at_call 10; refine (hC4 _ (by assumption)).mono ?_; rintro r wf ⟨rfl, hbF⟩))
      rename_i hHeld
      have kR := hHeld.2
      go_wp2_with fail
      go_ret
      have hct := HQ.out
      have hw1 : IntKind.i64.wrap ((nv : Int) - (no : Int)) = (nv : Int) - (no : Int) := by rw [IntKind.wrap_i64]; omega
      have hw2 : IntKind.i64.wrap ((nv : Int) - (no : Int) + (nx : Int)) = (ny : Int) := by rw [IntKind.wrap_i64]; omega
      refine ⟨?_, K.up kR⟩
      simp [hw1, hw2]
end Go.Proofs.Ytpafgmlkbbbmhaa
