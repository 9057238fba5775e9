/- The law on heads: FnHeads. (Under way.) -/
import Derived.Test.YtnfeplbdipajaaaHeadAlg
import Derived.Test.YtnfeplbdipajaaaGetDraw
import Derived.Test.YtnfeplbdipajaaaBitsLaw
import Derived.Deep.RegionHeld3
import Derived.Deep.CutRange
import Derived.Deep.QuietTactic
import Derived.BigQuiet
set_option linter.unusedVariables false
set_option maxRecDepth 100000
set_option linter.unusedSimpArgs false
namespace Go.Proofs.Ytnfeplbdipajaaa
open Go.RowKit

/-- A head's three cells. -/
abbrev Box3v (w' : World) (g : Nat) (a b c : Int) : Prop := w'.cell? ⟨g, 0, none⟩ = some (.int .i64 a) ∧ w'.cell? ⟨g, 1, none⟩ = some (.int .i64 b) ∧ w'.cell? ⟨g, 2, none⟩ = some (.int .i64 c)
theorem Blk.box3v {w : World} {g : Nat} {T : TypeId} {a b c : Int} (h : Blk w g T #[.int .i64 a, .int .i64 b, .int .i64 c]) : Box3v w g a b c := ⟨h.cell 0, h.cell 1, h.cell 2⟩
theorem Sl.emp (w : World) (B : Nat) (A : Option Addr) : Sl w B 1 A 0 0 (u8s []) := ⟨rfl, Nat.le_refl _, by decide, fun h => absurd h (by omega)⟩
theorem Sl.sub2 {w : World} {B m c g o : Nat} {b : List UInt8} (h : Sl w B 1 (some ⟨g, o, none⟩) m c (u8s b)) (i v : Nat) (hi : i + v ≤ m) (hv : 0 < v) : Sl w B 1 (some ⟨g, o + i, none⟩) v (c - i) (u8s (part b i v)) := by
  have hl := h.blen
  have hc := h.cap
  have hm := h.max
  obtain ⟨g', o', e, hg, hk⟩ := h.at_ (by omega)
  cases e
  refine ⟨by rw [u8s_len, part_len (by omega)]; omega, by omega, by omega, fun _ => ⟨g, o + i, rfl, hg, fun j u hu => ?_⟩⟩
  rw [Nat.add_assoc]
  refine hk (i + j) u ?_
  have hj : j < v := by have := (List.getElem?_eq_some_iff.1 hu).1; rw [u8s_len, part_len (by omega)] at this; exact this
  rw [← hu]
  simp [u8s, part, List.getElem?_take, hj]
set_option maxHeartbeats 4000000 in
theorem law_FnHeads (A : Option Addr) (n c : Nat) (b : List UInt8) (w : World) (h : Sl w w.heap.size 1 A n c (u8s b)) :
    Calls Try.prog 4 #[.slice A n c] w fun e' w' => e' = .returned (.bool true) ∧ Below w.heap.size w w' := by
  have hn9 : n ≤ 9223372036854775807 := by have := h.cap; have := h.max; unfold maxLen at *; omega
  have hbig := fun w1 => l_big A n c w1 hn9
  by_cases hn : 1048576 < n
  · rw [decide_eq_true hn] at hbig
    go_enter Try.func4, Try.ntmps4
    go_wp2_with (go_at_call 8; refine (hbig _).mono ?_; rintro e w1 ⟨rfl, rfl⟩)
    go_ret
    exact ⟨rfl, Below.refl _ _⟩
  rw [decide_eq_false hn] at hbig
  go_enter Try.func4, Try.ntmps4
  go_wp2_with (go_at_call 8; refine (hbig _).mono ?_; rintro e w1 ⟨rfl, rfl⟩)
  refine (s_DrawPutHead A n c b _ h (by omega)).mono ?_; rintro e w1 ⟨A1, k1, c1, l1, x, y, z, rfl, hA1, hk1, hy, hb1⟩
  have K1 := hb1.up (Below.one w1 (.cells #[.int .i64 x, .int .i64 y, .int .i64 z] 33))
  have BH := Blk.new w1 33 #[.int .i64 x, .int .i64 y, .int .i64 z]
  replace hA1 := hA1.below (Below.one w1 (.cells #[.int .i64 x, .int .i64 y, .int .i64 z] 33))
  obtain ⟨p0, p1, p2⟩ := BH.box3v
  go_wp2_with fail
  refine (i_PutHead A1 k1 c1 l1 x y z _ _ hA1.sl (Nat.le_refl _) (by omega) hy).mono ?_; rintro e w2 ⟨A2, n2, c2, rfl, hA2, hb2⟩
  have hl1 := hA1.sl.blen
  have hl2 := hA2.sl.blen
  replace BH := BH.below hb2 BH.lt
  replace hA1 := hA1.below hb2
  have K2 := K1.up hb2
  go_wp2_with fail
  refine (s_DrawHeadFor A n c b _ ((h.below K2).more K2.size) (by omega)).mono ?_; rintro e w3 ⟨mj, nn, rfl, hnn, hb3⟩
  replace BH := BH.below hb3 BH.lt
  replace hA1 := hA1.below hb3
  replace hA2 := hA2.below hb3
  have K3 := K2.up hb3
  obtain ⟨f1, f2, f3, hV, hf2⟩ := headForV_sh mj nn
  have hHi := fun w => i_HeadFor mj nn w hnn
  have hHs := fun w => s_HeadFor mj nn w
  rw [hV] at hHi hHs
  go_wp2_with fail
  refine (hHi _).mono ?_; rintro e w4 ⟨rfl, hb4⟩
  have hb4a := hb4.up (Below.one w4 (.cells #[.int .i64 f1, .int .i64 f2, .int .i64 f3] 33))
  have BF := Blk.new w4 33 #[.int .i64 f1, .int .i64 f2, .int .i64 f3]
  replace BH := BH.below hb4a BH.lt
  replace hA1 := hA1.below hb4a
  replace hA2 := hA2.below hb4a
  have K4 := K3.up hb4a
  go_wp2_with fail
  refine (s_DrawGetHead A n c b _ ((h.below K4).more K4.size) (by omega)).mono ?_; rintro e w5 ⟨A5, k5, c5, l5, i5, rfl, hA5, hk5, hi5, hb5⟩
  replace BH := BH.below hb5 BH.lt
  replace BF := BF.below hb5 BF.lt
  replace hA1 := hA1.below hb5
  replace hA2 := hA2.below hb5
  have K5 := K4.up hb5
  obtain ⟨⟨g1, g2, g3, nx, co⟩, hg⟩ : ∃ x, getHead l5 i5 = x := ⟨_, rfl⟩
  have hGi := fun w (hs : Sl w w.heap.size 1 A5 k5 c5 (u8s l5)) => i_GetHead A5 k5 c5 l5 i5 w _ hs (Nat.le_refl _) (by omega) (by omega)
  have hGs := fun w (hs : Sl w w.heap.size 1 A5 k5 c5 (u8s l5)) => s_GetHead A5 k5 c5 l5 i5 w _ hs (Nat.le_refl _) (by omega) (by omega)
  simp only [hg, ret5, headRet] at hGi hGs
  go_wp2_with fail
  refine (hGi _ hA5).mono ?_; rintro e w6 ⟨rfl, hb6⟩
  have hb6a := hb6.up (Below.one w6 (.cells #[.int .i64 g1, .int .i64 g2, .int .i64 g3] 33))
  have BG := Blk.new w6 33 #[.int .i64 g1, .int .i64 g2, .int .i64 g3]
  replace BH := BH.below hb6a BH.lt
  replace BF := BF.below hb6a BF.lt
  replace hA1 := hA1.below hb6a
  replace hA2 := hA2.below hb6a
  replace hA5 := (hA5.below hb6a).more hb6a.size
  have K6 := K5.up hb6a
  go_wp2_with fail
  refine (hGs _ hA5).mono ?_; rintro e w7 ⟨rfl, hb7⟩
  have hb7a := hb7.up (Below.one w7 (.cells #[.int .i64 g1, .int .i64 g2, .int .i64 g3] 33))
  have BS_ := Blk.new w7 33 #[.int .i64 g1, .int .i64 g2, .int .i64 g3]
  replace BH := BH.below hb7a BH.lt
  replace BF := BF.below hb7a BF.lt
  replace BG := BG.below hb7a BG.lt
  replace hA1 := hA1.below hb7a
  replace hA2 := hA2.below hb7a
  replace hA5 := (hA5.below hb7a).more hb7a.size
  have K7 := K6.up hb7a
  clear hb1 hb2 hb3 hb4 hb4a hb5 hb6 hb6a hb7 hb7a K1 K2 K3 K4 K5 K6 hGi hGs hHi p0 p1 p2
  go_upto_region 10 with fail
  generalize (w7.alloc (.cells #[.int .i64 g1, .int .i64 g2, .int .i64 g3] 33)) = wZ at BH BF BG BS_ hA1 hA2 hA5 K7 ⊢
  have hS0 := fun (w' : World) (hb : Below wZ.heap.size wZ w') => (show (Box3v w' w1.heap.size x y z ∧ Box3v w' w4.heap.size f1 f2 f3 ∧ Box3v w' w6.heap.size g1 g2 g3 ∧ Box3v w' w7.heap.size g1 g2 g3) ∧ Below wZ.heap.size wZ w' from ⟨⟨(BH.below hb BH.lt).box3v, (BF.below hb BF.lt).box3v, (BG.below hb BG.lt).box3v, (BS_.below hb BS_.lt).box3v⟩, hb⟩)
  have hS2 := fun (w' w'' : World) (h : (Box3v w' w1.heap.size x y z ∧ Box3v w' w4.heap.size f1 f2 f3 ∧ Box3v w' w6.heap.size g1 g2 g3 ∧ Box3v w' w7.heap.size g1 g2 g3) ∧ Below wZ.heap.size wZ w') (hb : Below w'.heap.size w' w'') => hS0 w'' (h.2.up hb)
  have hP := fun (w' : World) (h : (Box3v w' w1.heap.size x y z ∧ Box3v w' w4.heap.size f1 f2 f3 ∧ Box3v w' w6.heap.size g1 g2 g3 ∧ Box3v w' w7.heap.size g1 g2 g3) ∧ Below wZ.heap.size wZ w') => s_PutHead A1 k1 c1 l1 x y z w' _ ((hA1.sl.below h.2).more h.2.size) (Nat.le_refl _) (by omega) hy
  have hE := fun (w' : World) (h : (Box3v w' w1.heap.size x y z ∧ Box3v w' w4.heap.size f1 f2 f3 ∧ Box3v w' w6.heap.size g1 g2 g3 ∧ Box3v w' w7.heap.size g1 g2 g3) ∧ Below wZ.heap.size wZ w') A8 n8 c8 lo (hA8 : BS w' lo A8 n8 c8 (l1 ++ headB x y z)) => l_same A2 n2 c2 (l1 ++ headB x y z) A8 n8 c8 (l1 ++ headB x y z) w' _ ((hA2.sl.below h.2).more h.2.size) hA8.sl
  clear h hbig
  go_region_held3 (fun w' => (Box3v w' w1.heap.size x y z ∧ Box3v w' w4.heap.size f1 f2 f3 ∧ Box3v w' w6.heap.size g1 g2 g3 ∧ Box3v w' w7.heap.size g1 g2 g3) ∧ Below wZ.heap.size wZ w')
    (first | exact hS0 _ (Below.refl _ _).drew | (refine hS2 _ _ ?_ hbA; assumption) | (refine hS2 _ _ ?_ (hdB.below _); assumption) | (refine hS2 _ _ ?_ hbC; assumption) | (refine hS2 _ _ ?_ hbD; assumption) | (refine hS2 _ _ ?_ hbE; assumption))
    (first
      | (go_at_call 24; refine (hP _ (by assumption)).mono ?_; rintro e wa ⟨A8, n8, c8, rfl, hA8, hbA⟩)
      | (go_at_call 23; refine (hE _ (by assumption) _ _ _ _ hA8).mono ?_; rintro e wb ⟨rfl, hdB⟩)
      | (go_at_call 25; refine (hHs _).mono ?_; rintro e wc ⟨rfl, hbC⟩)
      | (go_at_call 26; refine (i_HeadOk x y z _ hy).mono ?_; rintro e wd ⟨rfl, hbD⟩)
      | (go_at_call 27; refine (s_HeadOk x y z _).mono ?_; rintro e we ⟨rfl, hbE⟩))
  rename_i hHeld
  have kR := hHeld.2
  rename World => wR
  clear hS0 hS2 hP hE hHeld hbA hdB hbC hbD hbE hA8
  replace BH := BH.below kR BH.lt
  replace BG := BG.below kR BG.lt
  replace hA1 := hA1.below kR
  replace hA2 := hA2.below kR
  replace hA5 := (hA5.below kR).more kR.size
  have KR := K7.up kR
  clear kR BF BS_ K7
  have hS0 := fun (w' : World) (hb : Below wR.heap.size wR w') => (show Box3v w' w6.heap.size g1 g2 g3 ∧ Below wR.heap.size wR w' from ⟨(BG.below hb BG.lt).box3v, hb⟩)
  obtain ⟨p0, p1, p2⟩ := BH.box3v
  obtain ⟨d0, d1, d2⟩ := BG.box3v
  by_cases hco : co = 0
  · subst hco
    obtain ⟨hok, j, k, rfl, rfl, hjk, hpart⟩ := getHead_good hg
    have hg2 : g2 ≤ 9223372036854775807 := by have := headOk_iff hok; omega
    have hGok := fun w => i_HeadOk g1 g2 g3 w hg2
    rw [hok] at hGok
    have hk : 0 < k := by
      have h1 := headB_size hok
      rw [hpart, part_len hjk] at h1
      split at h1 <;> omega
    have hl5 := hA5.blen
    have hcap5 := hA5.cap
    obtain ⟨g5, o5, rfl, hg5, _⟩ := hA5.at_ (by omega)
    have e1 : (0 : Int) ≤ (j : Int) := by omega
    have e2 : (j : Int) ≤ ((j + k : Nat) : Int) := by omega
    have e3 : ((j + k : Nat) : Int) ≤ (c5 : Int) := by omega
    have e4 : ¬ c5 = j := by omega
    have hsub := hA5.sub2 j k (by omega) hk
    have hP := fun (w' : World) (g8 : Nat) => i_PutHead (some ⟨g8, 0, none⟩) 0 0 [] g1 g2 g3 w' _ (Sl.emp w' w'.heap.size _) (Nat.le_refl _) (by omega) hg2
    rw [hpart] at hP
    have hEs := fun (w' : World) (hb : Below wR.heap.size wR w') A8 n8 c8 lo (hA8 : BS w' lo A8 n8 c8 ([] ++ part l5 j k)) => l_same A8 n8 c8 (part l5 j k) (some ⟨g5, o5 + j, none⟩) k (c5 - j) (part l5 j k) w' _ (show Sl w' w'.heap.size 1 A8 n8 c8 (u8s (part l5 j k)) from hA8.sl) ((hsub.below hb).more hb.size)
    have e5 : ((j + k : Nat) : Int).toNat = j + k := by omega
    have e6 : j + k - j = k := by omega
    have u1 : (0 : Int) ≤ (j : Int) + (k : Int) := by omega
    have u2 : (j : Int) + (k : Int) ≤ (c5 : Int) := by omega
    have u3 : max ((j : Int) + (k : Int)) 0 = (j : Int) + (k : Int) := by omega
    have u4 : (j : Int) ≤ (j : Int) + (k : Int) := by omega
    have u5 : ((j : Int) + (k : Int)).toNat = j + k := by omega
    go_wp2_with fail
    go_region_held3 (fun w' => Box3v w' w6.heap.size g1 g2 g3 ∧ Below wR.heap.size wR w')
      (((refine hS0 _ ?_); (with_reducible first | (refine Below.up ?_ (Below.one _ _); assumption) | exact (Below.refl _ _).drew | assumption)))
      (first
        | (go_at_call 26; refine (hGok _).mono ?_; rintro e wd ⟨rfl, hbD⟩; have kD : Below wR.heap.size wR wd := (Below.refl wR.heap.size wR).drew.up hbD)
        | (go_at_call 17; refine (hP _ _).mono ?_; rintro e wa ⟨A8, n8, c8, rfl, hA8, hbA⟩; have kA : Below wR.heap.size wR wa := (kD.up (Below.one _ _)).up hbA)
        | (go_at_call 23; refine (hEs _ kA _ _ _ _ hA8).mono ?_; rintro e wb ⟨rfl, hdB⟩; have kB : Below wR.heap.size wR wb := kA.up (hdB.below _)))
    rename_i hHeld
    have kT := hHeld.2
    rename World => wT
    clear hS0 hHeld hbD hbA hdB kD kA kB hA8 hP hEs hGok hsub
    have BT := BH.below kT BH.lt
    have hA1t := hA1.below kT
    have hA2t := hA2.below kT
    have KT := KR.up kT
    obtain ⟨p0, p1, p2⟩ := BT.box3v
    have hHk := fun w => i_HeadOk x y z w hy
    cases hfo : headOk x y z
    · rw [hfo] at hHk
      rw [headB_no hfo, List.append_nil] at hA2t
      go_wp2_with fail
      refine (hHk _).mono ?_; rintro e wf ⟨rfl, hbf⟩
      go_wp2_with fail
      refine (l_same A2 n2 c2 l1 A1 k1 c1 l1 wf _ (hA2t.below hbf).sl (hA1t.below hbf).sl).mono ?_; rintro e wh ⟨rfl, hdh⟩
      go_wp2_with fail
      go_ret
      exact ⟨by simp, (KT.up hbf).up (hdh.below _)⟩
    · rw [hfo] at hHk
      have hput := getHead_put l1 x y z hfo
      rw [hl1, hl2] at hput
      have hlb := headB_len x y z
      rw [List.length_append] at hl2
      have hG2 := fun w' (hs : Sl w' w'.heap.size 1 A2 n2 c2 (u8s (l1 ++ headB x y z))) => i_GetHead A2 n2 c2 (l1 ++ headB x y z) (k1 : Int) w' _ hs (Nat.le_refl _) (by omega) (by omega)
      simp only [hput, ret5, headRet] at hG2
      go_wp2_with fail
      refine (hHk _).mono ?_; rintro e wf ⟨rfl, hbf⟩
      go_wp2_with fail
      refine (hG2 _ (hA2t.below hbf).sl).mono ?_; rintro e wh ⟨rfl, hbh⟩
      have hbh2 := hbh.up (Below.one wh (.cells #[.int .i64 x, .int .i64 y, .int .i64 z] 33))
      have BY := Blk.new wh 33 #[.int .i64 x, .int .i64 y, .int .i64 z]
      have BT2 := (BT.below hbf BT.lt).below hbh2 (BT.below hbf BT.lt).lt
      have hA1u := (hA1t.below hbf).below hbh2
      have KU := (KT.up hbf).up hbh2
      obtain ⟨r0, r1, r2⟩ := BY.box3v
      obtain ⟨p0, p1, p2⟩ := BT2.box3v
      by_cases hz : z < 0
      · go_wp2_with fail
        go_ret
        exact ⟨rfl, KU⟩
      · obtain ⟨q1, q2, q3, hV2, hq2⟩ := headForV_sh x y
        have hF2 := fun w => i_HeadFor x y w hy
        rw [hV2] at hF2
        have hsh := headFor_short hfo (by omega) hV2
        have hq2b : q2 ≤ 9223372036854775807 := by rcases hq2 with rfl | rfl <;> omega
        clear hV2 hq2
        go_wp2_with fail
        refine (hF2 _).mono ?_; rintro e wi ⟨rfl, hbi⟩
        go_wp2_with fail
        refine (i_PutHead A1 k1 c1 l1 q1 q2 q3 _ _ (hA1u.below hbi).sl (Nat.le_refl _) (by omega) hq2b).mono ?_; rintro e wj ⟨A9, n9, c9, rfl, hA9, hbj⟩
        have hl9 := hA9.sl.blen
        rw [List.length_append] at hl9
        have hle : (n9 : Int) ≤ (n2 : Int) := by omega
        go_wp2_with fail
        go_ret
        exact ⟨rfl, (KU.up hbi).up hbj⟩
  · have hcz : (co == 0) = false := by simp [hco]
    go_wp2_with fail
    go_quiet (fail)
    have kT : Below wR.heap.size wR (wR.drewN nq) := below_drewN (Below.refl _ _) nq
    have BT := BH.below kT BH.lt
    have hA1t := hA1.below kT
    have hA2t := hA2.below kT
    have KT := KR.up kT
    obtain ⟨p0, p1, p2⟩ := BT.box3v
    have hHk := fun w => i_HeadOk x y z w hy
    cases hfo : headOk x y z
    · rw [hfo] at hHk
      rw [headB_no hfo, List.append_nil] at hA2t
      go_wp2_with fail
      refine (hHk _).mono ?_; rintro e wf ⟨rfl, hbf⟩
      go_wp2_with fail
      refine (l_same A2 n2 c2 l1 A1 k1 c1 l1 wf _ (hA2t.below hbf).sl (hA1t.below hbf).sl).mono ?_; rintro e wh ⟨rfl, hdh⟩
      go_wp2_with fail
      go_ret
      exact ⟨by simp, (KT.up hbf).up (hdh.below _)⟩
    · rw [hfo] at hHk
      have hput := getHead_put l1 x y z hfo
      rw [hl1, hl2] at hput
      have hlb := headB_len x y z
      rw [List.length_append] at hl2
      have hG2 := fun w' (hs : Sl w' w'.heap.size 1 A2 n2 c2 (u8s (l1 ++ headB x y z))) => i_GetHead A2 n2 c2 (l1 ++ headB x y z) (k1 : Int) w' _ hs (Nat.le_refl _) (by omega) (by omega)
      simp only [hput, ret5, headRet] at hG2
      go_wp2_with fail
      refine (hHk _).mono ?_; rintro e wf ⟨rfl, hbf⟩
      go_wp2_with fail
      refine (hG2 _ (hA2t.below hbf).sl).mono ?_; rintro e wh ⟨rfl, hbh⟩
      have hbh2 := hbh.up (Below.one wh (.cells #[.int .i64 x, .int .i64 y, .int .i64 z] 33))
      have BY := Blk.new wh 33 #[.int .i64 x, .int .i64 y, .int .i64 z]
      have BT2 := (BT.below hbf BT.lt).below hbh2 (BT.below hbf BT.lt).lt
      have hA1u := (hA1t.below hbf).below hbh2
      have KU := (KT.up hbf).up hbh2
      obtain ⟨r0, r1, r2⟩ := BY.box3v
      obtain ⟨p0, p1, p2⟩ := BT2.box3v
      by_cases hz : z < 0
      · go_wp2_with fail
        go_ret
        exact ⟨rfl, KU⟩
      · obtain ⟨q1, q2, q3, hV2, hq2⟩ := headForV_sh x y
        have hF2 := fun w => i_HeadFor x y w hy
        rw [hV2] at hF2
        have hsh := headFor_short hfo (by omega) hV2
        have hq2b : q2 ≤ 9223372036854775807 := by rcases hq2 with rfl | rfl <;> omega
        clear hV2 hq2
        go_wp2_with fail
        refine (hF2 _).mono ?_; rintro e wi ⟨rfl, hbi⟩
        go_wp2_with fail
        refine (i_PutHead A1 k1 c1 l1 q1 q2 q3 _ _ (hA1u.below hbi).sl (Nat.le_refl _) (by omega) hq2b).mono ?_; rintro e wj ⟨A9, n9, c9, rfl, hA9, hbj⟩
        have hl9 := hA9.sl.blen
        rw [List.length_append] at hl9
        have hle : (n9 : Int) ≤ (n2 : Int) := by omega
        go_wp2_with fail
        go_ret
        exact ⟨rfl, (KU.up hbi).up hbj⟩
end Go.Proofs.Ytnfeplbdipajaaa
