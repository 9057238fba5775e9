/- AtPath: impl and spec. -/
import Derived.Test.YtpafgmlkbbbmhaaDoorPqM14
set_option linter.unusedVariables false
set_option maxRecDepth 100000
set_option linter.unusedSimpArgs false
namespace Go.Proofs.YtpafgmlkbbbmhaaDoor
open Go.RowKit

theorem atPath_no {t : Tr} {p : Int × Bool} {ps : List (Int × Bool)} (h : stepT t p = none) : atPath t (p :: ps) = none := by simp [atPath, h]
theorem atPath_yes {t u : Tr} {p : Int × Bool} {ps : List (Int × Bool)} (h : stepT t p = some u) : atPath t (p :: ps) = atPath u ps := by simp [atPath, h]
theorem drop_cons {ps : List (Int × Bool)} {j : Nat} (h : j < ps.length) : ps.drop j = ps[j] :: ps.drop (j + 1) := List.drop_eq_getElem_cons h
set_option maxHeartbeats 1600000 in
theorem i_AtPath (t : Tr) (e : El) (A : Option Addr) (m c : Nat) (ps : List (Int × Bool)) (w : World) (hl : LsAt w t.l e) (hel : e.lt w.heap.size) (hm : t.sz ≤ 1099511627776) (h : Sl w w.heap.size 2 A m c (stC ps)) :
    Calls Tryd.prog 8 #[trV t e, .slice A m c] w fun r w' => AtOf w w' r (atPath t ps) := by
  obtain ⟨O, hO⟩ : ∃ O, atPath t ps = O := ⟨_, rfl⟩
  rw [hO]
  have hpl := h.stlen
  have hmc : m ≤ c ∧ c ≤ maxLen := ⟨h.cap, h.max⟩
  have hm9 : m ≤ 9223372036854775807 := by have := hmc.1; have := hmc.2; unfold maxLen at *; omega
  have k2 := Below.two w (.cells (valCells t e) 26) (.cells #[.int .i64 0, .int .i64 0, .int .i64 0, .string ⟨#[]⟩, .slice none 0 0] 26)
  have hZ : Blk ((w.alloc (.cells (valCells t e) 26)).alloc (.cells #[.int .i64 0, .int .i64 0, .int .i64 0, .string ⟨#[]⟩, .slice none 0 0] 26)) (w.heap.size + 1) 26 #[.int .i64 0, .int .i64 0, .int .i64 0, .string ⟨#[]⟩, .slice none 0 0] := by
    simpa using Blk.new (w.alloc (.cells (valCells t e) 26)) 26 #[.int .i64 0, .int .i64 0, .int .i64 0, .string ⟨#[]⟩, .slice none 0 0]
  have hV : Blk ((w.alloc (.cells (valCells t e) 26)).alloc (.cells #[.int .i64 0, .int .i64 0, .int .i64 0, .string ⟨#[]⟩, .slice none 0 0] 26)) w.heap.size 26 (valCells t e) := (Blk.new w _ _).alloc _
  have hl2 := hl.below hel k2
  go_enter Tryd.func8, Tryd.ntmps8
  go_wp2_with fail
  go_loopg [11] m (fun f z wr => ∃ (j : Nat) (q : Tr) (u : El), j + f = m ∧ z = .int .i64 j ∧ atPath q (ps.drop j) = O ∧ q.sz ≤ 1099511627776 ∧ LsAt wr q.l u ∧ u.lt w.heap.size ∧ Below w.heap.size w wr ∧ Blk wr w.heap.size 26 (valCells q u) ∧ Blk wr (w.heap.size + 1) 26 #[.int .i64 0, .int .i64 0, .int .i64 0, .string ⟨#[]⟩, .slice none 0 0])
  case atStart => exact ⟨0, t, e, by omega, rfl, hO, hm, hl2, hel, k2, hV, hZ⟩
  case round =>
    obtain ⟨j, q, u, hjf, rfl, hq, hqs, hql, hul, hk, hB, hZ2⟩ := hrel
    clear hl2 hV hZ
    have hz : w.heap.size + 2 ≤ wr.heap.size := hZ2.lt
    by_cases hlt : j < m
    · obtain ⟨f, rfl⟩ : ∃ f, gk = f + 1 := ⟨gk - 1, by omega⟩
      obtain ⟨g, o, hj, hA, hg, p0, p1⟩ := (h.below hk).stp hlt
      subst hA
      rw [drop_cons hj] at hq
      obtain ⟨⟨pa, pb⟩, hp⟩ : ∃ p, ps[j] = p := ⟨_, rfl⟩
      rw [hp] at p0 p1 hq
      simp only at p0 p1
      have hqn := hql.len
      have hszl := szT_le q.l 0
      have hsz := q.sz_eq
      have hix := fun o => i_index pa pb q u (wr.alloc o) (by omega)
      have hpc := place_lt q.k q.l.length pa pb
      obtain ⟨R, hR⟩ : ∃ R, place q.k q.l.length pa pb = R := ⟨_, rfl⟩
      rw [← hqn, hR] at hix
      have hno := stepT_no (t := q) (p := (pa, pb)) hR
      have hyes := fun (i : Nat) (h : R = i) (hi : i < q.l.length) => stepT_yes (t := q) (p := (pa, pb)) (j := i) (hR.trans h) hi
      rw [hR] at hpc
      clear hR
      have hB1 := hB.alloc (.cells #[.int .i64 pa, .bool pb] 34)
      obtain ⟨b0, b1, b2, b3, b4⟩ := hB1.boxV
      rcases hpc with hneg | ⟨hge, hlt2⟩
      · have hO2 := atPath_no (ps := ps.drop (j + 1)) (hno (by omega))
        rw [hq] at hO2
        subst hO2
        have hneg2 : R < 0 := by omega
        clear hno hyes hq hql
        go_wp2_with (go_at_call 27; refine (hix _).mono ?_; rintro r w3 ⟨rfl, hb3⟩; have hZ3 := (hZ2.alloc (.cells #[.int .i64 pa, .bool pb] 34)).below hb3 (by have := hZ2.lt; simp; omega); have kk := (hk.up (Below.one wr (.cells #[.int .i64 pa, .bool pb] 34))).up hb3; obtain ⟨x0, x1, x2, x3, x4, ⟨s0, t0⟩, ⟨s1, t1⟩, ⟨s2, t2⟩, ⟨s3, t3⟩, s4, t4⟩ := hZ3.five (o := 0) (by simp) (.int .i64 0) (.int .i64 0) (.int .i64 0) (.string ⟨#[]⟩))
        have hblk : Blk (set5 w3 (w.heap.size + 1) 0 zT zE) (w.heap.size + 1) 26 _ := Blk.five_ hZ3 zT zE
        have r3 : Below w.heap.size w (set5 w3 (w.heap.size + 1) 0 zT zE) := below_set5 kk (by omega)
        exact bodyPost_ret (results_blk2 Tryd.results8 Tryd.isAgg26 (by exact Tryd.sizeOf26) rfl hblk) rfl ⟨zE, rfl, LsAt.nil_ _ _, Own.nil_ _ _, r3⟩
      · obtain ⟨i, rfl⟩ := Int.eq_ofNat_of_zero_le hge
        have hi : i < q.l.length := by omega
        have hst := hyes i rfl hi
        have hq2 : atPath q.l[i] (ps.drop (j + 1)) = O := by rw [← hq]; exact (atPath_yes hst).symm
        have hqs2 := Nat.le_trans (child_sz hi) hqs
        have hL := fun w1 (hb : Below wr.heap.size wr w1) => (hql.below (hul.mono hk.size) hb).elem (j := i) (by omega)
        obtain ⟨qA, qn, qc, qfp⟩ := u
        have hqn : q.l.length = qn := hqn
        subst hqn
        have hqc : q.l.length ≤ qc ∧ qc ≤ maxLen := ⟨((lsAt_iff _ _).1 hql).2.1, ((lsAt_iff _ _).1 hql).2.2.1⟩
        clear hno hyes hq hql hst
        go_wp2_with (go_at_call 27; refine (hix _).mono ?_; rintro r w3 ⟨rfl, hb3⟩; have hZ3 := (hZ2.alloc (.cells #[.int .i64 pa, .bool pb] 34)).below hb3 (by have := hZ2.lt; simp; omega); have hB3 := hB1.below hb3 hB1.lt; have kb := (Below.one wr (.cells #[.int .i64 pa, .bool pb] 34)).up hb3; have kk := hk.up kb; obtain ⟨x0, x1, x2, x3, x4⟩ := hB3.boxV; obtain ⟨g2, o2, v, hi2, hAe, hgm, ⟨c0, c1, c2, c3, c4⟩, hch, hsub⟩ := hL w3 kb; replace hAe : qA = some ⟨g2, o2, none⟩ := hAe; subst hAe; obtain ⟨y0, y1, y2, y3, y4, ⟨s0, t0⟩, ⟨s1, t1⟩, ⟨s2, t2⟩, ⟨s3, t3⟩, s4, t4⟩ := hB3.five (o := 0) (by simp) (.int .i64 q.l[i].k) (.int .i64 q.l[i].n) (.int .i64 q.l[i].x) (.string q.l[i].s))
        have hvl : v.lt w.heap.size := fun x hx => hul x (hsub x hx)
        have hB5 : Blk (set5 w3 w.heap.size 0 q.l[i] v) w.heap.size 26 (valCells q.l[i] v) := Blk.five_ hB3 q.l[i] v
        have hZ5 : Blk (set5 w3 w.heap.size 0 q.l[i] v) (w.heap.size + 1) 26 _ := hZ3.far5 (by omega)
        have hl5 : LsAt (set5 w3 w.heap.size 0 q.l[i] v) q.l[i].l v := hch.set5_ (fun hx => Nat.lt_irrefl _ (hvl _ hx))
        have hk5 : Below w.heap.size w (set5 w3 w.heap.size 0 q.l[i] v) := below_set5 kk (Nat.le_refl _)
        clear hix hL hB hB1 hZ2 hZ3 hB3 hch c0 c1 c2 c3 c4 x0 x1 x2 x3 x4 s0 t0 s1 t1 s2 t2 s3 t3 s4 t4 b0 b1 b2 b3 b4 p0 p1 hb3 kb
        go_roundg f
        case measure => omega
        case rel => exact ⟨j + 1, q.l[i], v, by omega, by go_num, hq2, hqs2, hl5, hvl, hk5, hB5, hZ5⟩
    · obtain rfl : j = m := by omega
      rw [List.drop_eq_nil_of_le (by omega)] at hq
      obtain rfl : some q = O := hq
      obtain ⟨b0, b1, b2, b3, b4⟩ := hB.boxV
      have hcp := i_copyVal q u wr hql (hul.mono hk.size) hqs
      go_wp2_with (go_at_call 28; refine hcp.mono ?_; rintro r w5 ⟨v, rfl, hv1, hv2, hb5⟩; have hZ5 := hZ2.below hb5 hZ2.lt; obtain ⟨x0, x1, x2, x3, x4, ⟨s0, t0⟩, ⟨s1, t1⟩, ⟨s2, t2⟩, ⟨s3, t3⟩, s4, t4⟩ := hZ5.five (o := 0) (by simp) (.int .i64 q.k) (.int .i64 q.n) (.int .i64 q.x) (.string q.s))
      have hn2 : w.heap.size + 1 ∉ v.fp := fun hx => by have := (hv2.2 _ hx).1; omega
      have hblk : Blk (set5 w5 (w.heap.size + 1) 0 q v) (w.heap.size + 1) 26 _ := Blk.five_ hZ5 q v
      have r1 : LsAt (set5 w5 (w.heap.size + 1) 0 q v) q.l v := hv1.set5_ hn2
      have r2 : Own (set5 w5 (w.heap.size + 1) 0 q v) w.heap.size v.fp := Own.mono (hv2.set5_ hn2) hk.size
      have r3 : Below w.heap.size w (set5 w5 (w.heap.size + 1) 0 q v) := below_set5 (hk.up hb5) (by omega)
      exact bodyPost_ret (results_blk2 Tryd.results8 Tryd.isAgg26 (by exact Tryd.sizeOf26) rfl hblk) rfl ⟨v, rfl, r1, r2, r3⟩
set_option maxHeartbeats 1600000 in
theorem s_AtPath (t : Tr) (e : El) (A : Option Addr) (m c : Nat) (ps : List (Int × Bool)) (w : World) (hl : LsAt w t.l e) (hel : e.lt w.heap.size) (hm : t.sz ≤ 1099511627776) (h : Sl w w.heap.size 2 A m c (stC ps)) (hps : ∀ p ∈ ps, -9223372036854775808 ≤ p.1 ∧ p.1 ≤ 9223372036854775807) :
    Calls Tryd.prog 9 #[trV t e, .slice A m c] w fun r w' => AtOf w w' r (atPath t ps) := by
  obtain ⟨O, hO⟩ : ∃ O, atPath t ps = O := ⟨_, rfl⟩
  rw [hO]
  have hpl := h.stlen
  have hmc : m ≤ c ∧ c ≤ maxLen := ⟨h.cap, h.max⟩
  have hm9 : m ≤ 9223372036854775807 := by have := hmc.1; have := hmc.2; unfold maxLen at *; omega
  have k2 := Below.two w (.cells (valCells t e) 26) (.cells #[.int .i64 0, .int .i64 0, .int .i64 0, .string ⟨#[]⟩, .slice none 0 0] 26)
  have hZ : Blk ((w.alloc (.cells (valCells t e) 26)).alloc (.cells #[.int .i64 0, .int .i64 0, .int .i64 0, .string ⟨#[]⟩, .slice none 0 0] 26)) (w.heap.size + 1) 26 #[.int .i64 0, .int .i64 0, .int .i64 0, .string ⟨#[]⟩, .slice none 0 0] := by
    simpa using Blk.new (w.alloc (.cells (valCells t e) 26)) 26 #[.int .i64 0, .int .i64 0, .int .i64 0, .string ⟨#[]⟩, .slice none 0 0]
  have hcp := s_l6Copy t e _ (hl.below hel k2) (hel.mono k2.size) hm
  go_enter Tryd.func9, Tryd.ntmps9
  go_wp2_with (go_at_call 29; refine hcp.mono ?_; rintro r w1 ⟨v0, rfl, hv1, hv2, hb1⟩)
  have kX : Below w.heap.size w (w1.alloc (.cells (valCells t v0) 26)) := (k2.up hb1).up (Below.one _ _)
  have z1 : w.heap.size + 2 ≤ w1.heap.size := by have := hb1.size; simp at this; omega
  have hX0 : Blk (w1.alloc (.cells (valCells t v0) 26)) w1.heap.size 26 (valCells t v0) := Blk.new _ _ _
  have hZ1 : Blk (w1.alloc (.cells (valCells t v0) 26)) (w.heap.size + 1) 26 #[.int .i64 0, .int .i64 0, .int .i64 0, .string ⟨#[]⟩, .slice none 0 0] := (hZ.below hb1 hZ.lt).alloc _
  have hl1 := hv1.below (fun g hg => hv2.lt hg) (Below.one w1 (.cells (valCells t v0) 26))
  have ho1 := (hv2.below (fun g hg => hv2.lt hg) (Below.one w1 (.cells (valCells t v0) 26))).mono (lo2 := w.heap.size + 2) (by simp)
  have hn1 : w1.heap.size ∉ v0.fp := fun hx => Nat.lt_irrefl _ (hv2.lt hx)
  clear hcp hv1 hv2 hb1 hZ hl
  go_loopg [7] m (fun f z wr => ∃ (j : Nat) (q : Tr) (u : El), j + f = m ∧ z = .int .i64 j ∧ atPath q (ps.drop j) = O ∧ q.sz ≤ 1099511627776 ∧ LsAt wr q.l u ∧ Own wr (w.heap.size + 2) u.fp ∧ w1.heap.size ∉ u.fp ∧ Below w.heap.size w wr ∧ Blk wr w1.heap.size 26 (valCells q u) ∧ Blk wr (w.heap.size + 1) 26 #[.int .i64 0, .int .i64 0, .int .i64 0, .string ⟨#[]⟩, .slice none 0 0])
  case atStart => exact ⟨0, t, v0, by omega, rfl, hO, hm, hl1, ho1, hn1, kX, hX0, hZ1⟩
  case round =>
    obtain ⟨j, q, u, hjf, rfl, hq, hqs, hql, hqo, hqn1, hk, hB, hZ2⟩ := hrel
    clear hl1 ho1 hn1 kX hX0 hZ1
    have hz : w1.heap.size < wr.heap.size := hB.lt
    by_cases hlt : j < m
    · obtain ⟨f, rfl⟩ : ∃ f, gk = f + 1 := ⟨gk - 1, by omega⟩
      obtain ⟨g, o, hj, hA, hg, p0, p1⟩ := (h.below hk).stp hlt
      subst hA
      rw [drop_cons hj] at hq
      have hpb := hps _ (List.getElem_mem hj)
      obtain ⟨⟨pa, pb⟩, hp⟩ : ∃ p, ps[j] = p := ⟨_, rfl⟩
      rw [hp] at p0 p1 hq hpb
      simp only at p0 p1
      have hsv := fun w0 (hb : Below wr.heap.size wr w0) => s_StepVal q u (pa, pb) w0 (hql.below (fun g hg => hqo.lt hg) hb) (fun g hg => Nat.lt_of_lt_of_le (hqo.lt hg) hb.size) hqs hpb
      obtain ⟨b0, b1, b2, b3, b4⟩ := hB.boxV
      have hgw : g < wr.heap.size := Nat.lt_of_lt_of_le hg hk.size
      have hzw : w.heap.size + 1 < wr.heap.size := hZ2.lt
      cases hst : stepT q (pa, pb) with
      | none =>
        rw [hst] at hsv
        have hO2 := atPath_no (ps := ps.drop (j + 1)) hst
        rw [hq] at hO2
        subst hO2
        go_wp2_with fail
        go_region_law ((go_simp; go_at_call 12; refine (hsv _ (by first | exact (Below.refl _ _).drew | exact (Below.one _ _).drew)).mono ?_; rintro r w5 ⟨v, rfl, hv1, hv2, hb5⟩; obtain ⟨hc5, hf5⟩ := bcell hb5))
        all_goals
          first
          | (
            have hw5 : Below wr.heap.size wr w5 := ((Below.refl _ _).drew).up hb5
            have hvz : wr.heap.size ≤ w5.heap.size := hw5.size
            have hvo : ∀ g ∈ v.fp, wr.heap.size ≤ g ∧ g < w5.heap.size := fun g hg => ⟨Nat.le_trans (Nat.le_refl _) (hv2.2 g hg).1, hv2.lt hg⟩
            have hZ5 := hZ2.below hw5 hZ2.lt
            have hX5 := hB.below hw5 hB.lt
            have HF : Blk (w5.alloc (.cells #[.int .i64 zT.k, .int .i64 zT.n, .int .i64 zT.x, .string zT.s, .slice v.A v.n v.c] 26)) w5.heap.size 26 (valCells zT v) ∧ LsAt (w5.alloc (.cells #[.int .i64 zT.k, .int .i64 zT.n, .int .i64 zT.x, .string zT.s, .slice v.A v.n v.c] 26)) zT.l v ∧ Own (w5.alloc (.cells #[.int .i64 zT.k, .int .i64 zT.n, .int .i64 zT.x, .string zT.s, .slice v.A v.n v.c] 26)) (w.heap.size + 2) v.fp ∧ Below w.heap.size w (w5.alloc (.cells #[.int .i64 zT.k, .int .i64 zT.n, .int .i64 zT.x, .string zT.s, .slice v.A v.n v.c] 26)) ∧ Blk (w5.alloc (.cells #[.int .i64 zT.k, .int .i64 zT.n, .int .i64 zT.x, .string zT.s, .slice v.A v.n v.c] 26)) w1.heap.size 26 (valCells q u) ∧ Blk (w5.alloc (.cells #[.int .i64 zT.k, .int .i64 zT.n, .int .i64 zT.x, .string zT.s, .slice v.A v.n v.c] 26)) (w.heap.size + 1) 26 #[.int .i64 0, .int .i64 0, .int .i64 0, .string ⟨#[]⟩, .slice none 0 0] := by
              exact ⟨Blk.new _ _ _, hv1.below (fun g hg => hv2.lt hg) (Below.one _ _), (hv2.below (fun g hg => hv2.lt hg) (Below.one _ _)).mono (by simp; omega), (hk.up hw5).up (Below.one _ _), hX5.alloc _, hZ5.alloc _⟩
            clear hb5 hc5 hf5 hv1 hv2 hZ5 hX5
            generalize w5.alloc (.cells #[.int .i64 zT.k, .int .i64 zT.n, .int .i64 zT.x, .string zT.s, .slice v.A v.n v.c] 26) = wF at HF ⊢
            obtain ⟨HY, HL, HO, HK, HX, HZ⟩ := HF
            obtain ⟨x0, x1, x2, x3, x4, ⟨s0, t0⟩, ⟨s1, t1⟩, ⟨s2, t2⟩, ⟨s3, t3⟩, s4, t4⟩ := HZ.five (o := 0) (by simp) (.int .i64 0) (.int .i64 0) (.int .i64 0) (.string ⟨#[]⟩)
            go_wp2_with fail
            have hblk : Blk (set5 wF (w.heap.size + 1) 0 zT zE) (w.heap.size + 1) 26 _ := Blk.five_ HZ zT zE
            have r3 : Below w.heap.size w (set5 wF (w.heap.size + 1) 0 zT zE) := below_set5 HK (by omega)
            exact bodyPost_ret (results_blk2 Tryd.results9 Tryd.isAgg26 (by exact Tryd.sizeOf26) rfl hblk) rfl ⟨zE, rfl, LsAt.nil_ _ _, Own.nil_ _ _, r3⟩
            )
          | (
            have hw5 : Below wr.heap.size wr w5 := ((Below.one _ _).drew).up hb5
            have hvz : wr.heap.size ≤ w5.heap.size := hw5.size
            have hvo : ∀ g ∈ v.fp, wr.heap.size ≤ g ∧ g < w5.heap.size := fun g hg => ⟨Nat.le_trans (by simp) (hv2.2 g hg).1, hv2.lt hg⟩
            have hZ5 := hZ2.below hw5 hZ2.lt
            have hX5 := hB.below hw5 hB.lt
            have HF : Blk (((((w5.setCell ⟨wr.heap.size, 0, none⟩ (.int .i64 zT.k)).setCell ⟨wr.heap.size, 1, none⟩ (.int .i64 zT.n)).setCell ⟨wr.heap.size, 2, none⟩ (.int .i64 zT.x)).setCell ⟨wr.heap.size, 3, none⟩ (.string zT.s)).setCell ⟨wr.heap.size, 4, none⟩ (.slice v.A v.n v.c)) wr.heap.size 26 (valCells zT v) ∧ LsAt (((((w5.setCell ⟨wr.heap.size, 0, none⟩ (.int .i64 zT.k)).setCell ⟨wr.heap.size, 1, none⟩ (.int .i64 zT.n)).setCell ⟨wr.heap.size, 2, none⟩ (.int .i64 zT.x)).setCell ⟨wr.heap.size, 3, none⟩ (.string zT.s)).setCell ⟨wr.heap.size, 4, none⟩ (.slice v.A v.n v.c)) zT.l v ∧ Own (((((w5.setCell ⟨wr.heap.size, 0, none⟩ (.int .i64 zT.k)).setCell ⟨wr.heap.size, 1, none⟩ (.int .i64 zT.n)).setCell ⟨wr.heap.size, 2, none⟩ (.int .i64 zT.x)).setCell ⟨wr.heap.size, 3, none⟩ (.string zT.s)).setCell ⟨wr.heap.size, 4, none⟩ (.slice v.A v.n v.c)) (w.heap.size + 2) v.fp ∧ Below w.heap.size w (((((w5.setCell ⟨wr.heap.size, 0, none⟩ (.int .i64 zT.k)).setCell ⟨wr.heap.size, 1, none⟩ (.int .i64 zT.n)).setCell ⟨wr.heap.size, 2, none⟩ (.int .i64 zT.x)).setCell ⟨wr.heap.size, 3, none⟩ (.string zT.s)).setCell ⟨wr.heap.size, 4, none⟩ (.slice v.A v.n v.c)) ∧ Blk (((((w5.setCell ⟨wr.heap.size, 0, none⟩ (.int .i64 zT.k)).setCell ⟨wr.heap.size, 1, none⟩ (.int .i64 zT.n)).setCell ⟨wr.heap.size, 2, none⟩ (.int .i64 zT.x)).setCell ⟨wr.heap.size, 3, none⟩ (.string zT.s)).setCell ⟨wr.heap.size, 4, none⟩ (.slice v.A v.n v.c)) w1.heap.size 26 (valCells q u) ∧ Blk (((((w5.setCell ⟨wr.heap.size, 0, none⟩ (.int .i64 zT.k)).setCell ⟨wr.heap.size, 1, none⟩ (.int .i64 zT.n)).setCell ⟨wr.heap.size, 2, none⟩ (.int .i64 zT.x)).setCell ⟨wr.heap.size, 3, none⟩ (.string zT.s)).setCell ⟨wr.heap.size, 4, none⟩ (.slice v.A v.n v.c)) (w.heap.size + 1) 26 #[.int .i64 0, .int .i64 0, .int .i64 0, .string ⟨#[]⟩, .slice none 0 0] := by
              have hny : wr.heap.size ∉ v.fp := fun hx => by have h9 : (wr.alloc (.cells #[.int .i64 0, .int .i64 0, .int .i64 0, .string ⟨#[]⟩, .slice none 0 0] 26)).heap.size ≤ wr.heap.size := (hv2.2 _ hx).1; simp at h9; omega
              have hY5 : Blk w5 wr.heap.size 26 #[.int .i64 0, .int .i64 0, .int .i64 0, .string ⟨#[]⟩, .slice none 0 0] := (show Blk (wr.alloc (.cells #[.int .i64 0, .int .i64 0, .int .i64 0, .string ⟨#[]⟩, .slice none 0 0] 26)).drew wr.heap.size 26 #[.int .i64 0, .int .i64 0, .int .i64 0, .string ⟨#[]⟩, .slice none 0 0] from Blk.new wr _ _).below hb5 (by simp)
              have e : set5 w5 wr.heap.size 0 zT v = ((((w5.setCell ⟨wr.heap.size, 0, none⟩ (.int .i64 zT.k)).setCell ⟨wr.heap.size, 1, none⟩ (.int .i64 zT.n)).setCell ⟨wr.heap.size, 2, none⟩ (.int .i64 zT.x)).setCell ⟨wr.heap.size, 3, none⟩ (.string zT.s)).setCell ⟨wr.heap.size, 4, none⟩ (.slice v.A v.n v.c) := rfl
              rw [← e]
              exact ⟨Blk.five_ hY5 zT v, hv1.set5_ hny, (hv2.set5_ hny).mono (by simp; omega), below_set5 (hk.up hw5) (by omega), hX5.far5 (by omega), hZ5.far5 (by omega)⟩
            clear hb5 hc5 hf5 hv1 hv2 hZ5 hX5
            generalize ((((w5.setCell ⟨wr.heap.size, 0, none⟩ (.int .i64 zT.k)).setCell ⟨wr.heap.size, 1, none⟩ (.int .i64 zT.n)).setCell ⟨wr.heap.size, 2, none⟩ (.int .i64 zT.x)).setCell ⟨wr.heap.size, 3, none⟩ (.string zT.s)).setCell ⟨wr.heap.size, 4, none⟩ (.slice v.A v.n v.c) = wF at HF ⊢
            obtain ⟨HY, HL, HO, HK, HX, HZ⟩ := HF
            obtain ⟨x0, x1, x2, x3, x4, ⟨s0, t0⟩, ⟨s1, t1⟩, ⟨s2, t2⟩, ⟨s3, t3⟩, s4, t4⟩ := HZ.five (o := 0) (by simp) (.int .i64 0) (.int .i64 0) (.int .i64 0) (.string ⟨#[]⟩)
            go_wp2_with fail
            have hblk : Blk (set5 wF (w.heap.size + 1) 0 zT zE) (w.heap.size + 1) 26 _ := Blk.five_ HZ zT zE
            have r3 : Below w.heap.size w (set5 wF (w.heap.size + 1) 0 zT zE) := below_set5 HK (by omega)
            exact bodyPost_ret (results_blk2 Tryd.results9 Tryd.isAgg26 (by exact Tryd.sizeOf26) rfl hblk) rfl ⟨zE, rfl, LsAt.nil_ _ _, Own.nil_ _ _, r3⟩
            )
      | some y =>
        rw [hst] at hsv
        have hq2 : atPath y (ps.drop (j + 1)) = O := by rw [← hq]; exact (atPath_yes hst).symm
        have hqs2 : y.sz ≤ 1099511627776 := by
          unfold stepT at hst
          split at hst
          · cases hst
          · obtain ⟨hi, rfl⟩ := List.getElem?_eq_some_iff.1 hst
            exact Nat.le_trans (child_sz hi) hqs
        clear hst
        go_wp2_with fail
        go_region_law ((go_simp; go_at_call 12; refine (hsv _ (by first | exact (Below.refl _ _).drew | exact (Below.one _ _).drew)).mono ?_; rintro r w5 ⟨v, rfl, hv1, hv2, hb5⟩; obtain ⟨hc5, hf5⟩ := bcell hb5))
        all_goals
          first
          | (
            have hw5 : Below wr.heap.size wr w5 := ((Below.refl _ _).drew).up hb5
            have hvz : wr.heap.size ≤ w5.heap.size := hw5.size
            have hvo : ∀ g ∈ v.fp, wr.heap.size ≤ g ∧ g < w5.heap.size := fun g hg => ⟨Nat.le_trans (Nat.le_refl _) (hv2.2 g hg).1, hv2.lt hg⟩
            have hZ5 := hZ2.below hw5 hZ2.lt
            have hX5 := hB.below hw5 hB.lt
            have HF : Blk (w5.alloc (.cells #[.int .i64 y.k, .int .i64 y.n, .int .i64 y.x, .string y.s, .slice v.A v.n v.c] 26)) w5.heap.size 26 (valCells y v) ∧ LsAt (w5.alloc (.cells #[.int .i64 y.k, .int .i64 y.n, .int .i64 y.x, .string y.s, .slice v.A v.n v.c] 26)) y.l v ∧ Own (w5.alloc (.cells #[.int .i64 y.k, .int .i64 y.n, .int .i64 y.x, .string y.s, .slice v.A v.n v.c] 26)) (w.heap.size + 2) v.fp ∧ Below w.heap.size w (w5.alloc (.cells #[.int .i64 y.k, .int .i64 y.n, .int .i64 y.x, .string y.s, .slice v.A v.n v.c] 26)) ∧ Blk (w5.alloc (.cells #[.int .i64 y.k, .int .i64 y.n, .int .i64 y.x, .string y.s, .slice v.A v.n v.c] 26)) w1.heap.size 26 (valCells q u) ∧ Blk (w5.alloc (.cells #[.int .i64 y.k, .int .i64 y.n, .int .i64 y.x, .string y.s, .slice v.A v.n v.c] 26)) (w.heap.size + 1) 26 #[.int .i64 0, .int .i64 0, .int .i64 0, .string ⟨#[]⟩, .slice none 0 0] := by
              exact ⟨Blk.new _ _ _, hv1.below (fun g hg => hv2.lt hg) (Below.one _ _), (hv2.below (fun g hg => hv2.lt hg) (Below.one _ _)).mono (by simp; omega), (hk.up hw5).up (Below.one _ _), hX5.alloc _, hZ5.alloc _⟩
            clear hb5 hc5 hf5 hv1 hv2 hZ5 hX5
            generalize w5.alloc (.cells #[.int .i64 y.k, .int .i64 y.n, .int .i64 y.x, .string y.s, .slice v.A v.n v.c] 26) = wF at HF ⊢
            obtain ⟨HY, HL, HO, HK, HX, HZ⟩ := HF
            obtain ⟨y0, y1, y2, y3, y4⟩ := HY.boxV
            obtain ⟨x0, x1, x2, x3, x4, ⟨s0, t0⟩, ⟨s1, t1⟩, ⟨s2, t2⟩, ⟨s3, t3⟩, s4, t4⟩ := HX.five (o := 0) (by simp) (.int .i64 y.k) (.int .i64 y.n) (.int .i64 y.x) (.string y.s)
            have hnx : w1.heap.size ∉ v.fp := fun hx => by have := (hvo _ hx).1; omega
            have hX7 : Blk (set5 wF w1.heap.size 0 y v) w1.heap.size 26 (valCells y v) := Blk.five_ HX y v
            have hZ7 : Blk (set5 wF w1.heap.size 0 y v) (w.heap.size + 1) 26 #[.int .i64 0, .int .i64 0, .int .i64 0, .string ⟨#[]⟩, .slice none 0 0] := HZ.far5 (by omega)
            have hl7 : LsAt (set5 wF w1.heap.size 0 y v) y.l v := HL.set5_ hnx
            have ho7 : Own (set5 wF w1.heap.size 0 y v) (w.heap.size + 2) v.fp := HO.set5_ hnx
            have hk7 : Below w.heap.size w (set5 wF w1.heap.size 0 y v) := below_set5 HK (by omega)
            clear HX HZ HL HO HK b0 b1 b2 b3 b4 hsv hql hqo hB hZ2 p0 p1
            go_wp2_with fail
            go_roundg f
            case measure => omega
            case rel => exact ⟨j + 1, y, v, by omega, by go_num, hq2, hqs2, hl7, ho7, hnx, hk7, hX7, hZ7⟩
            )
          | (
            have hw5 : Below wr.heap.size wr w5 := ((Below.one _ _).drew).up hb5
            have hvz : wr.heap.size ≤ w5.heap.size := hw5.size
            have hvo : ∀ g ∈ v.fp, wr.heap.size ≤ g ∧ g < w5.heap.size := fun g hg => ⟨Nat.le_trans (by simp) (hv2.2 g hg).1, hv2.lt hg⟩
            have hZ5 := hZ2.below hw5 hZ2.lt
            have hX5 := hB.below hw5 hB.lt
            have HF : Blk (((((w5.setCell ⟨wr.heap.size, 0, none⟩ (.int .i64 y.k)).setCell ⟨wr.heap.size, 1, none⟩ (.int .i64 y.n)).setCell ⟨wr.heap.size, 2, none⟩ (.int .i64 y.x)).setCell ⟨wr.heap.size, 3, none⟩ (.string y.s)).setCell ⟨wr.heap.size, 4, none⟩ (.slice v.A v.n v.c)) wr.heap.size 26 (valCells y v) ∧ LsAt (((((w5.setCell ⟨wr.heap.size, 0, none⟩ (.int .i64 y.k)).setCell ⟨wr.heap.size, 1, none⟩ (.int .i64 y.n)).setCell ⟨wr.heap.size, 2, none⟩ (.int .i64 y.x)).setCell ⟨wr.heap.size, 3, none⟩ (.string y.s)).setCell ⟨wr.heap.size, 4, none⟩ (.slice v.A v.n v.c)) y.l v ∧ Own (((((w5.setCell ⟨wr.heap.size, 0, none⟩ (.int .i64 y.k)).setCell ⟨wr.heap.size, 1, none⟩ (.int .i64 y.n)).setCell ⟨wr.heap.size, 2, none⟩ (.int .i64 y.x)).setCell ⟨wr.heap.size, 3, none⟩ (.string y.s)).setCell ⟨wr.heap.size, 4, none⟩ (.slice v.A v.n v.c)) (w.heap.size + 2) v.fp ∧ Below w.heap.size w (((((w5.setCell ⟨wr.heap.size, 0, none⟩ (.int .i64 y.k)).setCell ⟨wr.heap.size, 1, none⟩ (.int .i64 y.n)).setCell ⟨wr.heap.size, 2, none⟩ (.int .i64 y.x)).setCell ⟨wr.heap.size, 3, none⟩ (.string y.s)).setCell ⟨wr.heap.size, 4, none⟩ (.slice v.A v.n v.c)) ∧ Blk (((((w5.setCell ⟨wr.heap.size, 0, none⟩ (.int .i64 y.k)).setCell ⟨wr.heap.size, 1, none⟩ (.int .i64 y.n)).setCell ⟨wr.heap.size, 2, none⟩ (.int .i64 y.x)).setCell ⟨wr.heap.size, 3, none⟩ (.string y.s)).setCell ⟨wr.heap.size, 4, none⟩ (.slice v.A v.n v.c)) w1.heap.size 26 (valCells q u) ∧ Blk (((((w5.setCell ⟨wr.heap.size, 0, none⟩ (.int .i64 y.k)).setCell ⟨wr.heap.size, 1, none⟩ (.int .i64 y.n)).setCell ⟨wr.heap.size, 2, none⟩ (.int .i64 y.x)).setCell ⟨wr.heap.size, 3, none⟩ (.string y.s)).setCell ⟨wr.heap.size, 4, none⟩ (.slice v.A v.n v.c)) (w.heap.size + 1) 26 #[.int .i64 0, .int .i64 0, .int .i64 0, .string ⟨#[]⟩, .slice none 0 0] := by
              have hny : wr.heap.size ∉ v.fp := fun hx => by have h9 : (wr.alloc (.cells #[.int .i64 0, .int .i64 0, .int .i64 0, .string ⟨#[]⟩, .slice none 0 0] 26)).heap.size ≤ wr.heap.size := (hv2.2 _ hx).1; simp at h9; omega
              have hY5 : Blk w5 wr.heap.size 26 #[.int .i64 0, .int .i64 0, .int .i64 0, .string ⟨#[]⟩, .slice none 0 0] := (show Blk (wr.alloc (.cells #[.int .i64 0, .int .i64 0, .int .i64 0, .string ⟨#[]⟩, .slice none 0 0] 26)).drew wr.heap.size 26 #[.int .i64 0, .int .i64 0, .int .i64 0, .string ⟨#[]⟩, .slice none 0 0] from Blk.new wr _ _).below hb5 (by simp)
              have e : set5 w5 wr.heap.size 0 y v = ((((w5.setCell ⟨wr.heap.size, 0, none⟩ (.int .i64 y.k)).setCell ⟨wr.heap.size, 1, none⟩ (.int .i64 y.n)).setCell ⟨wr.heap.size, 2, none⟩ (.int .i64 y.x)).setCell ⟨wr.heap.size, 3, none⟩ (.string y.s)).setCell ⟨wr.heap.size, 4, none⟩ (.slice v.A v.n v.c) := rfl
              rw [← e]
              exact ⟨Blk.five_ hY5 y v, hv1.set5_ hny, (hv2.set5_ hny).mono (by simp; omega), below_set5 (hk.up hw5) (by omega), hX5.far5 (by omega), hZ5.far5 (by omega)⟩
            clear hb5 hc5 hf5 hv1 hv2 hZ5 hX5
            generalize ((((w5.setCell ⟨wr.heap.size, 0, none⟩ (.int .i64 y.k)).setCell ⟨wr.heap.size, 1, none⟩ (.int .i64 y.n)).setCell ⟨wr.heap.size, 2, none⟩ (.int .i64 y.x)).setCell ⟨wr.heap.size, 3, none⟩ (.string y.s)).setCell ⟨wr.heap.size, 4, none⟩ (.slice v.A v.n v.c) = wF at HF ⊢
            obtain ⟨HY, HL, HO, HK, HX, HZ⟩ := HF
            obtain ⟨y0, y1, y2, y3, y4⟩ := HY.boxV
            obtain ⟨x0, x1, x2, x3, x4, ⟨s0, t0⟩, ⟨s1, t1⟩, ⟨s2, t2⟩, ⟨s3, t3⟩, s4, t4⟩ := HX.five (o := 0) (by simp) (.int .i64 y.k) (.int .i64 y.n) (.int .i64 y.x) (.string y.s)
            have hnx : w1.heap.size ∉ v.fp := fun hx => by have := (hvo _ hx).1; omega
            have hX7 : Blk (set5 wF w1.heap.size 0 y v) w1.heap.size 26 (valCells y v) := Blk.five_ HX y v
            have hZ7 : Blk (set5 wF w1.heap.size 0 y v) (w.heap.size + 1) 26 #[.int .i64 0, .int .i64 0, .int .i64 0, .string ⟨#[]⟩, .slice none 0 0] := HZ.far5 (by omega)
            have hl7 : LsAt (set5 wF w1.heap.size 0 y v) y.l v := HL.set5_ hnx
            have ho7 : Own (set5 wF w1.heap.size 0 y v) (w.heap.size + 2) v.fp := HO.set5_ hnx
            have hk7 : Below w.heap.size w (set5 wF w1.heap.size 0 y v) := below_set5 HK (by omega)
            clear HX HZ HL HO HK b0 b1 b2 b3 b4 hsv hql hqo hB hZ2 p0 p1
            go_wp2_with fail
            go_roundg f
            case measure => omega
            case rel => exact ⟨j + 1, y, v, by omega, by go_num, hq2, hqs2, hl7, ho7, hnx, hk7, hX7, hZ7⟩
            )
    · obtain rfl : j = m := by omega
      rw [List.drop_eq_nil_of_le (by omega)] at hq
      obtain rfl : some q = O := hq
      obtain ⟨b0, b1, b2, b3, b4⟩ := hB.boxV
      obtain ⟨x0, x1, x2, x3, x4, ⟨s0, t0⟩, ⟨s1, t1⟩, ⟨s2, t2⟩, ⟨s3, t3⟩, s4, t4⟩ := hZ2.five (o := 0) (by simp) (.int .i64 q.k) (.int .i64 q.n) (.int .i64 q.x) (.string q.s)
      go_wp2_with fail
      have hn2 : w.heap.size + 1 ∉ u.fp := fun hx => by have := (hqo.2 _ hx).1; omega
      have hblk : Blk (set5 wr (w.heap.size + 1) 0 q u) (w.heap.size + 1) 26 _ := Blk.five_ hZ2 q u
      have r1 : LsAt (set5 wr (w.heap.size + 1) 0 q u) q.l u := hql.set5_ hn2
      have r2 : Own (set5 wr (w.heap.size + 1) 0 q u) w.heap.size u.fp := Own.mono (hqo.set5_ hn2) (by omega)
      have r3 : Below w.heap.size w (set5 wr (w.heap.size + 1) 0 q u) := below_set5 hk (by omega)
      exact bodyPost_ret (results_blk2 Tryd.results9 Tryd.isAgg26 (by exact Tryd.sizeOf26) rfl hblk) rfl ⟨u, rfl, r1, r2, r3⟩
end Go.Proofs.YtpafgmlkbbbmhaaDoor
