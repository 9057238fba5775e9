/- PutAt: the program's. -/
import Derived.Test.YtpafgmlkbbbmhaaMuM14
import Derived.Test.YtpafgmlkbbbmhaaMuAtPath3
import Derived.Deep.CutRange
set_option linter.unusedVariables false
set_option maxRecDepth 100000
set_option linter.unusedSimpArgs false
namespace Go.Proofs.Ytpafgmlkbbbmhaa
open Go.RowKit

/-- The tree that comes back lies in new memory: the changed one, or a copy. -/
def PutOf (w w' : World) (r : Ending) (t : Tr) (o : Option Tr) : Prop := ∃ u : El, r = .returned (.tuple #[trV (o.getD t) u, .bool o.isSome]) ∧ LsAt w' (o.getD t).l u ∧ Own w' w.heap.size u.fp ∧ Below w.heap.size w w'
theorem map_none_of {α β : Type} {o : Option α} {O : Option β} {f : α → β} (h : O = o.map f) (h2 : o = none) : O = none := by rw [h, h2]; rfl
set_option maxHeartbeats 1600000 in
theorem i_PutAt (t X : Tr) (e ex : El) (A : Option Addr) (m c : Nat) (ps : List (Int × Bool)) (w : World) (hl : LsAt w t.l e) (hel : e.lt w.heap.size) (hm : t.sz ≤ 1099511627776) (hx : LsAt w X.l ex) (hex : ex.lt w.heap.size) (hmx : X.sz ≤ 1099511627776) (h : Sl w w.heap.size 2 A m c (stC ps)) :
    Calls Try.prog 6 #[trV t e, .slice A m c, trV X ex] w fun r w' => PutOf w w' r t (putAt t ps X) := by
  obtain ⟨O, hO⟩ : ∃ O, putAt t ps X = O := ⟨_, rfl⟩
  rw [hO]
  have hpl := h.stlen
  have hmc : m ≤ c ∧ c ≤ maxLen := ⟨h.cap, h.max⟩
  have hm9 : m ≤ 9223372036854775807 := by have := hmc.1; have := hmc.2; unfold maxLen at *; omega
  have k3 := Below.three w (.cells (valCells t e) 26) (.cells (valCells X ex) 26) (.cells #[.int .i64 0, .int .i64 0, .int .i64 0, .string ⟨#[]⟩, .slice none 0 0] 26)
  have hZ : Blk (((w.alloc (.cells (valCells t e) 26)).alloc (.cells (valCells X ex) 26)).alloc (.cells #[.int .i64 0, .int .i64 0, .int .i64 0, .string ⟨#[]⟩, .slice none 0 0] 26)) (w.heap.size + 2) 26 #[.int .i64 0, .int .i64 0, .int .i64 0, .string ⟨#[]⟩, .slice none 0 0] := by
    simpa using Blk.new ((w.alloc (.cells (valCells t e) 26)).alloc (.cells (valCells X ex) 26)) 26 #[.int .i64 0, .int .i64 0, .int .i64 0, .string ⟨#[]⟩, .slice none 0 0]
  have hV : Blk (((w.alloc (.cells (valCells t e) 26)).alloc (.cells (valCells X ex) 26)).alloc (.cells #[.int .i64 0, .int .i64 0, .int .i64 0, .string ⟨#[]⟩, .slice none 0 0] 26)) w.heap.size 26 (valCells t e) := ((Blk.new w _ _).alloc _).alloc _
  have hX : Blk (((w.alloc (.cells (valCells t e) 26)).alloc (.cells (valCells X ex) 26)).alloc (.cells #[.int .i64 0, .int .i64 0, .int .i64 0, .string ⟨#[]⟩, .slice none 0 0] 26)) (w.heap.size + 1) 26 (valCells X ex) := by
    have := (Blk.new (w.alloc (.cells (valCells t e) 26)) 26 (valCells X ex)).alloc (.cells #[.int .i64 0, .int .i64 0, .int .i64 0, .string ⟨#[]⟩, .slice none 0 0] 26)
    simpa using this
  have hcp := i_copyVal t e _ (hl.below hel k3) (hel.mono k3.size) hm
  go_enter Try.func6, Try.ntmps6
  go_wp2_with (go_at_call 15; refine hcp.mono ?_; rintro r w1 ⟨v0, rfl, hv1, hv2, hb1⟩)
  have z1 : w.heap.size + 3 ≤ w1.heap.size := by have := hb1.size; simp at this; omega
  have kk1 : Below w.heap.size w (w1.alloc (.cells (valCells t v0) 26)) := (k3.up hb1).up (Below.one _ _)
  have BX0 : Blk (w1.alloc (.cells (valCells t v0) 26)) w1.heap.size 26 (valCells t v0) := Blk.new _ _ _
  have BZ := (hZ.below hb1 hZ.lt).alloc (.cells (valCells t v0) 26)
  have BV := (hV.below hb1 hV.lt).alloc (.cells (valCells t v0) 26)
  have BE := (hX.below hb1 hX.lt).alloc (.cells (valCells t v0) 26)
  have hl1 := hv1.below (fun g hg => hv2.lt hg) (Below.one w1 (.cells (valCells t v0) 26))
  have ho1 := (hv2.below (fun g hg => hv2.lt hg) (Below.one w1 (.cells (valCells t v0) 26))).mono (lo2 := w.heap.size + 3) (by simp)
  have hn1 : w1.heap.size ∉ v0.fp := fun hx => Nat.lt_irrefl _ (hv2.lt hx)
  have hC1 : Cells5 (w1.alloc (.cells (valCells t v0) 26)) w1.heap.size 0 t v0 := BX0.boxV
  clear hcp hv1 hv2 hb1 hZ hV hX k3
  have hg1 : w1.heap.size < (w1.alloc (.cells (valCells t v0) 26)).heap.size := BX0.lt
  generalize w1.heap.size = gx at z1 BX0 hn1 hC1 hg1 ⊢
  generalize w1.alloc (.cells (valCells t v0) 26) = w2 at kk1 BX0 BZ BV BE hl1 ho1 hC1 hg1 ⊢
  go_loopg [9, 17] m (fun f zp z wr => ∃ (j : Nat) (q : Tr) (u : El) (ga oa : Nat) (F : Tr → Tr), j + f = m ∧ zp = .pointer (some ⟨ga, oa, none⟩) ∧ z = .int .i64 j ∧ O = (putAt q (ps.drop j) X).map F ∧ q.sz ≤ 1099511627776 ∧ Cells5 w2 ga oa q u ∧ LsAt w2 q.l u ∧ Own w2 (w.heap.size + 3) u.fp ∧ ga ∉ u.fp ∧ (∃ T cs, Blk w2 ga T cs) ∧ w.heap.size + 3 ≤ ga ∧ Plug w2 (w.heap.size + 3) gx ga oa u F ∧ Below w2.heap.size w2 wr)
  case atStart => exact ⟨0, t, v0, gx, 0, fun y => y, by omega, rfl, rfl, by rw [← hO]; simp, hm, hC1, hl1, ho1, hn1, ⟨_, _, BX0⟩, z1, Plug.self hg1 hn1, Below.refl _ _⟩
  case round =>
    obtain ⟨j, q, u, ga, oa, F, hjf, rfl, rfl, hq, hqs, hqc, hql, hqo, hga, ⟨T, csa, hba⟩, hgl, hP, hk⟩ := hrel
    have kk := kk1.up hk
    by_cases hlt : j < m
    · obtain ⟨f, rfl⟩ : ∃ f, gk = f + 1 := ⟨gk - 1, by omega⟩
      obtain ⟨g, o, hj, hA, hg, p0, p1⟩ := (h.below kk).stp hlt
      subst hA
      rw [drop_cons hj] at hq
      obtain ⟨⟨pa, pb⟩, hp⟩ : ∃ p, ps[j] = p := ⟨_, rfl⟩
      rw [hp] at p0 p1 hq
      simp only at p0 p1
      have hqn := hql.len
      have hszl := szT_le q.l 0
      have hsz := q.sz_eq
      have hix := fun w1 => i_index pa pb q u w1 (by omega)
      have hpc := place_lt q.k q.l.length pa pb
      obtain ⟨R, hR⟩ : ∃ R, place q.k q.l.length pa pb = R := ⟨_, rfl⟩
      rw [← hqn, hR] at hix
      have hno := stepT_no (t := q) (p := (pa, pb)) hR
      have hyes := fun (i : Nat) (h : R = i) (hi : i < q.l.length) => stepT_yes (t := q) (p := (pa, pb)) (j := i) (hR.trans h) hi
      have hput : ∀ x, stepT q (pa, pb) = some x → _ := fun x hx => putAt_yes (ps := ps.drop (j + 1)) (x := X) hx
      simp only [hR] at hput
      rw [hR] at hpc
      clear hR
      have hk3 := hk.up (Below.one wr (.cells #[.int .i64 pa, .bool pb] 43))
      have C3 : Cells5 (wr.alloc (.cells #[.int .i64 pa, .bool pb] 43)) ga oa q u := hqc.eq5 fun i hi => hk3.cell (p := ⟨ga, oa + i, none⟩) hba.lt
      obtain ⟨b0, b1, b2, b3, b4⟩ := C3
      rcases hpc with hneg | ⟨hge, hlt2⟩
      · have hO2 := map_none_of hq (putAt_no (hno (by omega)))
        have hneg2 : R < 0 := by omega
        clear hno hyes hput hq
        subst hO2
        go_wp2_with fail
        have hcp := fun w3 (kk : Below w.heap.size w w3) => i_copyVal t e w3 (hl.below hel kk) (hel.mono kk.size) hm
        go_region_law (go_simp; go_at_call 16; refine (hix _).mono ?_; rintro r w3 ⟨rfl, hb3⟩; have k5 := hk3.drew.up hb3; have kk5 := kk1.up k5; have BV3 := BV.below k5 BV.lt; have BZ3 := BZ.below k5 BZ.lt; obtain ⟨c0, c1, c2, c3, c4⟩ := BV3.boxV)
        all_goals
          clear hb3 b0 b1 b2 b3 b4 p0 p1
          first
            | (refine (hcp _ kk5).mono ?_; rintro r w5 ⟨v, rfl, hv1, hv2, hb5⟩; have hZ5 := BZ3.below hb5 BZ3.lt; obtain ⟨x0, x1, x2, x3, x4, ⟨s0, t0⟩, ⟨s1, t1⟩, ⟨s2, t2⟩, ⟨s3, t3⟩, s4, t4⟩ := hZ5.five (o := 0) (by simp) (.int .i64 t.k) (.int .i64 t.n) (.int .i64 t.x) (.string t.s); go_wp2_with fail)
            | (go_wp2_with (go_at_call 15; refine (hcp _ kk5).mono ?_; rintro r w5 ⟨v, rfl, hv1, hv2, hb5⟩; have hZ5 := BZ3.below hb5 BZ3.lt; obtain ⟨x0, x1, x2, x3, x4, ⟨s0, t0⟩, ⟨s1, t1⟩, ⟨s2, t2⟩, ⟨s3, t3⟩, s4, t4⟩ := hZ5.five (o := 0) (by simp) (.int .i64 t.k) (.int .i64 t.n) (.int .i64 t.x) (.string t.s)))
          have hn2 : w.heap.size + 2 ∉ v.fp := fun hx => by have := (hv2.2 _ hx).1; have := BZ3.lt; omega
          have hblk : Blk (set5 w5 (w.heap.size + 2) 0 t v) (w.heap.size + 2) 26 _ := Blk.five_ hZ5 t v
          have r1 : LsAt (set5 w5 (w.heap.size + 2) 0 t v) t.l v := hv1.set5_ hn2
          have r2 : Own (set5 w5 (w.heap.size + 2) 0 t v) w.heap.size v.fp := Own.mono (hv2.set5_ hn2) kk5.size
          have r3 : Below w.heap.size w (set5 w5 (w.heap.size + 2) 0 t v) := below_set5 (kk5.up hb5) (by omega)
          exact bodyPost_ret (results_blk2 Try.results6 Try.isAgg26 (by exact Try.sizeOf26) rfl hblk) rfl ⟨v, rfl, r1, r2, r3⟩
      · obtain ⟨i, rfl⟩ := Int.eq_ofNat_of_zero_le hge
        have hi : i < q.l.length := by omega
        have hst := hyes i rfl hi
        have hq2 : O = (putAt q.l[i] (ps.drop (j + 1)) X).map (fun y => F (q.putL i y)) := by rw [hq, hput _ hst, Option.map_map]; rfl
        obtain ⟨g2, o2, v, hA2, hg2, hc2, hl2, ho2, hn2, hP2⟩ := hP.step hqc hql hqo hga hba.lt hi
        have hqs2 := Nat.le_trans (child_sz hi) hqs
        obtain ⟨hg2l, hg2b⟩ := hqo.2 g2 hg2
        obtain ⟨qA, qn, qc, qfp⟩ := u
        have hqn : q.l.length = qn := hqn
        replace hA2 : qA = some ⟨g2, o2, none⟩ := hA2
        subst hqn hA2
        have hqc9 : q.l.length ≤ qc ∧ qc ≤ maxLen := ⟨((lsAt_iff _ _).1 hql).2.1, ((lsAt_iff _ _).1 hql).2.2.1⟩
        clear hno hyes hput hq hst
        go_wp2_with fail
        have hC5 := fun w3 (k5 : Below w2.heap.size w2 w3) => (show Cells5 w3 ga oa q ⟨some ⟨g2, o2, none⟩, q.l.length, qc, qfp⟩ from hqc.eq5 fun i hi => k5.cell (p := ⟨ga, oa + i, none⟩) hba.lt)
        go_region_law (go_simp; go_at_call 16; refine (hix _).mono ?_; rintro r w3 ⟨rfl, hb3⟩; have k5 := hk3.drew.up hb3; obtain ⟨d0, d1, d2, d3, d4⟩ := hC5 w3 k5)
        all_goals
          clear hC5 hb3 b0 b1 b2 b3 b4 p0 p1 hix
          first | (go_roundg f) | (go_wp2_with fail; go_roundg f)
          case measure => omega
          case rel => exact ⟨j + 1, q.l[i], v, g2, o2 + i * 5, _, by omega, by go_num, by go_num, hq2, hqs2, hc2, hl2, ho2, hn2, hg2b, hg2l, hP2, k5⟩
    · obtain rfl : j = m := by omega
      rw [List.drop_eq_nil_of_le (by omega)] at hq
      obtain rfl : O = some (F X) := hq
      have BE3 := BE.below hk BE.lt
      have BZ3 := BZ.below hk BZ.lt
      obtain ⟨b0, b1, b2, b3, b4⟩ := BE3.boxV
      have hcp := i_copyVal X ex wr (hx.below hex kk) (hex.mono kk.size) hmx
      have hlt5 : oa + 5 ≤ csa.size := by
        obtain ⟨_, _, _, _, c4⟩ := hqc
        have := hba.size_of c4
        omega
      go_upto_region 12 with (go_at_call 15; refine hcp.mono ?_; rintro r w5 ⟨v, rfl, hv1, hv2, hb5⟩; have k5 := hk.up hb5; have hA5 := hba.below k5 hba.lt; have hZ5 := BZ3.below hb5 BZ3.lt; obtain ⟨x0, x1, x2, x3, x4, ⟨s0, t0⟩, ⟨s1, t1⟩, ⟨s2, t2⟩, ⟨s3, t3⟩, s4, t4⟩ := hA5.five hlt5 (.int .i64 X.k) (.int .i64 X.n) (.int .i64 X.x) (.string X.s))
      have hv9 : ∀ g ∈ v.fp, w2.heap.size ≤ g := fun g hg => Nat.le_trans hk.size (hv2.2 g hg).1
      have hgv : ga ∉ v.fp := fun hx => by have := hv9 ga hx; have := hba.lt; omega
      have hfin := hP (set5 w5 ga oa X v) X v (hA5.cells5 X v hlt5) (hv1.set5_ hgv) ((hv2.set5_ hgv).mono (by have := kk.size; have := hk.size; have := hg1; omega)) (fun g hg => .inr (hv9 g hg))
        (fun g o hg _ hh => (set5_other _ _ _ _ _ _ _ (by by_cases e : g = ga; exact .inr (hh e); exact .inl e)).trans (k5.cell (p := ⟨g, o, none⟩) hg))
        (fun g T cs hb => by
          by_cases e : g = ga
          · subst e
            obtain ⟨cs2, _, h2⟩ := (hb.below k5 hb.lt).set5_ (o := oa) X v
            exact ⟨cs2, h2⟩
          · exact ⟨cs, (hb.below k5 hb.lt).far5 e⟩)
      have hZ6 := hZ5.far5 (g := ga) (o := oa) (t := X) (e := v) (by omega)
      have hk6 : Below w.heap.size w (set5 w5 ga oa X v) := below_set5 (kk1.up k5) (by omega)
      obtain ⟨v9, hC9, hL9, hO9, hn9⟩ := hfin
      unfold set5 at hC9 hL9 hO9 hZ6 hk6
      clear x0 x1 x2 x3 x4 s0 t0 s1 t1 s2 t2 s3 t3 s4 t4 hv1 hv2 hb5 hZ5 hA5 hcp k5 hP b0 b1 b2 b3 b4
      generalize ((((w5.setCell ⟨ga, oa, none⟩ (.int .i64 X.k)).setCell ⟨ga, oa + 1, none⟩ (.int .i64 X.n)).setCell ⟨ga, oa + 2, none⟩ (.int .i64 X.x)).setCell ⟨ga, oa + 3, none⟩ (.string X.s)).setCell ⟨ga, oa + 4, none⟩ (.slice v.A v.n v.c) = w6 at hC9 hL9 hO9 hZ6 hk6 ⊢
      obtain ⟨c0, c1, c2, c3, c4⟩ := hC9
      simp only [Nat.zero_add] at c0 c1 c2 c3 c4
      obtain ⟨x0, x1, x2, x3, x4, ⟨s0, t0⟩, ⟨s1, t1⟩, ⟨s2, t2⟩, ⟨s3, t3⟩, s4, t4⟩ := hZ6.five (o := 0) (by simp) (.int .i64 (F X).k) (.int .i64 (F X).n) (.int .i64 (F X).x) (.string (F X).s)
      go_wp2_with fail
      have hn2 : w.heap.size + 2 ∉ v9.fp := fun hx => by have := (hO9.2 _ hx).1; omega
      have hblk : Blk (set5 w6 (w.heap.size + 2) 0 (F X) v9) (w.heap.size + 2) 26 _ := Blk.five_ hZ6 (F X) v9
      have r1 : LsAt (set5 w6 (w.heap.size + 2) 0 (F X) v9) (F X).l v9 := hL9.set5_ hn2
      have r2 : Own (set5 w6 (w.heap.size + 2) 0 (F X) v9) w.heap.size v9.fp := Own.mono (hO9.set5_ hn2) (by omega)
      have r3 : Below w.heap.size w (set5 w6 (w.heap.size + 2) 0 (F X) v9) := below_set5 hk6 (by omega)
      exact bodyPost_ret (results_blk2 Try.results6 Try.isAgg26 (by exact Try.sizeOf26) rfl hblk) rfl ⟨v9, rfl, r1, r2, r3⟩
end Go.Proofs.Ytpafgmlkbbbmhaa
