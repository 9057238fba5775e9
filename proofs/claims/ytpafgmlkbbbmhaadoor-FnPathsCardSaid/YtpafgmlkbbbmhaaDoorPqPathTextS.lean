/- PathText (spec). -/
import Derived.Test.YtpafgmlkbbbmhaaDoorPqM46
set_option linter.unusedVariables false
set_option maxRecDepth 100000
set_option linter.unusedSimpArgs false
namespace Go.Proofs.YtpafgmlkbbbmhaaDoor
open Go.RowKit

set_option maxHeartbeats 2000000 in
theorem s_PathText (t : Tr) (e : El) (A : Option Addr) (m c : Nat) (ps : List (Int × Bool)) (w : World) (hl : LsAt w t.l e) (hel : e.lt w.heap.size) (hm : t.sz ≤ 1048576) (h : Sl w w.heap.size 2 A m c (stC ps)) (hmb : m ≤ 1048576) (hps : ∀ p ∈ ps, -9223372036854775808 ≤ p.1 ∧ p.1 ≤ 9223372036854775807) :
    Calls Tryd.prog 21 #[trV t e, .slice A m c] w fun r w' => r = .returned (.string ⟨(36 :: pathTxt t ps).toArray⟩) ∧ Below w.heap.size w w' := by
  obtain ⟨R, hR⟩ : ∃ R, pathTxt t ps = R := ⟨_, rfl⟩
  rw [hR]
  have hpl := h.stlen
  have hR0 : Hid ([] ++ pathTxt t (ps.drop 0) = R) := by rw [List.drop_zero, List.nil_append]; exact Lib.hid hR
  have k2 := Below.one w (.cells (valCells t e) 26)
  have hcp := s_l6Copy t e _ (hl.below hel k2) (hel.mono k2.size) (by omega)
  clear hR
  go_enter Tryd.func21, Tryd.ntmps21
  go_wp2_with (go_at_call 29; refine hcp.mono ?_; rintro r w1 ⟨v0, rfl, hv1, hv2, hb1⟩)
  have kX : Below w.heap.size w (w1.alloc (.cells (valCells t v0) 26)) := (k2.up hb1).up (Below.one _ _)
  have z1 : w.heap.size + 1 ≤ w1.heap.size := by have := hb1.size; simp at this; omega
  have hX0 : Blk (w1.alloc (.cells (valCells t v0) 26)) w1.heap.size 26 (valCells t v0) := Blk.new _ _ _
  have hl1 := hv1.below (fun g hg => hv2.lt hg) (Below.one w1 (.cells (valCells t v0) 26))
  have ho1 := (hv2.below (fun g hg => hv2.lt hg) (Below.one w1 (.cells (valCells t v0) 26))).mono (lo2 := w.heap.size + 1) (by simp)
  have hn1 : w1.heap.size ∉ v0.fp := fun hx => Nat.lt_irrefl _ (hv2.lt hx)
  clear hcp hv1 hv2 hb1 hl
  go_loopg [5, 7, 8, 9] m (fun f v5 z v8 v9 wr => ∃ (j : Nat) (q : Tr) (u : El) (b : List UInt8), j + f = m ∧ z = .int .i64 j ∧ v5 = .string ⟨(36 :: b).toArray⟩ ∧ Hid (b ++ pathTxt q (ps.drop j) = R) ∧ b.length ≤ 1048601 * j ∧ q.sz ≤ 1048576 ∧ LsAt wr q.l u ∧ Own wr (w.heap.size + 1) u.fp ∧ w1.heap.size ∉ u.fp ∧ Below w.heap.size w wr ∧ Blk wr w1.heap.size 26 (valCells q u))
  case atStart => exact ⟨0, t, v0, [], by omega, rfl, rfl, hR0, by simp, hm, hl1, ho1, hn1, kX, hX0⟩
  case round =>
    obtain ⟨j, q, u, b, hjf, rfl, rfl, hq, hbl, hqs, hql, hqo, hqn1, hk, hB⟩ := hrel
    clear hl1 ho1 hn1 kX hX0 hR0
    have hz : w1.heap.size < wr.heap.size := hB.lt
    by_cases hlt : j < m
    · obtain ⟨f, rfl⟩ : ∃ f, gk = f + 1 := ⟨gk - 1, by omega⟩
      obtain ⟨g, o, hj, hA, hg, p0, p1⟩ := (h.below hk).stp hlt
      subst hA
      have hh := hq.out
      rw [drop_cons hj] at hh
      have hpb := hps _ (List.getElem_mem hj)
      obtain ⟨⟨pa, pb⟩, hp⟩ : ∃ p, ps[j] = p := ⟨_, rfl⟩
      rw [hp] at p0 p1 hh hpb
      simp only at p0 p1
      have hsv := fun w0 (hb : Below wr.heap.size wr w0) => s_StepVal q u (pa, pb) w0 (hql.below (fun g hg => hqo.lt hg) hb) (fun g hg => Nat.lt_of_lt_of_le (hqo.lt hg) hb.size) (by omega) hpb
      obtain ⟨b0, b1, b2, b3, b4⟩ := hB.boxV
      have hgw : g < wr.heap.size := Nat.lt_of_lt_of_le hg hk.size
      obtain ⟨y, hy⟩ : ∃ y, (stepT q (pa, pb)).getD zT = y := ⟨_, rfl⟩
      obtain ⟨ok, hok⟩ : ∃ ok, (stepT q (pa, pb)).isSome = ok := ⟨_, rfl⟩
      unfold AtOf at hsv
      rw [hy, hok] at hsv
      clear hq
      go_wp2_with fail
      go_region_law ((go_simp; go_at_call 12; refine (hsv _ (by first | exact (Below.refl _ _).drew | exact (Below.one _ _).drew)).mono ?_; rintro r w5 ⟨v, rfl, hv1, hv2, hb5⟩; obtain ⟨hc5, hf5⟩ := bcell hb5))
      all_goals
        first
        | (
          have hw5 : Below wr.heap.size wr w5 := ((Below.refl _ _).drew).up hb5
          have hvz : wr.heap.size ≤ w5.heap.size := hw5.size
          have hnx : w1.heap.size ∉ v.fp := fun hx => by have h9 : wr.heap.size ≤ w1.heap.size := (hv2.2 _ hx).1; omega
          have HF : Blk (w5.alloc (.cells #[.int .i64 y.k, .int .i64 y.n, .int .i64 y.x, .string y.s, .slice v.A v.n v.c] 26)) w5.heap.size 26 (valCells y v) ∧ LsAt (w5.alloc (.cells #[.int .i64 y.k, .int .i64 y.n, .int .i64 y.x, .string y.s, .slice v.A v.n v.c] 26)) y.l v ∧ Own (w5.alloc (.cells #[.int .i64 y.k, .int .i64 y.n, .int .i64 y.x, .string y.s, .slice v.A v.n v.c] 26)) (w.heap.size + 1) v.fp ∧ Below wr.heap.size wr (w5.alloc (.cells #[.int .i64 y.k, .int .i64 y.n, .int .i64 y.x, .string y.s, .slice v.A v.n v.c] 26)) ∧ w1.heap.size ∉ v.fp := by
            exact ⟨Blk.new _ _ _, hv1.below (fun g hg => hv2.lt hg) (Below.one _ _), (hv2.below (fun g hg => hv2.lt hg) (Below.one _ _)).mono (by simp; omega), hw5.up (Below.one _ _), hnx⟩
          clear hb5 hc5 hf5 hv1 hv2
          generalize (w5.alloc (.cells #[.int .i64 y.k, .int .i64 y.n, .int .i64 y.x, .string y.s, .slice v.A v.n v.c] 26)) = wF at HF ⊢
          obtain ⟨HY, HL, HO, HW, HN⟩ := HF
          have HK := hk.trans (HW.mono hk.size)
          have HX : Blk wF w1.heap.size 26 (valCells q u) := hB.below HW hB.lt
          clear hsv
          cases ok with
          | false =>
            have hO : stepT q (pa, pb) = none := by cases hs : stepT q (pa, pb) with
              | none => rfl
              | some z => rw [hs] at hok; cases hok
            rw [pathTxt_no hO, List.append_nil] at hh
            subst hh
            go_wp2_with fail
            go_ret
            exact ⟨rfl, HK⟩
          | true =>
            have hO : stepT q (pa, pb) = some y := by cases hs : stepT q (pa, pb) with
              | none => rw [hs] at hok; cases hok
              | some z => rw [hs] at hy; exact congrArg some hy
            rw [pathTxt_yes hO, ← List.append_assoc] at hh
            have hqs2 : y.sz ≤ 1048576 := by
              have hst := hO
              unfold stepT at hst
              split at hst
              · cases hst
              · obtain ⟨hi, rfl⟩ := List.getElem?_eq_some_iff.1 hst
                exact Nat.le_trans (child_sz hi) hqs
            have hpk : q.k = 10 → 0 ≤ pa ∧ 2 * pa < q.l.length := by
              refine place_ok (b := pb) ?_
              have hst := hO
              unfold stepT at hst
              split at hst
              · cases hst
              · rename_i h9; simp only at h9; omega
            have hsl := stepTxt_len (t := q) (p := (pa, pb)) hpb
            have P0 := (HK.cell (p := ⟨g, o + j * 2, none⟩) hg).trans ((hk.cell (p := ⟨g, o + j * 2, none⟩) hg).symm.trans p0)
            have P1 := (HK.cell (p := ⟨g, o + j * 2 + 1, none⟩) hg).trans ((hk.cell (p := ⟨g, o + j * 2 + 1, none⟩) hg).symm.trans p1)
            have hgF : g < wF.heap.size := Nat.lt_of_lt_of_le hg HK.size
            have hqlF := hql.below (fun g hg => hqo.lt hg) HW
            have hqltF : u.lt wF.heap.size := fun g hg => Nat.lt_of_lt_of_le (hqo.lt hg) HW.size
            have hS0 := fun (w' : World) (hb : Below wF.heap.size wF w') => (show (BoxV w' w1.heap.size q u ∧ (w'.cell? ⟨g, o + j * 2, none⟩ = some (.int .i64 pa) ∧ w'.cell? ⟨g, o + j * 2 + 1, none⟩ = some (.bool pb))) ∧ Below wF.heap.size wF w' from ⟨⟨(HX.below hb HX.lt).boxV, (hb.cell (p := ⟨g, _, none⟩) hgF).trans P0, (hb.cell (p := ⟨g, _, none⟩) hgF).trans P1⟩, hb⟩)
            have hS2 := fun (w' w'' : World) (h : (BoxV w' w1.heap.size q u ∧ (w'.cell? ⟨g, o + j * 2, none⟩ = some (.int .i64 pa) ∧ w'.cell? ⟨g, o + j * 2 + 1, none⟩ = some (.bool pb))) ∧ Below wF.heap.size wF w') (hb : Below w'.heap.size w' w'') => hS0 w'' (h.2.up hb)
            have hT := fun (w' : World) (hS : (BoxV w' w1.heap.size q u ∧ (w'.cell? ⟨g, o + j * 2, none⟩ = some (.int .i64 pa) ∧ w'.cell? ⟨g, o + j * 2 + 1, none⟩ = some (.bool pb))) ∧ Below wF.heap.size wF w') => s_l8Text q u pa pb w' (hqlF.below hqltF hS.2) (hqltF.mono hS.2.size) (by omega) hpb hpk
            obtain ⟨T, hTx⟩ : ∃ T, stepTxt q (pa, pb) = T := ⟨_, rfl⟩
            rw [hTx] at hT hh hsl
            have HH := Lib.hid hh
            have hcat : ∀ w', (Op.stringOp .add ⟨(36 :: b).toArray⟩ ⟨T.toArray⟩).run Tryd.prog w' = .ok (.string ⟨(36 :: (b ++ T)).toArray⟩) w' := fun w' => (run_string_add_sum (P := Tryd.prog) (w := w') _ _ (by show (36 :: b).toArray.size + T.toArray.size ≤ _; simp; omega)).trans (by rw [ba_add]; rfl)
            have hjf2 : j + 1 + f = m := by omega
            obtain ⟨T1, hT1⟩ : ∃ T1, 36 :: b = T1 := ⟨_, rfl⟩
            clear hh hO hok hy hpk hTx P0 P1 b0 b1 b2 b3 b4 p0 p1 hjf hT1
            go_wp2_with fail
            go_region_held3 (fun w' => (BoxV w' w1.heap.size q u ∧ (w'.cell? ⟨g, o + j * 2, none⟩ = some (.int .i64 pa) ∧ w'.cell? ⟨g, o + j * 2 + 1, none⟩ = some (.bool pb))) ∧ Below wF.heap.size wF w')
              (first | exact hS0 _ (Below.refl _ _).drew | (refine hS2 _ _ ?_ hbq; assumption))
              (first | (go_at_call 36; refine (hT _ (by assumption)).mono ?_; rintro r w8 ⟨rfl, hbq⟩))
            rename_i hHeld
            have HW8 := hHeld.2
            have HX8 := HX.below HW8 HX.lt
            have HY8 := HY.below HW8 HY.lt
            have HL8 := HL.below (fun g hg => HO.lt hg) HW8
            have HO8 := HO.below (fun g hg => HO.lt hg) HW8
            have HK8 := HK.up HW8
            clear hS0 hS2 hT hHeld hcat
            obtain ⟨y0, y1, y2, y3, y4⟩ := HY8.boxV
            obtain ⟨x0, x1, x2, x3, x4, ⟨s0, t0⟩, ⟨s1, t1⟩, ⟨s2, t2⟩, ⟨s3, t3⟩, s4, t4⟩ := HX8.five (o := 0) (by simp) (.int .i64 y.k) (.int .i64 y.n) (.int .i64 y.x) (.string y.s)
            have hX7 : Blk (set5 _ w1.heap.size 0 y v) w1.heap.size 26 (valCells y v) := Blk.five_ HX8 y v
            have hl7 : LsAt (set5 _ w1.heap.size 0 y v) y.l v := HL8.set5_ HN
            have ho7 : Own (set5 _ w1.heap.size 0 y v) (w.heap.size + 1) v.fp := HO8.set5_ HN
            have hk7 : Below w.heap.size w (set5 _ w1.heap.size 0 y v) := below_set5 HK8 (by omega)
            clear HX HX8 HY HY8 HL HL8 HO HO8 HK HK8 HW HW8 hql hqlF hqltF hqo hB
            go_wp2_with fail
            go_roundg f
            case measure => omega
            case rel => exact ⟨j + 1, y, v, b ++ T, hjf2, by go_num, rfl, HH, by rw [List.length_append]; omega, hqs2, hl7, ho7, HN, hk7, hX7⟩
          )
        | (
          have hw5 : Below wr.heap.size wr w5 := ((Below.one _ _).drew).up hb5
          have hvz : wr.heap.size ≤ w5.heap.size := hw5.size
          have hnx : w1.heap.size ∉ v.fp := fun hx => by have h9 : (wr.alloc (.cells #[.int .i64 0, .int .i64 0, .int .i64 0, .string ⟨#[]⟩, .slice none 0 0] 26)).heap.size ≤ w1.heap.size := (hv2.2 _ hx).1; simp at h9; omega
          have HF : Blk (((((w5.setCell ⟨wr.heap.size, 0, none⟩ (.int .i64 y.k)).setCell ⟨wr.heap.size, 1, none⟩ (.int .i64 y.n)).setCell ⟨wr.heap.size, 2, none⟩ (.int .i64 y.x)).setCell ⟨wr.heap.size, 3, none⟩ (.string y.s)).setCell ⟨wr.heap.size, 4, none⟩ (.slice v.A v.n v.c)) wr.heap.size 26 (valCells y v) ∧ LsAt (((((w5.setCell ⟨wr.heap.size, 0, none⟩ (.int .i64 y.k)).setCell ⟨wr.heap.size, 1, none⟩ (.int .i64 y.n)).setCell ⟨wr.heap.size, 2, none⟩ (.int .i64 y.x)).setCell ⟨wr.heap.size, 3, none⟩ (.string y.s)).setCell ⟨wr.heap.size, 4, none⟩ (.slice v.A v.n v.c)) y.l v ∧ Own (((((w5.setCell ⟨wr.heap.size, 0, none⟩ (.int .i64 y.k)).setCell ⟨wr.heap.size, 1, none⟩ (.int .i64 y.n)).setCell ⟨wr.heap.size, 2, none⟩ (.int .i64 y.x)).setCell ⟨wr.heap.size, 3, none⟩ (.string y.s)).setCell ⟨wr.heap.size, 4, none⟩ (.slice v.A v.n v.c)) (w.heap.size + 1) v.fp ∧ Below wr.heap.size wr (((((w5.setCell ⟨wr.heap.size, 0, none⟩ (.int .i64 y.k)).setCell ⟨wr.heap.size, 1, none⟩ (.int .i64 y.n)).setCell ⟨wr.heap.size, 2, none⟩ (.int .i64 y.x)).setCell ⟨wr.heap.size, 3, none⟩ (.string y.s)).setCell ⟨wr.heap.size, 4, none⟩ (.slice v.A v.n v.c)) ∧ w1.heap.size ∉ v.fp := by
            have hny : wr.heap.size ∉ v.fp := fun hx => by have h9 : (wr.alloc (.cells #[.int .i64 0, .int .i64 0, .int .i64 0, .string ⟨#[]⟩, .slice none 0 0] 26)).heap.size ≤ wr.heap.size := (hv2.2 _ hx).1; simp at h9; omega
            have hY5 : Blk w5 wr.heap.size 26 #[.int .i64 0, .int .i64 0, .int .i64 0, .string ⟨#[]⟩, .slice none 0 0] := (show Blk (wr.alloc (.cells #[.int .i64 0, .int .i64 0, .int .i64 0, .string ⟨#[]⟩, .slice none 0 0] 26)).drew wr.heap.size 26 #[.int .i64 0, .int .i64 0, .int .i64 0, .string ⟨#[]⟩, .slice none 0 0] from Blk.new wr _ _).below hb5 (by simp)
            have e : set5 w5 wr.heap.size 0 y v = (((((w5.setCell ⟨wr.heap.size, 0, none⟩ (.int .i64 y.k)).setCell ⟨wr.heap.size, 1, none⟩ (.int .i64 y.n)).setCell ⟨wr.heap.size, 2, none⟩ (.int .i64 y.x)).setCell ⟨wr.heap.size, 3, none⟩ (.string y.s)).setCell ⟨wr.heap.size, 4, none⟩ (.slice v.A v.n v.c)) := rfl
            rw [← e]
            exact ⟨Blk.five_ hY5 y v, hv1.set5_ hny, (hv2.set5_ hny).mono (by simp; omega), below_set5 hw5 (Nat.le_refl _), hnx⟩
          clear hb5 hc5 hf5 hv1 hv2
          generalize (((((w5.setCell ⟨wr.heap.size, 0, none⟩ (.int .i64 y.k)).setCell ⟨wr.heap.size, 1, none⟩ (.int .i64 y.n)).setCell ⟨wr.heap.size, 2, none⟩ (.int .i64 y.x)).setCell ⟨wr.heap.size, 3, none⟩ (.string y.s)).setCell ⟨wr.heap.size, 4, none⟩ (.slice v.A v.n v.c)) = wF at HF ⊢
          obtain ⟨HY, HL, HO, HW, HN⟩ := HF
          have HK := hk.trans (HW.mono hk.size)
          have HX : Blk wF w1.heap.size 26 (valCells q u) := hB.below HW hB.lt
          clear hsv
          cases ok with
          | false =>
            have hO : stepT q (pa, pb) = none := by cases hs : stepT q (pa, pb) with
              | none => rfl
              | some z => rw [hs] at hok; cases hok
            rw [pathTxt_no hO, List.append_nil] at hh
            subst hh
            go_wp2_with fail
            go_ret
            exact ⟨rfl, HK⟩
          | true =>
            have hO : stepT q (pa, pb) = some y := by cases hs : stepT q (pa, pb) with
              | none => rw [hs] at hok; cases hok
              | some z => rw [hs] at hy; exact congrArg some hy
            rw [pathTxt_yes hO, ← List.append_assoc] at hh
            have hqs2 : y.sz ≤ 1048576 := by
              have hst := hO
              unfold stepT at hst
              split at hst
              · cases hst
              · obtain ⟨hi, rfl⟩ := List.getElem?_eq_some_iff.1 hst
                exact Nat.le_trans (child_sz hi) hqs
            have hpk : q.k = 10 → 0 ≤ pa ∧ 2 * pa < q.l.length := by
              refine place_ok (b := pb) ?_
              have hst := hO
              unfold stepT at hst
              split at hst
              · cases hst
              · rename_i h9; simp only at h9; omega
            have hsl := stepTxt_len (t := q) (p := (pa, pb)) hpb
            have P0 := (HK.cell (p := ⟨g, o + j * 2, none⟩) hg).trans ((hk.cell (p := ⟨g, o + j * 2, none⟩) hg).symm.trans p0)
            have P1 := (HK.cell (p := ⟨g, o + j * 2 + 1, none⟩) hg).trans ((hk.cell (p := ⟨g, o + j * 2 + 1, none⟩) hg).symm.trans p1)
            have hgF : g < wF.heap.size := Nat.lt_of_lt_of_le hg HK.size
            have hqlF := hql.below (fun g hg => hqo.lt hg) HW
            have hqltF : u.lt wF.heap.size := fun g hg => Nat.lt_of_lt_of_le (hqo.lt hg) HW.size
            have hS0 := fun (w' : World) (hb : Below wF.heap.size wF w') => (show (BoxV w' w1.heap.size q u ∧ (w'.cell? ⟨g, o + j * 2, none⟩ = some (.int .i64 pa) ∧ w'.cell? ⟨g, o + j * 2 + 1, none⟩ = some (.bool pb))) ∧ Below wF.heap.size wF w' from ⟨⟨(HX.below hb HX.lt).boxV, (hb.cell (p := ⟨g, _, none⟩) hgF).trans P0, (hb.cell (p := ⟨g, _, none⟩) hgF).trans P1⟩, hb⟩)
            have hS2 := fun (w' w'' : World) (h : (BoxV w' w1.heap.size q u ∧ (w'.cell? ⟨g, o + j * 2, none⟩ = some (.int .i64 pa) ∧ w'.cell? ⟨g, o + j * 2 + 1, none⟩ = some (.bool pb))) ∧ Below wF.heap.size wF w') (hb : Below w'.heap.size w' w'') => hS0 w'' (h.2.up hb)
            have hT := fun (w' : World) (hS : (BoxV w' w1.heap.size q u ∧ (w'.cell? ⟨g, o + j * 2, none⟩ = some (.int .i64 pa) ∧ w'.cell? ⟨g, o + j * 2 + 1, none⟩ = some (.bool pb))) ∧ Below wF.heap.size wF w') => s_l8Text q u pa pb w' (hqlF.below hqltF hS.2) (hqltF.mono hS.2.size) (by omega) hpb hpk
            obtain ⟨T, hTx⟩ : ∃ T, stepTxt q (pa, pb) = T := ⟨_, rfl⟩
            rw [hTx] at hT hh hsl
            have HH := Lib.hid hh
            have hcat : ∀ w', (Op.stringOp .add ⟨(36 :: b).toArray⟩ ⟨T.toArray⟩).run Tryd.prog w' = .ok (.string ⟨(36 :: (b ++ T)).toArray⟩) w' := fun w' => (run_string_add_sum (P := Tryd.prog) (w := w') _ _ (by show (36 :: b).toArray.size + T.toArray.size ≤ _; simp; omega)).trans (by rw [ba_add]; rfl)
            have hjf2 : j + 1 + f = m := by omega
            obtain ⟨T1, hT1⟩ : ∃ T1, 36 :: b = T1 := ⟨_, rfl⟩
            clear hh hO hok hy hpk hTx P0 P1 b0 b1 b2 b3 b4 p0 p1 hjf hT1
            go_wp2_with fail
            go_region_held3 (fun w' => (BoxV w' w1.heap.size q u ∧ (w'.cell? ⟨g, o + j * 2, none⟩ = some (.int .i64 pa) ∧ w'.cell? ⟨g, o + j * 2 + 1, none⟩ = some (.bool pb))) ∧ Below wF.heap.size wF w')
              (first | exact hS0 _ (Below.refl _ _).drew | (refine hS2 _ _ ?_ hbq; assumption))
              (first | (go_at_call 36; refine (hT _ (by assumption)).mono ?_; rintro r w8 ⟨rfl, hbq⟩))
            rename_i hHeld
            have HW8 := hHeld.2
            have HX8 := HX.below HW8 HX.lt
            have HY8 := HY.below HW8 HY.lt
            have HL8 := HL.below (fun g hg => HO.lt hg) HW8
            have HO8 := HO.below (fun g hg => HO.lt hg) HW8
            have HK8 := HK.up HW8
            clear hS0 hS2 hT hHeld hcat
            obtain ⟨y0, y1, y2, y3, y4⟩ := HY8.boxV
            obtain ⟨x0, x1, x2, x3, x4, ⟨s0, t0⟩, ⟨s1, t1⟩, ⟨s2, t2⟩, ⟨s3, t3⟩, s4, t4⟩ := HX8.five (o := 0) (by simp) (.int .i64 y.k) (.int .i64 y.n) (.int .i64 y.x) (.string y.s)
            have hX7 : Blk (set5 _ w1.heap.size 0 y v) w1.heap.size 26 (valCells y v) := Blk.five_ HX8 y v
            have hl7 : LsAt (set5 _ w1.heap.size 0 y v) y.l v := HL8.set5_ HN
            have ho7 : Own (set5 _ w1.heap.size 0 y v) (w.heap.size + 1) v.fp := HO8.set5_ HN
            have hk7 : Below w.heap.size w (set5 _ w1.heap.size 0 y v) := below_set5 HK8 (by omega)
            clear HX HX8 HY HY8 HL HL8 HO HO8 HK HK8 HW HW8 hql hqlF hqltF hqo hB
            go_wp2_with fail
            go_roundg f
            case measure => omega
            case rel => exact ⟨j + 1, y, v, b ++ T, hjf2, by go_num, rfl, HH, by rw [List.length_append]; omega, hqs2, hl7, ho7, HN, hk7, hX7⟩
          )
    · obtain rfl : j = m := by omega
      have hh := hq.out
      rw [List.drop_eq_nil_of_le (by omega), pathTxt_nil, List.append_nil] at hh
      subst hh
      clear hq
      go_wp2_with fail
      go_ret
      exact ⟨rfl, hk⟩
end Go.Proofs.YtpafgmlkbbbmhaaDoor
