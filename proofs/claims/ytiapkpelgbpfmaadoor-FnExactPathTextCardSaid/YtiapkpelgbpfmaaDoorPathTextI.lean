/- PathText (impl). -/
import Derived.Test.YtiapkpelgbpfmaaDoorStepText
set_option linter.unusedVariables false
set_option maxRecDepth 100000
set_option linter.unusedSimpArgs false
namespace Go.Proofs.YtiapkpelgbpfmaaDoor
open Go.RowKit

def pathTxt : Tr → List (Int × Bool) → List UInt8
  | _, [] => []
  | t, p :: ps => match stepT t p with
    | none => []
    | some u => stepTxt t p ++ pathTxt u ps
theorem pathTxt_nil (t : Tr) : pathTxt t [] = [] := by cases t; rfl
theorem pathTxt_no {t : Tr} {p : Int × Bool} {ps : List (Int × Bool)} (h : stepT t p = none) : pathTxt t (p :: ps) = [] := by simp [pathTxt, h]
theorem pathTxt_yes {t u : Tr} {p : Int × Bool} {ps : List (Int × Bool)} (h : stepT t p = some u) : pathTxt t (p :: ps) = stepTxt t p ++ pathTxt u ps := by simp [pathTxt, h]
theorem stepTxt_len {t : Tr} {p : Int × Bool} (hp : -9223372036854775808 ≤ p.1 ∧ p.1 ≤ 9223372036854775807) : (stepTxt t p).length ≤ t.sz + 25 := by
  have hn := numL_len hp
  have hg : (t.l.getD (2 * p.1).toNat zT).s.size ≤ t.sz := by
    rw [List.getD_eq_getElem?_getD]
    by_cases h : (2 * p.1).toNat < t.l.length
    · rw [List.getElem?_eq_getElem h, Option.getD_some]
      have h1 := child_sz h
      have h2 := t.l[(2 * p.1).toNat].sz_eq
      omega
    · rw [List.getElem?_eq_none (by omega)]
      exact Nat.zero_le _
  unfold stepTxt nameT
  have hb := blen_of (t.l.getD (2 * p.1).toNat zT).s
  (repeat' split) <;> simp only [List.length_append, List.length_cons, List.length_nil] <;> omega
theorem place_ok {k : Int} {n : Nat} {a : Int} {b : Bool} (h : 0 ≤ place k n a b) : k = 10 → 0 ≤ a ∧ 2 * a < n := by
  intro hk
  unfold place at h
  rw [if_pos hk] at h
  (repeat' split at h) <;> omega
set_option maxHeartbeats 1600000 in
theorem i_PathText (t : Tr) (e : El) (A : Option Addr) (m c : Nat) (ps : List (Int × Bool)) (w : World) (hl : LsAt w t.l e) (hel : e.lt w.heap.size) (hm : t.sz ≤ 1048576) (h : Sl w w.heap.size 2 A m c (stC ps)) (hmb : m ≤ 1048576) (hps : ∀ p ∈ ps, -9223372036854775808 ≤ p.1 ∧ p.1 ≤ 9223372036854775807) (hP : PowT w) :
    Calls Tryd.prog 24 #[trV t e, .slice A m c] w fun r w' => r = .returned (.string ⟨(36 :: pathTxt t ps).toArray⟩) ∧ Below w.heap.size w w' := by
  obtain ⟨R, hR⟩ : ∃ R, pathTxt t ps = R := ⟨_, rfl⟩
  rw [hR]
  have hpl := h.stlen
  have hR0 : Hid ([] ++ pathTxt t (ps.drop 0) = R) := by rw [List.drop_zero, List.nil_append]; exact Lib.hid hR
  have k1 := Below.one w (.cells (valCells t e) 36)
  have hV : Blk (w.alloc (.cells (valCells t e) 36)) w.heap.size 36 (valCells t e) := Blk.new w _ _
  have hl2 := hl.below hel k1
  clear hR
  go_enter Tryd.func24, Tryd.ntmps24
  go_wp2_with fail
  go_loopg [5, 7, 8, 11] m (fun f v5 v7 v8 z wr => ∃ (j : Nat) (q : Tr) (u : El) (b : List UInt8), j + f = m ∧ z = .int .i64 j ∧ v5 = .string ⟨(36 :: b).toArray⟩ ∧ Hid (b ++ pathTxt q (ps.drop j) = R) ∧ b.length ≤ 1048601 * j ∧ q.sz ≤ 1048576 ∧ LsAt wr q.l u ∧ u.lt w.heap.size ∧ Below w.heap.size w wr ∧ Blk wr w.heap.size 36 (valCells q u))
  case atStart => exact ⟨0, t, e, [], by omega, rfl, rfl, hR0, by simp, hm, hl2, hel, k1, hV⟩
  case round =>
    obtain ⟨j, q, u, b, hjf, rfl, rfl, hq, hbl, hqs, hql, hul, hk, hB⟩ := hrel
    clear hl2 hV hR0
    have hz : w.heap.size < wr.heap.size := hB.lt
    by_cases hlt : j < m
    · obtain ⟨f, rfl⟩ : ∃ f, gk = f + 1 := ⟨gk - 1, by omega⟩
      obtain ⟨g, o, hj, hA, hg, p0, p1⟩ := (h.below hk).stp hlt
      subst hA
      have hh := hq.out
      rw [drop_cons hj] at hh
      have hpb := hps _ (List.getElem_mem hj)
      obtain ⟨⟨pa, pb⟩, hp⟩ : ∃ p, ps[j] = p := ⟨_, rfl⟩
      rw [hp] at p0 p1 hh hpb
      simp only at p0 p1 hpb
      have hqn := hql.len
      have hszl := szT_le q.l 0
      have hsz := q.sz_eq
      have hix := fun o => i_index pa pb q u (wr.alloc o) (by omega)
      have hpc := place_lt q.k q.l.length pa pb
      have hok := fun h => place_ok (k := q.k) (n := q.l.length) (a := pa) (b := pb) h
      obtain ⟨P, hPl⟩ : ∃ P, place q.k q.l.length pa pb = P := ⟨_, rfl⟩
      rw [← hqn, hPl] at hix
      have hno := stepT_no (t := q) (p := (pa, pb)) hPl
      have hyes := fun (i : Nat) (h : P = i) (hi : i < q.l.length) => stepT_yes (t := q) (p := (pa, pb)) (j := i) (hPl.trans h) hi
      rw [hPl] at hpc hok
      clear hPl hq
      have hB1 := hB.alloc (.cells #[.int .i64 pa, .bool pb] 79)
      have hS1 : Blk (wr.alloc (.cells #[.int .i64 pa, .bool pb] 79)) wr.heap.size 79 #[.int .i64 pa, .bool pb] := Blk.new wr _ _
      obtain ⟨b0, b1, b2, b3, b4⟩ := hB1.boxV
      have kA := Below.one wr (.cells #[.int .i64 pa, .bool pb] 79)
      rcases hpc with hneg | ⟨hge, hlt2⟩
      · rw [pathTxt_no (hno (by omega)), List.append_nil] at hh
        subst hh
        have hneg2 : P < 0 := by omega
        clear hno hyes hql hok
        go_wp2_with (go_at_call 62; refine (hix _).mono ?_; rintro r w3 ⟨rfl, hb3⟩; have kk := hk.up (kA.up hb3))
        go_ret
        exact ⟨rfl, kk⟩
      · obtain ⟨i, rfl⟩ := Int.eq_ofNat_of_zero_le hge
        have hi : i < q.l.length := by omega
        have hst := hyes i rfl hi
        rw [pathTxt_yes hst, ← List.append_assoc] at hh
        have hsl := stepTxt_len (t := q) (p := (pa, pb)) hpb
        have hqs2 := Nat.le_trans (child_sz hi) hqs
        have hsT := fun w1 (hb : Below wr.heap.size wr w1) => i_stepText q u pa pb w1 (hql.below (hul.mono hk.size) hb) (hul.mono (Nat.le_trans hk.size hb.size)) (by omega) hpb (hok (by omega)) (hP.below (hk.up hb))
        obtain ⟨T, hT⟩ : ∃ T, stepTxt q (pa, pb) = T := ⟨_, rfl⟩
        rw [hT] at hsT hh hsl
        have HH := Lib.hid hh
        have hL := fun w1 (hb : Below wr.heap.size wr w1) => (hql.below (hul.mono hk.size) hb).elem (j := i) (by omega)
        obtain ⟨qA, qn, qc, qfp⟩ := u
        have hqn : q.l.length = qn := hqn
        subst hqn
        have hqc : q.l.length ≤ qc ∧ qc ≤ maxLen := ⟨((lsAt_iff _ _).1 hql).2.1, ((lsAt_iff _ _).1 hql).2.2.1⟩
        have hjf2 : j + 1 + f = m := by omega
        clear hno hyes hql hst hT hh hok hjf
        go_wp2_with (first
          | (go_at_call 62; refine (hix _).mono ?_; rintro r w3 ⟨rfl, hb3⟩; clear hix; have kb := kA.up hb3; have hB3 := hB1.below hb3 hB1.lt; have hS3 := hS1.below hb3 hS1.lt; obtain ⟨r0, r1⟩ := hS3.cells2v; obtain ⟨x0, x1, x2, x3, x4⟩ := hB3.boxV)
          | (go_at_call 63; refine (hsT _ kb).mono ?_; rintro r w4 ⟨rfl, hb4⟩; clear hsT x0 x1 x2 x3 x4 r0 r1; have kc := kb.up hb4; have kk := hk.up kc; have hB4 := hB3.below hb4 hB3.lt; obtain ⟨x0, x1, x2, x3, x4⟩ := hB4.boxV; obtain ⟨g2, o2, v, hi2, hAe, hgm, ⟨c0, c1, c2, c3, c4⟩, hch, hsub⟩ := hL w4 kc; replace hAe : qA = some ⟨g2, o2, none⟩ := hAe; subst hAe; obtain ⟨y0, y1, y2, y3, y4, ⟨s0, t0⟩, ⟨s1, t1⟩, ⟨s2, t2⟩, ⟨s3, t3⟩, s4, t4⟩ := hB4.five (o := 0) (by simp) (.int .i64 q.l[i].k) (.int .i64 q.l[i].n) (.int .i64 q.l[i].x) (.string q.l[i].s)))
        have hvl : v.lt w.heap.size := fun x hx => hul x (hsub x hx)
        have hB5 : Blk (set5 w4 w.heap.size 0 q.l[i] v) w.heap.size 36 (valCells q.l[i] v) := Blk.five_ hB4 q.l[i] v
        have hl5 : LsAt (set5 w4 w.heap.size 0 q.l[i] v) q.l[i].l v := hch.set5_ (fun hx => Nat.lt_irrefl _ (hvl _ hx))
        have hk5 : Below w.heap.size w (set5 w4 w.heap.size 0 q.l[i] v) := below_set5 kk (Nat.le_refl _)
        clear hL hB hB1 hB3 hS1 hS3 hB4 hch c0 c1 c2 c3 c4 x0 x1 x2 x3 x4 s0 t0 s1 t1 s2 t2 s3 t3 s4 t4 b0 b1 b2 b3 b4 p0 p1 hb3 kb kc kA
        go_roundg f
        case measure => omega
        case rel => exact ⟨j + 1, q.l[i], v, b ++ T, hjf2, by go_num, by rw [← List.cons_append, ← ba_add], HH, by rw [List.length_append]; omega, hqs2, hl5, hvl, hk5, hB5⟩
    · obtain rfl : j = m := by omega
      have hh := hq.out
      rw [List.drop_eq_nil_of_le (by omega), pathTxt_nil, List.append_nil] at hh
      subst hh
      clear hq
      go_wp2_with fail
      go_ret
      exact ⟨rfl, hk⟩
end Go.Proofs.YtiapkpelgbpfmaaDoor
