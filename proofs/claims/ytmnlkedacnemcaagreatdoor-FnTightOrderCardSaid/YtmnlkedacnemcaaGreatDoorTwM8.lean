/- Copies of trees: copyVal and the reference's l6Copy. Steps of paths: the laws' helpers on them. -/
import Derived.Test.YtmnlkedacnemcaaGreatDoorTwM7
import Derived.Deep.LoopGhost
import Derived.Test.YtmnlkedacnemcaaGreatDoorTwM4
import Derived.Deep.RegionHeld3
set_option linter.unusedVariables false
set_option maxRecDepth 100000
set_option linter.unusedSimpArgs false
namespace Go.Proofs.YtmnlkedacnemcaaGreatDoor
open Go.RowKit

theorem take_all_len {l : List Tr} {j n : Nat} (h : l.length = n) (hj : n ≤ j) : l.take j = l := List.take_of_length_le (by omega)
theorem bcell_ {B : Nat} {w w1 : World} (h : Below B w w1) (hB : w.heap.size = B) : (∀ b o, b < B → w1.cell? ⟨b, o, none⟩ = w.cell? ⟨b, o, none⟩) ∧ (∀ b o, b < B → w1.frozen? ⟨b, o, none⟩ = w.frozen? ⟨b, o, none⟩) := by
  subst hB; exact bcell h
/-- What a copy says of a tree: its list lies in new memory. -/
def CopyOf (w w' : World) (r : Ending) (t : Tr) : Prop := ∃ u : El, r = .returned (trV t u) ∧ LsAt w' t.l u ∧ Own w' w.heap.size u.fp ∧ Below w.heap.size w w'
def CpSays (t : Tr) : Prop := ∀ (e : El) (w : World), LsAt w t.l e → e.lt w.heap.size → t.sz ≤ 1099511627776 → Calls Tryz.prog 35 #[trV t e] w fun r w' => CopyOf w w' r t
set_option maxHeartbeats 1600000 in
theorem i_copyVal (t : Tr) : CpSays t := by
  refine Tr.ind (P := CpSays) (fun t ih => ?_) t
  intro e w hl hel hm
  have hsz := t.sz_eq
  obtain ⟨k, n, x, s, l⟩ := t
  obtain ⟨eA, en, ec, efp⟩ := e
  simp only at hsz ih hl
  have hen : l.length = en := hl.len
  have hszl := szT_le l 0
  have hec : en ≤ ec ∧ ec ≤ maxLen := ⟨((lsAt_iff _ _).1 hl).2.1, ((lsAt_iff _ _).1 hl).2.2.1⟩
  have k2 := Below.two w (.cells #[.int .i64 k, .int .i64 n, .int .i64 x, .string s, .slice eA en ec] 26) (.cells #[.int .i64 0, .int .i64 0, .int .i64 0, .string ⟨#[]⟩, .slice none 0 0] 26)
  go_enter Tryz.func35, Tryz.ntmps35
  go_wp2_with fail
  go_loopg [3, 9] en (fun f y z wr => ∃ (j c' : Nat) (A' : Option Addr) (es : List El), j + f = en ∧ y = .slice A' j c' ∧ z = .int .i64 j ∧ RV wr (w.heap.size + 2) A' j c' (l.take j) es ∧ Below (w.heap.size + 2) ((w.alloc (.cells #[.int .i64 k, .int .i64 n, .int .i64 x, .string s, .slice eA en ec] 26)).alloc (.cells #[.int .i64 0, .int .i64 0, .int .i64 0, .string ⟨#[]⟩, .slice none 0 0] 26)) wr)
  case atStart => exact ⟨0, 0, none, [], by omega, rfl, rfl, RV.nil_ _ _, Below.refl _ _⟩
  case round =>
    obtain ⟨j, c', A', es, hjf, rfl, rfl, hR, hb⟩ := hrel
    have hk : Below w.heap.size w wr := k2.trans (hb.mono (by omega))
    have hz : w.heap.size + 2 ≤ wr.heap.size := by have := hb.size; simp at this; omega
    by_cases hlt : j < en
    · obtain ⟨f, rfl⟩ : ∃ f, gk = f + 1 := ⟨gk - 1, by omega⟩
      obtain ⟨g, o, u, hj, hAe, hgm, ⟨c0, c1, c2, c3, c4⟩, hch, hsub⟩ := (hl.below hel hk).elem hlt
      have hAe : eA = some ⟨g, o, none⟩ := hAe
      subst hAe
      have hul : u.lt w.heap.size := fun x hx => hel x (hsub x hx)
      have hz1 := szT_succ hj
      have hz2 := szT_le l (j + 1)
      have hih := fun (ob : Obj) => ih l[j] (List.getElem_mem hj) u (wr.alloc ob) (hch.below (hul.mono hk.size) (Below.one wr ob)) (hul.mono (Nat.le_trans hk.size (Below.one wr ob).size)) (by omega)
      clear ih hch
      go_wp2_with (first
        | (go_at_call 35; refine (hih _).mono ?_; rintro r w5 ⟨v, rfl, hv1, hv2, hb5⟩; have hR5 := (hR.below (Below.one wr _)).below hb5; have zz := (Below.one wr (.cells #[.int .i64 l[j].k, .int .i64 l[j].n, .int .i64 l[j].x, .string l[j].s, .slice u.A u.n u.c] 26)).size; have z5 := hb5.size; have hd : ∀ g ∈ v.fp, g ∉ blkOf A' ∧ g ∉ elFp es := (fun g hg => ⟨fun h2 => by have := (row_lt hR.row h2).2; have := (hv2.2 g hg).1; omega, fun h2 => by have := hR.own.lt h2; have := (hv2.2 g hg).1; omega⟩))
        | (at_builtin; refine app_val rfl _ _ rfl hR5 rfl (by first | rfl | simp) rfl hv1 (hv2.mono (by omega)) hd (by omega) (by omega) ?_; intro A6 c6 w6 h6 hb6 hg6))
      have hb7 := ((hb.trans ((Below.one wr _).mono hz)).trans (hb5.mono (Nat.le_trans hz zz))).trans hb6
      clear hih hR hR5 hd hv1 hv2 hb5 hg6 hb6
      go_roundg f
      case measure => omega
      case rel => exact ⟨j + 1, c6, A6, _, by omega, rfl, by go_num, by rw [List.take_succ_eq_append_getElem hj]; exact h6, hb7⟩
    · obtain rfl : j = en := by omega
      rw [List.take_of_length_le (by omega)] at hR
      obtain ⟨hc1, hf1⟩ := bcell_ hb (by simp)
      clear ih
      go_wp2_with fail
      obtain ⟨fp, f1, f2, f3⟩ := hR.list hR.cap.1 hR.cap.2
      have hn1 : w.heap.size ∉ fp := fun hx => by have := (f2.2 _ hx).1; omega
      have hn2 : w.heap.size + 1 ∉ fp := fun hx => by have := (f2.2 _ hx).1; omega
      have hblk : Blk (set5 (wr.setCell ⟨w.heap.size, 4, none⟩ (.slice A' j c')) (w.heap.size + 1) 0 ⟨k, n, x, s, l⟩ ⟨A', j, c', fp⟩) (w.heap.size + 1) 26 _ :=
        Blk.five_ (Blk.far (Blk.below (by simpa using Blk.new (w.alloc (.cells #[.int .i64 k, .int .i64 n, .int .i64 x, .string s, .slice eA j ec] 26)) 26 #[.int .i64 0, .int .i64 0, .int .i64 0, .string ⟨#[]⟩, .slice none 0 0]) hb (by omega)) (by simp) _) ⟨k, n, x, s, l⟩ ⟨A', j, c', fp⟩
      have r1 : LsAt (set5 (wr.setCell ⟨w.heap.size, 4, none⟩ (.slice A' j c')) (w.heap.size + 1) 0 ⟨k, n, x, s, l⟩ ⟨A', j, c', fp⟩) l ⟨A', j, c', fp⟩ := (f1.far (p := ⟨w.heap.size, 4, none⟩) hn1 _).set5_ hn2
      have r2 : Own (set5 (wr.setCell ⟨w.heap.size, 4, none⟩ (.slice A' j c')) (w.heap.size + 1) 0 ⟨k, n, x, s, l⟩ ⟨A', j, c', fp⟩) w.heap.size fp := Own.mono ((f2.far (p := ⟨w.heap.size, 4, none⟩) hn1 _).set5_ hn2) (by omega)
      have r3 : Below w.heap.size w (set5 (wr.setCell ⟨w.heap.size, 4, none⟩ (.slice A' j c')) (w.heap.size + 1) 0 ⟨k, n, x, s, l⟩ ⟨A', j, c', fp⟩) := below_set5 (hk.setCell (p := ⟨w.heap.size, 4, none⟩) (Nat.le_refl _) _) (by omega)
      exact bodyPost_ret (results_blk Tryz.results35 Tryz.isAgg26 (by exact Tryz.sizeOf26) rfl hblk) rfl ⟨⟨A', j, c', fp⟩, rfl, r1, r2, r3⟩
def CqSays (t : Tr) : Prop := ∀ (e : El) (w : World), LsAt w t.l e → e.lt w.heap.size → t.sz ≤ 1099511627776 → Calls Tryz.prog 25 #[trV t e] w fun r w' => CopyOf w w' r t
set_option maxHeartbeats 1600000 in
theorem s_l6Copy (t : Tr) : CqSays t := by
  refine Tr.ind (P := CqSays) (fun t ih => ?_) t
  intro e w hl hel hm
  have hsz := t.sz_eq
  obtain ⟨k, n, x, s, l⟩ := t
  obtain ⟨eA, en, ec, efp⟩ := e
  simp only at hsz ih hl
  have hen : l.length = en := hl.len
  have hszl := szT_le l 0
  have hec : en ≤ ec ∧ ec ≤ maxLen := ⟨((lsAt_iff _ _).1 hl).2.1, ((lsAt_iff _ _).1 hl).2.2.1⟩
  have k2 := Below.two w (.cells #[.int .i64 k, .int .i64 n, .int .i64 x, .string s, .slice eA en ec] 26) (.cells #[.int .i64 0, .int .i64 0, .int .i64 0, .string ⟨#[]⟩, .slice none 0 0] 26)
  go_enter Tryz.func25, Tryz.ntmps25
  go_wp2_with fail
  go_loopg [4] en (fun f z wr => ∃ (j c' : Nat) (A' : Option Addr) (es : List El), j + f = en ∧ z = .int .i64 j ∧ RV wr (w.heap.size + 3) A' j c' (l.take j) es ∧ Blk wr (w.heap.size + 2) 26 #[.int .i64 k, .int .i64 n, .int .i64 x, .string s, .slice A' j c'] ∧ Below (w.heap.size + 2) ((w.alloc (.cells #[.int .i64 k, .int .i64 n, .int .i64 x, .string s, .slice eA en ec] 26)).alloc (.cells #[.int .i64 0, .int .i64 0, .int .i64 0, .string ⟨#[]⟩, .slice none 0 0] 26)) wr)
  case atStart =>
    refine ⟨0, 0, some ⟨w.heap.size + 3, 0, none⟩, [], by omega, rfl, ?_, ?_, ?_⟩
    · exact RV.new _ (w.heap.size + 3) (by simp)
    · exact Blk.alloc (by simpa using Blk.new ((w.alloc (.cells #[.int .i64 k, .int .i64 n, .int .i64 x, .string s, .slice eA en ec] 26)).alloc (.cells #[.int .i64 0, .int .i64 0, .int .i64 0, .string ⟨#[]⟩, .slice none 0 0] 26)) 26 #[.int .i64 k, .int .i64 n, .int .i64 x, .string s, .slice (some ⟨w.heap.size + 3, 0, none⟩) 0 0]) _
    · exact (Below.two _ _ _).mono (by simp)
  case round =>
    obtain ⟨j, c', A', es, hjf, rfl, hR, hB, hb⟩ := hrel
    have hk : Below w.heap.size w wr := k2.trans (hb.mono (by omega))
    have hz : w.heap.size + 3 ≤ wr.heap.size := hB.lt
    obtain ⟨hc1, hf1⟩ := bcell_ hb (by simp)
    have p4 := hB.cell 4
    have q4 := hB.frozen 4
    by_cases hlt : j < en
    · obtain ⟨f, rfl⟩ : ∃ f, gk = f + 1 := ⟨gk - 1, by omega⟩
      obtain ⟨g, o, u, hj, hAe, hgm, ⟨c0, c1, c2, c3, c4⟩, hch, hsub⟩ := (hl.below hel hk).elem hlt
      have hAe : eA = some ⟨g, o, none⟩ := hAe
      subst hAe
      have hul : u.lt w.heap.size := fun x hx => hel x (hsub x hx)
      have hz1 := szT_succ hj
      have hz2 := szT_le l (j + 1)
      have hih := ih l[j] (List.getElem_mem hj) u wr hch (hul.mono hk.size) (by omega)
      clear ih hch
      go_wp2_with (first
        | (go_at_call 25; refine hih.mono ?_; rintro r w5 ⟨v, rfl, hv1, hv2, hb5⟩; have hb5b := hb5.up (Below.one w5 (.cells #[.int .i64 l[j].k, .int .i64 l[j].n, .int .i64 l[j].x, .string l[j].s, .slice v.A v.n v.c] 26)); have hR5 := hR.below hb5b; have hv3 := hv1.below (fun g hg => hv2.lt hg) (Below.one w5 (.cells #[.int .i64 l[j].k, .int .i64 l[j].n, .int .i64 l[j].x, .string l[j].s, .slice v.A v.n v.c] 26)); have hv4 := hv2.below (fun g hg => hv2.lt hg) (Below.one w5 (.cells #[.int .i64 l[j].k, .int .i64 l[j].n, .int .i64 l[j].x, .string l[j].s, .slice v.A v.n v.c] 26)); have hB5 := hB.below hb5b hB.lt; have p5 := hB5.cell 4; have z5 := hb5b.size; have hd : ∀ g ∈ v.fp, g ∉ blkOf A' ∧ g ∉ elFp es := (fun g hg => ⟨fun h2 => by have := (row_lt hR.row h2).2; have := (hv2.2 g hg).1; omega, fun h2 => by have := hR.own.lt h2; have := (hv2.2 g hg).1; omega⟩))
        | (at_builtin; refine app_val rfl _ _ rfl hR5 rfl (by first | rfl | simp) rfl hv3 (hv4.mono (by omega)) hd (by omega) (by omega) ?_; intro A6 c6 w6 h6 hb6 hg6; have hB6 := hB5.below hb6 (Nat.lt_succ_self _); have p6 := hB6.cell 4; have q6 := hB6.frozen 4))
      have hf7 := (Fr.refl [w.heap.size + 2] w6).setCell (p := ⟨w.heap.size + 2, 4, none⟩) (by simp) (.slice A6 (j + 1) c6)
      have hR7 := h6.fr hf7 (fun g hg hg2 => by rw [List.mem_singleton] at hg2; have := (row_lt h6.row hg).1; omega) (fun g hg hg2 => by rw [List.mem_singleton] at hg2; have := (h6.own.2 g hg).1; omega)
      have hB7 : Blk (w6.setCell ⟨w.heap.size + 2, 4, none⟩ (.slice A6 (j + 1) c6)) (w.heap.size + 2) 26 #[.int .i64 k, .int .i64 n, .int .i64 x, .string s, .slice A6 (j + 1) c6] := by simpa using hB6.set_ 4 (.slice A6 (j + 1) c6)
      have hb7 := ((hb.trans (hb5b.mono (by omega))).trans (hb6.mono (by omega))).setCell (p := ⟨w.heap.size + 2, 4, none⟩) (Nat.le_refl _) (.slice A6 (j + 1) c6)
      clear hR hR5 hd hv1 hv2 hv3 hv4 hb5 hb5b hg6 hb6 h6 hB hB5 hB6 p4 q4 p5 p6 q6 hc1 hf1 hih
      go_roundg f
      case measure => omega
      case rel => exact ⟨j + 1, c6, A6, _, by omega, by go_num, by rw [List.take_succ_eq_append_getElem hj]; exact hR7, hB7, hb7⟩
    · obtain rfl : j = en := by omega
      rw [List.take_of_length_le (by omega)] at hR
      have p0 := hB.cell 0
      have p1 := hB.cell 1
      have p2 := hB.cell 2
      have p3 := hB.cell 3
      clear ih
      go_wp2_with fail
      obtain ⟨fp, f1, f2, f3⟩ := hR.list hR.cap.1 hR.cap.2
      have hn2 : w.heap.size + 1 ∉ fp := fun hx => by have := (f2.2 _ hx).1; omega
      have hblk : Blk (set5 wr (w.heap.size + 1) 0 ⟨k, n, x, s, l⟩ ⟨A', j, c', fp⟩) (w.heap.size + 1) 26 _ :=
        Blk.five_ (Blk.below (by simpa using Blk.new (w.alloc (.cells #[.int .i64 k, .int .i64 n, .int .i64 x, .string s, .slice eA j ec] 26)) 26 #[.int .i64 0, .int .i64 0, .int .i64 0, .string ⟨#[]⟩, .slice none 0 0]) hb (by omega)) ⟨k, n, x, s, l⟩ ⟨A', j, c', fp⟩
      have r1 : LsAt (set5 wr (w.heap.size + 1) 0 ⟨k, n, x, s, l⟩ ⟨A', j, c', fp⟩) l ⟨A', j, c', fp⟩ := f1.set5_ hn2
      have r2 : Own (set5 wr (w.heap.size + 1) 0 ⟨k, n, x, s, l⟩ ⟨A', j, c', fp⟩) w.heap.size fp := Own.mono (f2.set5_ hn2) (by omega)
      have r3 : Below w.heap.size w (set5 wr (w.heap.size + 1) 0 ⟨k, n, x, s, l⟩ ⟨A', j, c', fp⟩) := below_set5 hk (by omega)
      exact bodyPost_ret (results_blk Tryz.results25 Tryz.isAgg26 (by exact Tryz.sizeOf26) rfl hblk) rfl ⟨⟨A', j, c', fp⟩, rfl, r1, r2, r3⟩
end Go.Proofs.YtmnlkedacnemcaaGreatDoor

namespace Go.Proofs.YtmnlkedacnemcaaGreatDoor
open Go.RowKit

def stC : List (Int × Bool) → List Value
  | [] => []
  | p :: ps => .int .i64 p.1 :: .bool p.2 :: stC ps
theorem stC_len : ∀ ps : List (Int × Bool), (stC ps).length = ps.length * 2
  | [] => rfl
  | p :: ps => by simp only [stC, List.length_cons, stC_len ps]; omega
theorem stC_get : ∀ (ps : List (Int × Bool)) (j : Nat) (h : j < ps.length), (stC ps)[j * 2]? = some (.int .i64 ps[j].1) ∧ (stC ps)[j * 2 + 1]? = some (.bool ps[j].2)
  | [], j, h => by cases h
  | p :: ps, 0, h => ⟨rfl, rfl⟩
  | p :: ps, j + 1, h => by
    have ih := stC_get ps j (by simpa using h)
    have e : ∀ i, (stC (p :: ps))[(j + 1) * 2 + i]? = (stC ps)[j * 2 + i]? := fun i => by
      rw [show (j + 1) * 2 + i = (j * 2 + i) + 1 + 1 by omega]
      rfl
    exact ⟨(e 0).trans ih.1, (e 1).trans ih.2⟩
theorem stC_app : ∀ (a b : List (Int × Bool)), stC (a ++ b) = stC a ++ stC b
  | [], b => rfl
  | p :: a, b => by simp only [List.cons_append, stC, stC_app a b]
theorem stC_set : ∀ (ps : List (Int × Bool)) (j : Nat) (q : Int × Bool), j < ps.length → ((stC ps).set (j * 2) (.int .i64 q.1)).set (j * 2 + 1) (.bool q.2) = stC (ps.set j q)
  | [], j, q, h => by cases h
  | p :: ps, 0, q, h => rfl
  | p :: ps, j + 1, q, h => by
    have ih := stC_set ps j q (by simpa using h)
    rw [show (j + 1) * 2 = j * 2 + 1 + 1 by omega, show j * 2 + 1 + 1 + 1 = (j * 2 + 1) + 1 + 1 by omega]
    simp only [stC, List.set_cons_succ, ih]
/-- Steps that lie in memory. -/
theorem Sl.stp {w : World} {B n c : Nat} {A : Option Addr} {ps : List (Int × Bool)} (h : Sl w B 2 A n c (stC ps)) {j : Nat} (hj : j < n) :
    ∃ g o, ∃ hl : j < ps.length, A = some ⟨g, o, none⟩ ∧ g < B ∧ w.cell? ⟨g, o + j * 2, none⟩ = some (.int .i64 ps[j].1) ∧ w.cell? ⟨g, o + j * 2 + 1, none⟩ = some (.bool ps[j].2) := by
  have hl : j < ps.length := by have := h.len; rw [stC_len] at this; omega
  obtain ⟨g, o, e, hg, hc⟩ := h.at_ (by omega)
  exact ⟨g, o, hl, e, hg, hc _ _ (stC_get ps j hl).1, by rw [Nat.add_assoc]; exact hc _ _ (stC_get ps j hl).2⟩
theorem Sl.stlen {w : World} {B n c : Nat} {A : Option Addr} {ps : List (Int × Bool)} (h : Sl w B 2 A n c (stC ps)) : ps.length = n := by have := h.len; rw [stC_len] at this; omega
end Go.Proofs.YtmnlkedacnemcaaGreatDoor
