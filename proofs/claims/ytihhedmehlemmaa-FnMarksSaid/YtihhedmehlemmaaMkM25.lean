/- Copies of trees: copyVal and the reference's l6Copy. Leaf values (spec). Written by gen/markdraws.py. Four hexadecimal digits, plain: what the reference reads, and what is read of the text in small letters. No function of the program in sight. -/
import Derived.Test.YtihhedmehlemmaaMkRowVal
import Derived.Deep.LoopGhost
import Derived.Test.YtihhedmehlemmaaMkU8
import Derived.Lib.MapLaws
import Derived.Lib.TrimAscii
import Derived.Laws.RangeAny
import Derived.Shelf.Unicode.CaseLaid
set_option linter.unusedVariables false
set_option maxRecDepth 100000
set_option linter.unusedSimpArgs false
namespace Go.Proofs.Ytihhedmehlemmaa
open Go.RowKit

theorem take_all_len {l : List Tr} {j n : Nat} (h : l.length = n) (hj : n ≤ j) : l.take j = l := List.take_of_length_le (by omega)
theorem bcell_ {B : Nat} {w w1 : World} (h : Below B w w1) (hB : w.heap.size = B) : (∀ b o, b < B → w1.cell? ⟨b, o, none⟩ = w.cell? ⟨b, o, none⟩) ∧ (∀ b o, b < B → w1.frozen? ⟨b, o, none⟩ = w.frozen? ⟨b, o, none⟩) := by
  subst hB; exact bcell h
/-- What a copy says of a tree: its list lies in new memory. -/
def CopyOf (w w' : World) (r : Ending) (t : Tr) : Prop := ∃ u : El, r = .returned (trV t u) ∧ LsAt w' t.l u ∧ Own w' w.heap.size u.fp ∧ Below w.heap.size w w'
def CpSays (t : Tr) : Prop := ∀ (e : El) (w : World), LsAt w t.l e → e.lt w.heap.size → t.sz ≤ 1099511627776 → Calls Try.prog 35 #[trV t e] w fun r w' => CopyOf w w' r t
set_option maxHeartbeats 1600000 in
theorem i_copyVal (t : Tr) : CpSays t := by
  refine Tr.ind (P := CpSays) (fun t ih => ?_) t
  intro e w hl hel hm
  have hsz := t.sz_eq
  obtain ⟨k, n, x, s, l⟩ := t
  obtain ⟨eA, en, ec, efp⟩ := e
  simp only at hsz ih hl
  have hen : l.length = en := hl.len
  have hszl := szT_le l 0
  have hec : en ≤ ec ∧ ec ≤ maxLen := ⟨((lsAt_iff _ _).1 hl).2.1, ((lsAt_iff _ _).1 hl).2.2.1⟩
  have k2 := Below.two w (.cells #[.int .i64 k, .int .i64 n, .int .i64 x, .string s, .slice eA en ec] 26) (.cells #[.int .i64 0, .int .i64 0, .int .i64 0, .string ⟨#[]⟩, .slice none 0 0] 26)
  go_enter Try.func35, Try.ntmps35
  go_wp2_with fail
  go_loopg [3, 9] en (fun f y z wr => ∃ (j c' : Nat) (A' : Option Addr) (es : List El), j + f = en ∧ y = .slice A' j c' ∧ z = .int .i64 j ∧ RV wr (w.heap.size + 2) A' j c' (l.take j) es ∧ Below (w.heap.size + 2) ((w.alloc (.cells #[.int .i64 k, .int .i64 n, .int .i64 x, .string s, .slice eA en ec] 26)).alloc (.cells #[.int .i64 0, .int .i64 0, .int .i64 0, .string ⟨#[]⟩, .slice none 0 0] 26)) wr)
  case atStart => exact ⟨0, 0, none, [], by omega, rfl, rfl, RV.nil_ _ _, Below.refl _ _⟩
  case round =>
    obtain ⟨j, c', A', es, hjf, rfl, rfl, hR, hb⟩ := hrel
    have hk : Below w.heap.size w wr := k2.trans (hb.mono (by omega))
    have hz : w.heap.size + 2 ≤ wr.heap.size := by have := hb.size; simp at this; omega
    by_cases hlt : j < en
    · obtain ⟨f, rfl⟩ : ∃ f, gk = f + 1 := ⟨gk - 1, by omega⟩
      obtain ⟨g, o, u, hj, hAe, hgm, ⟨c0, c1, c2, c3, c4⟩, hch, hsub⟩ := (hl.below hel hk).elem hlt
      have hAe : eA = some ⟨g, o, none⟩ := hAe
      subst hAe
      have hul : u.lt w.heap.size := fun x hx => hel x (hsub x hx)
      have hz1 := szT_succ hj
      have hz2 := szT_le l (j + 1)
      have hih := fun (ob : Obj) => ih l[j] (List.getElem_mem hj) u (wr.alloc ob) (hch.below (hul.mono hk.size) (Below.one wr ob)) (hul.mono (Nat.le_trans hk.size (Below.one wr ob).size)) (by omega)
      clear ih hch
      go_wp2_with (first
        | (go_at_call 35; refine (hih _).mono ?_; rintro r w5 ⟨v, rfl, hv1, hv2, hb5⟩; have hR5 := (hR.below (Below.one wr _)).below hb5; have zz := (Below.one wr (.cells #[.int .i64 l[j].k, .int .i64 l[j].n, .int .i64 l[j].x, .string l[j].s, .slice u.A u.n u.c] 26)).size; have z5 := hb5.size; have hd : ∀ g ∈ v.fp, g ∉ blkOf A' ∧ g ∉ elFp es := (fun g hg => ⟨fun h2 => by have := (row_lt hR.row h2).2; have := (hv2.2 g hg).1; omega, fun h2 => by have := hR.own.lt h2; have := (hv2.2 g hg).1; omega⟩))
        | (at_builtin; refine app_val rfl _ _ rfl hR5 rfl (by first | rfl | simp) rfl hv1 (hv2.mono (by omega)) hd (by omega) (by omega) ?_; intro A6 c6 w6 h6 hb6 hg6))
      have hb7 := ((hb.trans ((Below.one wr _).mono hz)).trans (hb5.mono (Nat.le_trans hz zz))).trans hb6
      clear hih hR hR5 hd hv1 hv2 hb5 hg6 hb6
      go_roundg f
      case measure => omega
      case rel => exact ⟨j + 1, c6, A6, _, by omega, rfl, by go_num, by rw [List.take_succ_eq_append_getElem hj]; exact h6, hb7⟩
    · obtain rfl : j = en := by omega
      rw [List.take_of_length_le (by omega)] at hR
      obtain ⟨hc1, hf1⟩ := bcell_ hb (by simp)
      clear ih
      go_wp2_with fail
      obtain ⟨fp, f1, f2, f3⟩ := hR.list hR.cap.1 hR.cap.2
      have hn1 : w.heap.size ∉ fp := fun hx => by have := (f2.2 _ hx).1; omega
      have hn2 : w.heap.size + 1 ∉ fp := fun hx => by have := (f2.2 _ hx).1; omega
      have hblk : Blk (set5 (wr.setCell ⟨w.heap.size, 4, none⟩ (.slice A' j c')) (w.heap.size + 1) 0 ⟨k, n, x, s, l⟩ ⟨A', j, c', fp⟩) (w.heap.size + 1) 26 _ :=
        Blk.five_ (Blk.far (Blk.below (by simpa using Blk.new (w.alloc (.cells #[.int .i64 k, .int .i64 n, .int .i64 x, .string s, .slice eA j ec] 26)) 26 #[.int .i64 0, .int .i64 0, .int .i64 0, .string ⟨#[]⟩, .slice none 0 0]) hb (by omega)) (by simp) _) ⟨k, n, x, s, l⟩ ⟨A', j, c', fp⟩
      have r1 : LsAt (set5 (wr.setCell ⟨w.heap.size, 4, none⟩ (.slice A' j c')) (w.heap.size + 1) 0 ⟨k, n, x, s, l⟩ ⟨A', j, c', fp⟩) l ⟨A', j, c', fp⟩ := (f1.far (p := ⟨w.heap.size, 4, none⟩) hn1 _).set5_ hn2
      have r2 : Own (set5 (wr.setCell ⟨w.heap.size, 4, none⟩ (.slice A' j c')) (w.heap.size + 1) 0 ⟨k, n, x, s, l⟩ ⟨A', j, c', fp⟩) w.heap.size fp := Own.mono ((f2.far (p := ⟨w.heap.size, 4, none⟩) hn1 _).set5_ hn2) (by omega)
      have r3 : Below w.heap.size w (set5 (wr.setCell ⟨w.heap.size, 4, none⟩ (.slice A' j c')) (w.heap.size + 1) 0 ⟨k, n, x, s, l⟩ ⟨A', j, c', fp⟩) := below_set5 (hk.setCell (p := ⟨w.heap.size, 4, none⟩) (Nat.le_refl _) _) (by omega)
      exact bodyPost_ret (results_blk Try.results35 Try.isAgg26 (by exact Try.sizeOf26) rfl hblk) rfl ⟨⟨A', j, c', fp⟩, rfl, r1, r2, r3⟩
def CqSays (t : Tr) : Prop := ∀ (e : El) (w : World), LsAt w t.l e → e.lt w.heap.size → t.sz ≤ 1099511627776 → Calls Try.prog 37 #[trV t e] w fun r w' => CopyOf w w' r t
set_option maxHeartbeats 1600000 in
theorem s_l6Copy (t : Tr) : CqSays t := by
  refine Tr.ind (P := CqSays) (fun t ih => ?_) t
  intro e w hl hel hm
  have hsz := t.sz_eq
  obtain ⟨k, n, x, s, l⟩ := t
  obtain ⟨eA, en, ec, efp⟩ := e
  simp only at hsz ih hl
  have hen : l.length = en := hl.len
  have hszl := szT_le l 0
  have hec : en ≤ ec ∧ ec ≤ maxLen := ⟨((lsAt_iff _ _).1 hl).2.1, ((lsAt_iff _ _).1 hl).2.2.1⟩
  have k2 := Below.two w (.cells #[.int .i64 k, .int .i64 n, .int .i64 x, .string s, .slice eA en ec] 26) (.cells #[.int .i64 0, .int .i64 0, .int .i64 0, .string ⟨#[]⟩, .slice none 0 0] 26)
  go_enter Try.func37, Try.ntmps37
  go_wp2_with fail
  go_loopg [4] en (fun f z wr => ∃ (j c' : Nat) (A' : Option Addr) (es : List El), j + f = en ∧ z = .int .i64 j ∧ RV wr (w.heap.size + 3) A' j c' (l.take j) es ∧ Blk wr (w.heap.size + 2) 26 #[.int .i64 k, .int .i64 n, .int .i64 x, .string s, .slice A' j c'] ∧ Below (w.heap.size + 2) ((w.alloc (.cells #[.int .i64 k, .int .i64 n, .int .i64 x, .string s, .slice eA en ec] 26)).alloc (.cells #[.int .i64 0, .int .i64 0, .int .i64 0, .string ⟨#[]⟩, .slice none 0 0] 26)) wr)
  case atStart =>
    refine ⟨0, 0, some ⟨w.heap.size + 3, 0, none⟩, [], by omega, rfl, ?_, ?_, ?_⟩
    · exact RV.new _ (w.heap.size + 3) (by simp)
    · exact Blk.alloc (by simpa using Blk.new ((w.alloc (.cells #[.int .i64 k, .int .i64 n, .int .i64 x, .string s, .slice eA en ec] 26)).alloc (.cells #[.int .i64 0, .int .i64 0, .int .i64 0, .string ⟨#[]⟩, .slice none 0 0] 26)) 26 #[.int .i64 k, .int .i64 n, .int .i64 x, .string s, .slice (some ⟨w.heap.size + 3, 0, none⟩) 0 0]) _
    · exact (Below.two _ _ _).mono (by simp)
  case round =>
    obtain ⟨j, c', A', es, hjf, rfl, hR, hB, hb⟩ := hrel
    have hk : Below w.heap.size w wr := k2.trans (hb.mono (by omega))
    have hz : w.heap.size + 3 ≤ wr.heap.size := hB.lt
    obtain ⟨hc1, hf1⟩ := bcell_ hb (by simp)
    have p4 := hB.cell 4
    have q4 := hB.frozen 4
    by_cases hlt : j < en
    · obtain ⟨f, rfl⟩ : ∃ f, gk = f + 1 := ⟨gk - 1, by omega⟩
      obtain ⟨g, o, u, hj, hAe, hgm, ⟨c0, c1, c2, c3, c4⟩, hch, hsub⟩ := (hl.below hel hk).elem hlt
      have hAe : eA = some ⟨g, o, none⟩ := hAe
      subst hAe
      have hul : u.lt w.heap.size := fun x hx => hel x (hsub x hx)
      have hz1 := szT_succ hj
      have hz2 := szT_le l (j + 1)
      have hih := ih l[j] (List.getElem_mem hj) u wr hch (hul.mono hk.size) (by omega)
      clear ih hch
      go_wp2_with (first
        | (go_at_call 37; refine hih.mono ?_; rintro r w5 ⟨v, rfl, hv1, hv2, hb5⟩; have hb5b := hb5.up (Below.one w5 (.cells #[.int .i64 l[j].k, .int .i64 l[j].n, .int .i64 l[j].x, .string l[j].s, .slice v.A v.n v.c] 26)); have hR5 := hR.below hb5b; have hv3 := hv1.below (fun g hg => hv2.lt hg) (Below.one w5 (.cells #[.int .i64 l[j].k, .int .i64 l[j].n, .int .i64 l[j].x, .string l[j].s, .slice v.A v.n v.c] 26)); have hv4 := hv2.below (fun g hg => hv2.lt hg) (Below.one w5 (.cells #[.int .i64 l[j].k, .int .i64 l[j].n, .int .i64 l[j].x, .string l[j].s, .slice v.A v.n v.c] 26)); have hB5 := hB.below hb5b hB.lt; have p5 := hB5.cell 4; have z5 := hb5b.size; have hd : ∀ g ∈ v.fp, g ∉ blkOf A' ∧ g ∉ elFp es := (fun g hg => ⟨fun h2 => by have := (row_lt hR.row h2).2; have := (hv2.2 g hg).1; omega, fun h2 => by have := hR.own.lt h2; have := (hv2.2 g hg).1; omega⟩))
        | (at_builtin; refine app_val rfl _ _ rfl hR5 rfl (by first | rfl | simp) rfl hv3 (hv4.mono (by omega)) hd (by omega) (by omega) ?_; intro A6 c6 w6 h6 hb6 hg6; have hB6 := hB5.below hb6 (Nat.lt_succ_self _); have p6 := hB6.cell 4; have q6 := hB6.frozen 4))
      have hf7 := (Fr.refl [w.heap.size + 2] w6).setCell (p := ⟨w.heap.size + 2, 4, none⟩) (by simp) (.slice A6 (j + 1) c6)
      have hR7 := h6.fr hf7 (fun g hg hg2 => by rw [List.mem_singleton] at hg2; have := (row_lt h6.row hg).1; omega) (fun g hg hg2 => by rw [List.mem_singleton] at hg2; have := (h6.own.2 g hg).1; omega)
      have hB7 : Blk (w6.setCell ⟨w.heap.size + 2, 4, none⟩ (.slice A6 (j + 1) c6)) (w.heap.size + 2) 26 #[.int .i64 k, .int .i64 n, .int .i64 x, .string s, .slice A6 (j + 1) c6] := by simpa using hB6.set_ 4 (.slice A6 (j + 1) c6)
      have hb7 := ((hb.trans (hb5b.mono (by omega))).trans (hb6.mono (by omega))).setCell (p := ⟨w.heap.size + 2, 4, none⟩) (Nat.le_refl _) (.slice A6 (j + 1) c6)
      clear hR hR5 hd hv1 hv2 hv3 hv4 hb5 hb5b hg6 hb6 h6 hB hB5 hB6 p4 q4 p5 p6 q6 hc1 hf1 hih
      go_roundg f
      case measure => omega
      case rel => exact ⟨j + 1, c6, A6, _, by omega, by go_num, by rw [List.take_succ_eq_append_getElem hj]; exact hR7, hB7, hb7⟩
    · obtain rfl : j = en := by omega
      rw [List.take_of_length_le (by omega)] at hR
      have p0 := hB.cell 0
      have p1 := hB.cell 1
      have p2 := hB.cell 2
      have p3 := hB.cell 3
      clear ih
      go_wp2_with fail
      obtain ⟨fp, f1, f2, f3⟩ := hR.list hR.cap.1 hR.cap.2
      have hn2 : w.heap.size + 1 ∉ fp := fun hx => by have := (f2.2 _ hx).1; omega
      have hblk : Blk (set5 wr (w.heap.size + 1) 0 ⟨k, n, x, s, l⟩ ⟨A', j, c', fp⟩) (w.heap.size + 1) 26 _ :=
        Blk.five_ (Blk.below (by simpa using Blk.new (w.alloc (.cells #[.int .i64 k, .int .i64 n, .int .i64 x, .string s, .slice eA j ec] 26)) 26 #[.int .i64 0, .int .i64 0, .int .i64 0, .string ⟨#[]⟩, .slice none 0 0]) hb (by omega)) ⟨k, n, x, s, l⟩ ⟨A', j, c', fp⟩
      have r1 : LsAt (set5 wr (w.heap.size + 1) 0 ⟨k, n, x, s, l⟩ ⟨A', j, c', fp⟩) l ⟨A', j, c', fp⟩ := f1.set5_ hn2
      have r2 : Own (set5 wr (w.heap.size + 1) 0 ⟨k, n, x, s, l⟩ ⟨A', j, c', fp⟩) w.heap.size fp := Own.mono (f2.set5_ hn2) (by omega)
      have r3 : Below w.heap.size w (set5 wr (w.heap.size + 1) 0 ⟨k, n, x, s, l⟩ ⟨A', j, c', fp⟩) := below_set5 hk (by omega)
      exact bodyPost_ret (results_blk Try.results37 Try.isAgg26 (by exact Try.sizeOf26) rfl hblk) rfl ⟨⟨A', j, c', fp⟩, rfl, r1, r2, r3⟩
end Go.Proofs.Ytihhedmehlemmaa

namespace Go.Proofs.Ytihhedmehlemmaa
open Go.RowKit

/-- A value without elements. -/
def leafTr (k n x : Int) (s : ByteArray) : Tr := ⟨k, n, x, s, []⟩
def numT (n x : Int) : Tr := if x = 0 then leafTr 3 n 0 ⟨#[]⟩ else leafTr 6 n x ⟨#[]⟩
theorem s_IntVal (n : Int) (w : World) : Calls Try.prog 69 #[.int .i64 n] w fun r w' => r = .returned (trV (leafTr 3 n 0 ⟨#[]⟩) ⟨none, 0, 0, []⟩) ∧ Below w.heap.size w w' := by
  go_enter Try.func69, Try.ntmps69
  go_wp2_with fail
  exact bodyPost_ret (results_blk Try.results69 Try.isAgg26 (by exact Try.sizeOf26) rfl (Blk.new w _ _)) rfl ⟨rfl, Below.one _ _⟩
theorem s_TextVal (s : ByteArray) (w : World) : Calls Try.prog 75 #[.string s] w fun r w' => r = .returned (trV (leafTr 7 0 0 s) ⟨none, 0, 0, []⟩) ∧ Below w.heap.size w w' := by
  go_enter Try.func75, Try.ntmps75
  go_wp2_with fail
  exact bodyPost_ret (results_blk Try.results75 Try.isAgg26 (by exact Try.sizeOf26) rfl (Blk.new w _ _)) rfl ⟨rfl, Below.one _ _⟩
set_option maxHeartbeats 1000000 in
theorem s_NumberVal (n x : Int) (w : World) : Calls Try.prog 73 #[.agg #[.int .i64 n, .int .i64 x]] w fun r w' => r = .returned (trV (numT n x) ⟨none, 0, 0, []⟩) ∧ Below w.heap.size w w' := by
  have k2 := Below.two w (.cells #[.int .i64 n, .int .i64 x] 100) (.cells #[.int .i64 0, .int .i64 0, .int .i64 0, .string ⟨#[]⟩, .slice none 0 0] 26)
  have hZ : Blk ((w.alloc (.cells #[.int .i64 n, .int .i64 x] 100)).alloc (.cells #[.int .i64 0, .int .i64 0, .int .i64 0, .string ⟨#[]⟩, .slice none 0 0] 26)) (w.heap.size + 1) 26 #[.int .i64 0, .int .i64 0, .int .i64 0, .string ⟨#[]⟩, .slice none 0 0] := by
    simpa using Blk.new (w.alloc (.cells #[.int .i64 n, .int .i64 x] 100)) 26 #[.int .i64 0, .int .i64 0, .int .i64 0, .string ⟨#[]⟩, .slice none 0 0]
  by_cases hx : x = 0
  · subst hx
    have e : numT n 0 = leafTr 3 n 0 ⟨#[]⟩ := by unfold numT; rw [if_pos rfl]
    rw [e]
    clear e
    have hiv := fun w1 => s_IntVal n w1
    generalize leafTr 3 n 0 ⟨#[]⟩ = u at hiv ⊢
    go_enter Try.func73, Try.ntmps73
    go_wp2_with (go_at_call 69; refine (hiv _).mono ?_; rintro r w1 ⟨rfl, hb1⟩; have BZ := hZ.below hb1 hZ.lt; obtain ⟨x0, x1, x2, x3, x4, ⟨s0, t0⟩, ⟨s1, t1⟩, ⟨s2, t2⟩, ⟨s3, t3⟩, s4, t4⟩ := BZ.five (o := 0) (by simp) (.int .i64 u.k) (.int .i64 u.n) (.int .i64 u.x) (.string u.s))
    have hblk : Blk (set5 w1 (w.heap.size + 1) 0 u ⟨none, 0, 0, []⟩) (w.heap.size + 1) 26 _ := Blk.five_ BZ u ⟨none, 0, 0, []⟩
    have r3 : Below w.heap.size w (set5 w1 (w.heap.size + 1) 0 u ⟨none, 0, 0, []⟩) := below_set5 (k2.up hb1) (by omega)
    exact bodyPost_ret (results_blk Try.results73 Try.isAgg26 (by exact Try.sizeOf26) rfl hblk) rfl ⟨rfl, r3⟩
  · have hz : (x == 0) = false := by simpa using hx
    have e : numT n x = leafTr 6 n x ⟨#[]⟩ := by unfold numT; rw [if_neg hx]
    rw [e]
    clear e hx
    have hZ2 : Blk ((w.alloc (.cells #[.int .i64 n, .int .i64 x] 100)).alloc (.cells #[.int .i64 6, .int .i64 n, .int .i64 x, .string ⟨#[]⟩, .slice none 0 0] 26)) (w.heap.size + 1) 26 #[.int .i64 6, .int .i64 n, .int .i64 x, .string ⟨#[]⟩, .slice none 0 0] := by
      simpa using Blk.new (w.alloc (.cells #[.int .i64 n, .int .i64 x] 100)) 26 #[.int .i64 6, .int .i64 n, .int .i64 x, .string ⟨#[]⟩, .slice none 0 0]
    go_enter Try.func73, Try.ntmps73
    go_wp2_with fail
    exact bodyPost_ret (results_blk Try.results73 Try.isAgg26 (by exact Try.sizeOf26) rfl hZ2) rfl ⟨rfl, Below.two _ _ _⟩
theorem s_l6FltVal (m e : Int) (w : World) : Calls Try.prog 71 #[.agg #[.int .i64 m, .int .i64 e]] w fun r w' => r = .returned (trV (leafTr 4 m e ⟨#[]⟩) ⟨none, 0, 0, []⟩) ∧ Below w.heap.size w w' := by
  have hZ2 : Blk ((w.alloc (.cells #[.int .i64 m, .int .i64 e] 73)).alloc (.cells #[.int .i64 4, .int .i64 m, .int .i64 e, .string ⟨#[]⟩, .slice none 0 0] 26)) (w.heap.size + 1) 26 #[.int .i64 4, .int .i64 m, .int .i64 e, .string ⟨#[]⟩, .slice none 0 0] := by
    simpa using Blk.new (w.alloc (.cells #[.int .i64 m, .int .i64 e] 73)) 26 #[.int .i64 4, .int .i64 m, .int .i64 e, .string ⟨#[]⟩, .slice none 0 0]
  go_enter Try.func71, Try.ntmps71
  go_wp2_with fail
  exact bodyPost_ret (results_blk Try.results71 Try.isAgg26 (by exact Try.sizeOf26) rfl hZ2) rfl ⟨rfl, Below.two _ _ _⟩
end Go.Proofs.Ytihhedmehlemmaa

namespace Go.Proofs.Ytihhedmehlemmaa
open Go.RowKit

/-- The number of a digit; -1: it is none. -/
def digV (b : UInt8) : Int := if 65 ≤ b.toNat ∧ b.toNat ≤ 70 then (b.toNat : Int) - 55 else if 48 ≤ b.toNat ∧ b.toNat ≤ 57 then (b.toNat : Int) - 48 else if 97 ≤ b.toNat ∧ b.toNat ≤ 102 then (b.toNat : Int) - 87 else -1
/-- The number of a small digit; -1: it is none. -/
def lowV (b : UInt8) : Int := if 48 ≤ b.toNat ∧ b.toNat ≤ 57 then (b.toNat : Int) - 48 else if 97 ≤ b.toNat ∧ b.toNat ≤ 102 then (b.toNat : Int) - 87 else -1
def numG (f : UInt8 → Int) : List UInt8 → Int → Int × Bool
  | [], n => (n, true)
  | b :: l, n => if f b < 0 then (0, false) else numG f l (16 * n + f b)
theorem lowV_bd (b : UInt8) : -1 ≤ lowV b ∧ lowV b ≤ 15 := by unfold lowV; (repeat' split) <;> omega
theorem digV_bd (b : UInt8) : -1 ≤ digV b ∧ digV b ≤ 15 := by unfold digV; (repeat' split) <;> omega
theorem lowV_high {b : UInt8} (h : 103 ≤ b.toNat) : lowV b = -1 := by unfold lowV; (repeat' split) <;> omega
theorem digV_high {b : UInt8} (h : 103 ≤ b.toNat) : digV b = -1 := by unfold digV; (repeat' split) <;> omega
theorem enc_one {r : Int} (h0 : 0 ≤ r) (h1 : r ≤ 127) : Lib.encodeRune r = [UInt8.ofNat r.toNat] := by
  unfold Lib.encodeRune
  rw [Lib.encodeRuneZ_one h0 h1]
  rfl
theorem ofNat_toNat' {n : Nat} (h : n < 256) : (UInt8.ofNat n).toNat = n := by simp; omega
theorem lowV_lower (b : UInt8) (h : b.toNat < 128) : 0 ≤ Lib.toLowerU (b.toNat : Int) ∧ Lib.encodeRune (Lib.toLowerU (b.toNat : Int)) = [UInt8.ofNat (Lib.toLowerU (b.toNat : Int)).toNat] ∧ lowV (UInt8.ofNat (Lib.toLowerU (b.toNat : Int)).toNat) = digV b := by
  have e : Lib.toLowerU (b.toNat : Int) = if 65 ≤ b.toNat ∧ b.toNat ≤ 90 then (b.toNat : Int) + 32 else b.toNat := by
    unfold Lib.toLowerU
    rw [if_pos (by omega)]
    split <;> split <;> omega
  have hr : 0 ≤ Lib.toLowerU (b.toNat : Int) ∧ Lib.toLowerU (b.toNat : Int) ≤ 127 := by rw [e]; split <;> omega
  refine ⟨hr.1, enc_one hr.1 hr.2, ?_⟩
  unfold lowV digV
  rw [ofNat_toNat' (by omega), e]
  (repeat' split) <;> omega
/-- Of each row of the case table: what lies beyond ASCII stays beyond the hexadecimal digits in small letters. -/
def rowHigh (x : Lib.CaseRow) : Bool := decide (x.2.1 < 128) || (decide (x.delta 1 > 1114111) && decide (103 ≤ x.1)) || (decide (x.delta 1 ≤ 1114111) && decide (103 ≤ (max 128 (x.1 : Int)) + x.delta 1))
set_option maxRecDepth 1000000 in
theorem rowsHigh : Lib.caseT.all rowHigh = true := by decide
theorem lower_high {r : Int} (h : 128 ≤ r) : 103 ≤ Lib.toLowerU r := by
  unfold Lib.toLowerU
  rw [if_neg (by omega)]
  unfold Lib.toR Lib.lookupGo
  cases hi : Lib.lookupIdx Lib.caseA r (Lib.caseA.size + 1) 0 Lib.caseA.size with
  | none => simp; omega
  | some i =>
    obtain ⟨hil, hlo, hhi⟩ := Lib.lookupIdx_some Lib.caseA r _ _ _ i hi
    have hm : Lib.caseA.getD i (0, 0, 0, 0, 0) ∈ Lib.caseT := by
      unfold Lib.caseA at hil ⊢
      simp only [List.size_toArray] at hil
      simp [Array.getD, hil]
    have hx := List.all_eq_true.1 rowsHigh _ hm
    simp only [Option.map_some]
    generalize Lib.caseA.getD i (0, 0, 0, 0, 0) = x at hx hlo hhi ⊢
    simp only [rowHigh, Bool.or_eq_true, Bool.and_eq_true, decide_eq_true_eq] at hx
    unfold Lib.convertR
    split <;> omega
theorem encode_high {r : Int} (h : 103 ≤ r) : ∃ b l, Lib.encodeRune r = b :: l ∧ 103 ≤ b.toNat := by
  have hb : ∀ z : Int, 103 ≤ z → z < 256 → 103 ≤ (z.toNat.toUInt8).toNat := by
    intro z h1 h2
    have : (z.toNat.toUInt8).toNat = z.toNat := by show (UInt8.ofNat z.toNat).toNat = z.toNat; exact ofNat_toNat' (by omega)
    omega
  unfold Lib.encodeRune Lib.encodeRuneZ
  (repeat' split)
  all_goals exact ⟨_, _, rfl, hb _ (by omega) (by omega)⟩
/-- The first byte of the text in small letters: a digit where the text has one, and then the rest follows. -/
theorem lower_step (b : UInt8) (l : List UInt8) : ∃ c m, Lib.toLowerD (b :: l) = c :: m ∧ lowV c = digV b ∧ (0 ≤ lowV c → m = Lib.toLowerD l) := by
  have hs := Lib.mapD_step Lib.toLowerU (b :: l) (by simp)
  unfold Lib.toLowerD
  rw [hs]
  by_cases hb : b.toNat < 128
  · rw [Lib.decodeL_ascii b l hb]
    obtain ⟨h0, h1, h2⟩ := lowV_lower b hb
    simp only []
    rw [if_pos h0, h1]
    exact ⟨_, _, rfl, h2, fun _ => rfl⟩
  · have hd : 128 ≤ (Lib.decodeL (b :: l)).1 := (decode_high ⟨(b :: l).toArray⟩ 0 (by show 0 < (b :: l).toArray.size; simp) (by show 128 ≤ b.toNat; omega)).1
    have hl := lower_high (r := ((Lib.decodeL (b :: l)).1 : Int)) (by omega)
    obtain ⟨c, m, he, hc⟩ := encode_high hl
    rw [if_pos (by omega), he]
    refine ⟨c, _, rfl, ?_, fun h => ?_⟩
    · rw [lowV_high hc, digV_high (by omega)]
    · rw [lowV_high hc] at h; omega
theorem lower_nil : Lib.toLowerD [] = [] := rfl
/-- The number of the four digits at an offset; none: they aren't there. -/
def fourL (l : List UInt8) (i : Int) : Int × Bool := if i < 0 ∨ (l.length : Int) - 4 < i then (0, false) else numG digV ((l.drop i.toNat).take 4) 0
end Go.Proofs.Ytihhedmehlemmaa
