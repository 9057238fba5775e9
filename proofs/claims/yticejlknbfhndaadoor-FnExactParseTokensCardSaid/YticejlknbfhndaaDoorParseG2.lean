/- The program's reader: value at a token. The program's reader: value at an opening sign. The program's reader: value at null, true, false. The program's reader: value at a word, at nothing it knows. The program's reader: value at a number. The program's reader: value and elements, whole. -/
import Derived.Test.YticejlknbfhndaaDoorParseG1
import Derived.Deep.Cut
set_option linter.unusedVariables false
set_option maxRecDepth 100000
set_option linter.unusedSimpArgs false
namespace Go.Proofs.YticejlknbfhndaaDoor
open Go.RowKit

set_option maxHeartbeats 4000000 in
theorem i_value_text (g : Nat) (A : Option Addr) (n c : Nat) (l : List Tk) (p : Nat) (d : Int) (w : World) (h : TR w g A n c l p 0) (hd : 1 ≤ d) (hj : p < l.length) (hk : l[p].k = 2) :
    Calls Tryd.prog 89 #[.pointer (some ⟨g, 0, none⟩), .int .i64 d] w fun r w' => LeafAt w w' g A n c l (p + 1) 0 (leafTr 7 0 0 l[p].s) r := by
  have hl := h.len
  have hbd := h.bd
  have hp : p < n := by omega
  have k1 := Below.one w (.cells #[.int .i64 0, .int .i64 0, .int .i64 0, .string ⟨#[]⟩, .slice none 0 0] 29)
  have h1 := h.below k1
  have hZ := Blk.new w 29 #[.int .i64 0, .int .i64 0, .int .i64 0, .string ⟨#[]⟩, .slice none 0 0]
  obtain ⟨c0, c1, c2, c3⟩ := h1.cells
  have hgl := h.blk.lt
  have hdd : decide (d < 1) = false := by simp; omega
  have hpd : decide ((n : Int) ≤ (p : Int)) = false := by simp; omega
  have hpd2 : decide (n ≤ p) = false := by simp; omega
  have hpn : (p : Int) < (n : Int) := by omega
  have hwrp : IntKind.i64.wrap (p : Int) = (p : Int) := by rw [IntKind.wrap_i64]; omega
  have hp0 : (0 : Int) ≤ (p : Int) := by omega
  have hfr := Fr.of_below (fp := [g]) k1
  have hb1 : signB l p ⟨#[91]⟩ = false := by rw [signB_at hj, hk]; rfl
  have hb2 : signB l p ⟨#[123]⟩ = false := by rw [signB_at hj, hk]; rfl
  have hk2 : (l[p].k == 2) = true := by simpa using hk
  have HT := fun w1 => i_TextVal l[p].s w1
  obtain ⟨u, hu⟩ : ∃ u, leafTr 7 0 0 l[p].s = u := ⟨_, rfl⟩
  rw [hu] at HT ⊢
  clear hu
  go_enter Tryd.func89, Tryd.ntmps89
  go_wp2_with fail
  go_quiet (fail)
  have hTR := h1.drewN nq
  have hZa := hZ.drewN nq
  replace hfr := hfr.drewN nq
  clear c0 c1 c2 c3 h1 hZ
  generalize (w.alloc (.cells #[.int .i64 0, .int .i64 0, .int .i64 0, .string ⟨#[]⟩, .slice none 0 0] 29)).drewN nq = wa at hTR hZa hfr ⊢
  go_wp2_with fail
  obtain ⟨g2, o, hj', rfl, hg2, q0, q1, q2, q3⟩ := hTR.sl.tok hp
  clear hk
  generalize l[p] = t at q0 q1 q2 q3 hk2 HT
  obtain ⟨d0, d1, d2, d3⟩ := hTR.cells
  have hA := hTR.below (Below.one wa (.cells #[.int .i64 0, .string ⟨#[]⟩, .int .i64 0, .int .i64 0] 60))
  have kA := Below.one wa (.cells #[.int .i64 0, .string ⟨#[]⟩, .int .i64 0, .int .i64 0] 60)
  obtain ⟨e0, e1, e2, e3⟩ := hA.cells
  have r0 : ∀ k (v : Value), wa.cell? ⟨g2, k, none⟩ = some v → (wa.alloc (.cells #[.int .i64 0, .string ⟨#[]⟩, .int .i64 0, .int .i64 0] 60)).cell? ⟨g2, k, none⟩ = some v :=
    fun k v hv => (World.cell?_of_block (a := ⟨g2, k, none⟩) (kA.block g2 (Nat.lt_trans hg2 hTR.blk.lt))).trans hv
  have s0 := r0 _ _ q0
  have s1 := r0 _ _ q1
  have s2 := r0 _ _ q2
  have s3 := r0 _ _ q3
  clear r0
  go_region
  clear q0 q1 q2 q3 s0 s1 s2 s3 d0 d1 d2 d3 e0 e1 e2 e3 hA kA
  have k3 := Below.one wa (.cells #[.int .i64 t.k, .string t.s, .int .i64 t.n, .int .i64 t.x] 60)
  have hZl : w.heap.size < wa.heap.size := hZa.lt
  have hT4 : TR (wa.alloc (.cells #[.int .i64 t.k, .string t.s, .int .i64 t.n, .int .i64 t.x] 60)).drew g (some ⟨g2, o, none⟩) n c l p 0 := ⟨(hTR.below k3).blk, (hTR.below k3).sl.drew, hbd⟩
  have hZ4 := (hZa.below k3 hZl).drew
  have hB4 := (Blk.new wa 60 #[.int .i64 t.k, .string t.s, .int .i64 t.n, .int .i64 t.x]).drew
  have hfr4 : Fr [g] w (wa.alloc (.cells #[.int .i64 t.k, .string t.s, .int .i64 t.n, .int .i64 t.x] 60)).drew := (hfr.trans (Fr.of_below k3)).drew
  have hgl2 : g < wa.heap.size := hTR.blk.lt
  generalize wa.heap.size = b at hZl hB4 hgl2 ⊢
  generalize (wa.alloc (.cells #[.int .i64 t.k, .string t.s, .int .i64 t.n, .int .i64 t.x] 60)).drew = wb at hT4 hZ4 hB4 hfr4 ⊢
  clear hTR hZa hfr k3 wa
  have HA := i_is g _ n c l p 0 ⟨#[91]⟩ wb hT4
  have HB := fun m => i_is g _ n c l p 0 ⟨#[123]⟩ (wb.drewN m) (hT4.drewN m)
  rw [hb1] at HA
  rw [hb2] at HB
  clear hb1 hb2 h
  obtain ⟨d0, d1, d2, d3⟩ := hT4.cells
  have f1 := hT4.blk.frozen 1
  have e0 := hB4.cell 0
  have e1 := hB4.cell 1
  have e2 := hB4.cell 2
  have e3 := hB4.cell 3
  have hwrp1 : IntKind.i64.wrap ((p : Int) + 1) = (p : Int) + 1 := by rw [IntKind.wrap_i64]; omega
  have e1' : (wb.setCell ⟨g, 1, none⟩ (.int .i64 ((p : Int) + 1))).cell? ⟨b, 1, none⟩ = some (.string t.s) := (hB4.far (p := ⟨g, 1, none⟩) (by show b ≠ g; omega) (.int .i64 ((p : Int) + 1))).cell 1
  go_wp2_with (have hq := HA; clear hq; go_at_call 128; refine HA.mono ?_; rintro r w5 ⟨rfl, m1, rfl⟩; clear HA)
  go_wp2_with (go_at_call 128; refine (HB m1).mono ?_; rintro r w5 ⟨rfl, m2, rfl⟩; clear HB)
  have hT5 := (hT4.drewN (m1 + m2)).setAt (p + 1)
  have Z5 := (hZ4.drewN (m1 + m2)).far (p := ⟨g, 1, none⟩) (by show w.heap.size ≠ g; omega) (.int .i64 ((p + 1 : Nat) : Int))
  have f5 := (hfr4.drewN (m1 + m2)).setCell (p := ⟨g, 1, none⟩) (by simp) (.int .i64 ((p + 1 : Nat) : Int))
  rw [show ((p : Int) + 1) = ((p + 1 : Nat) : Int) by omega]
  generalize (wb.drewN (m1 + m2)).setCell ⟨g, 1, none⟩ (.int .i64 ((p + 1 : Nat) : Int)) = wc at hT5 Z5 f5 ⊢
  clear hT4 hZ4 hB4 hfr4 d0 d1 d2 d3 f1 e0 e1 e2 e3 e1'
  go_wp2_with (go_at_call 130; refine (HT _).mono ?_; rintro r w2 ⟨rfl, hb2⟩; have BZ := Z5.below hb2 Z5.lt; obtain ⟨x0, x1, x2, x3, x4, ⟨s0, t0⟩, ⟨s1, t1⟩, ⟨s2, t2⟩, ⟨s3, t3⟩, s4, t4⟩ := BZ.five (o := 0) (by simp) (.int .i64 u.k) (.int .i64 u.n) (.int .i64 u.x) (.string u.s))
  have hblk : Blk (set5 w2 w.heap.size 0 u ⟨none, 0, 0, []⟩) w.heap.size 29 _ := Blk.five_ BZ u ⟨none, 0, 0, []⟩
  have hTR3 := (hT5.below hb2).set5_ (g2 := w.heap.size) (o := 0) (t := u) (e := ⟨none, 0, 0, []⟩) hgl
  have hfr3 : Fr [g] w (set5 w2 w.heap.size 0 u ⟨none, 0, 0, []⟩) := fr_new5 (f5.trans (Fr.of_below hb2)) (Nat.le_refl _)
  have hres := fun (tm : Array Value) (hp : tm.getD 4 undef = .pointer (some ⟨w.heap.size, 0, none⟩)) => results_blk (P := Tryd.prog) (tmps := tm) Tryd.results89 Tryd.isAgg29 (by exact Tryd.sizeOf29) hp hblk
  refine bodyPost_ret (hres _ rfl) rfl ?_
  exact ⟨rfl, hTR3, hfr3⟩
end Go.Proofs.YticejlknbfhndaaDoor

namespace Go.Proofs.YticejlknbfhndaaDoor
open Go.RowKit

set_option maxHeartbeats 4000000 in
theorem i_value_list (g : Nat) (A : Option Addr) (n c : Nat) (l : List Tk) (p : Nat) (d : Int) (w : World) (h : TR w g A n c l p 0) (hd : 1 ≤ d) (hj : p < l.length) (hb1 : signB l p ⟨#[91]⟩ = true) (X : Rd) (hE : ∀ w1, TR w1 g A n c l p 0 → Fr [g] w w1 → Calls Tryd.prog 129 #[.pointer (some ⟨g, 0, none⟩), .int .i64 9, .string ⟨#[93]⟩, .int .i64 d] w1 fun r w' => ReadAt w1 w' g A n c l X r) :
    Calls Tryd.prog 89 #[.pointer (some ⟨g, 0, none⟩), .int .i64 d] w fun r w' => ReadAt w w' g A n c l X r := by
  have hl := h.len
  have hbd := h.bd
  have hp : p < n := by omega
  have k1 := Below.one w (.cells #[.int .i64 0, .int .i64 0, .int .i64 0, .string ⟨#[]⟩, .slice none 0 0] 29)
  have h1 := h.below k1
  have hZ := Blk.new w 29 #[.int .i64 0, .int .i64 0, .int .i64 0, .string ⟨#[]⟩, .slice none 0 0]
  obtain ⟨c0, c1, c2, c3⟩ := h1.cells
  have hgl := h.blk.lt
  have hdd : decide (d < 1) = false := by simp; omega
  have hpd : decide ((n : Int) ≤ (p : Int)) = false := by simp; omega
  have hpd2 : decide (n ≤ p) = false := by simp; omega
  have hpn : (p : Int) < (n : Int) := by omega
  have hwrp : IntKind.i64.wrap (p : Int) = (p : Int) := by rw [IntKind.wrap_i64]; omega
  have hp0 : (0 : Int) ≤ (p : Int) := by omega
  have hfr := Fr.of_below (fp := [g]) k1
  go_enter Tryd.func89, Tryd.ntmps89
  go_wp2_with fail
  go_quiet (fail)
  have hTR := h1.drewN nq
  have hZa := hZ.drewN nq
  replace hfr := hfr.drewN nq
  clear c0 c1 c2 c3 h1 hZ
  generalize (w.alloc (.cells #[.int .i64 0, .int .i64 0, .int .i64 0, .string ⟨#[]⟩, .slice none 0 0] 29)).drewN nq = wa at hTR hZa hfr ⊢
  go_wp2_with fail
  obtain ⟨g2, o, hj', rfl, hg2, q0, q1, q2, q3⟩ := hTR.sl.tok hp
  generalize l[p] = t at q0 q1 q2 q3
  obtain ⟨d0, d1, d2, d3⟩ := hTR.cells
  have hA := hTR.below (Below.one wa (.cells #[.int .i64 0, .string ⟨#[]⟩, .int .i64 0, .int .i64 0] 60))
  have kA := Below.one wa (.cells #[.int .i64 0, .string ⟨#[]⟩, .int .i64 0, .int .i64 0] 60)
  obtain ⟨e0, e1, e2, e3⟩ := hA.cells
  have r0 : ∀ k (v : Value), wa.cell? ⟨g2, k, none⟩ = some v → (wa.alloc (.cells #[.int .i64 0, .string ⟨#[]⟩, .int .i64 0, .int .i64 0] 60)).cell? ⟨g2, k, none⟩ = some v :=
    fun k v hv => (World.cell?_of_block (a := ⟨g2, k, none⟩) (kA.block g2 (Nat.lt_trans hg2 hTR.blk.lt))).trans hv
  have s0 := r0 _ _ q0
  have s1 := r0 _ _ q1
  have s2 := r0 _ _ q2
  have s3 := r0 _ _ q3
  clear r0
  go_region
  clear q0 q1 q2 q3 s0 s1 s2 s3 d0 d1 d2 d3 e0 e1 e2 e3 hA kA
  have k3 := Below.one wa (.cells #[.int .i64 t.k, .string t.s, .int .i64 t.n, .int .i64 t.x] 60)
  have hZl : w.heap.size < wa.heap.size := hZa.lt
  have hT4 : TR (wa.alloc (.cells #[.int .i64 t.k, .string t.s, .int .i64 t.n, .int .i64 t.x] 60)).drew g (some ⟨g2, o, none⟩) n c l p 0 := ⟨(hTR.below k3).blk, (hTR.below k3).sl.drew, hbd⟩
  have hZ4 := (hZa.below k3 hZl).drew
  have hB4 := (Blk.new wa 60 #[.int .i64 t.k, .string t.s, .int .i64 t.n, .int .i64 t.x]).drew
  have hfr4 : Fr [g] w (wa.alloc (.cells #[.int .i64 t.k, .string t.s, .int .i64 t.n, .int .i64 t.x] 60)).drew := (hfr.trans (Fr.of_below k3)).drew
  have hgl2 : g < wa.heap.size := hTR.blk.lt
  generalize wa.heap.size = b at hZl hB4 hgl2 ⊢
  generalize (wa.alloc (.cells #[.int .i64 t.k, .string t.s, .int .i64 t.n, .int .i64 t.x] 60)).drew = wb at hT4 hZ4 hB4 hfr4 ⊢
  clear hTR hZa hfr k3 wa
  have HA := i_is g _ n c l p 0 ⟨#[91]⟩ wb hT4
  rw [hb1] at HA
  clear hb1 h
  obtain ⟨d0, d1, d2, d3⟩ := hT4.cells
  have f1 := hT4.blk.frozen 1
  have e0 := hB4.cell 0
  have e1 := hB4.cell 1
  have e2 := hB4.cell 2
  have e3 := hB4.cell 3
  have hwrp1 : IntKind.i64.wrap ((p : Int) + 1) = (p : Int) + 1 := by rw [IntKind.wrap_i64]; omega
  have e1' : (wb.setCell ⟨g, 1, none⟩ (.int .i64 ((p : Int) + 1))).cell? ⟨b, 1, none⟩ = some (.string t.s) := (hB4.far (p := ⟨g, 1, none⟩) (by show b ≠ g; omega) (.int .i64 ((p : Int) + 1))).cell 1
  have HE := fun m => hE (wb.drewN m) (hT4.drewN m) (hfr4.drewN m)
  have hTz := hZ4.lt
  clear hE
  go_wp2_with (have hq := HA; clear hq; go_at_call 128; refine HA.mono ?_; rintro r w5 ⟨rfl, m1, rfl⟩; clear HA)
  go_wp2_with (go_at_call 129; refine (HE m1).mono ?_; rintro r w6 ⟨t6, u6, p6, k6, rfl, hl6, ho6, hT6, hf6, hok⟩; have BZ := Blk.ofFr (w := wb.drewN m1) hZ4 hf6 (by omega); obtain ⟨x0, x1, x2, x3, x4, ⟨s0, t0⟩, ⟨s1, t1⟩, ⟨s2, t2⟩, ⟨s3, t3⟩, s4, t4⟩ := BZ.five (o := 0) (by simp) (.int .i64 t6.k) (.int .i64 t6.n) (.int .i64 t6.x) (.string t6.s))
  have hn0 : w.heap.size ∉ u6.fp := fun hx => by have := (ho6.2 _ hx).1; have h9 : wb.heap.size ≤ w.heap.size := this; omega
  have hzw : w.heap.size ≤ wb.heap.size := Nat.le_of_lt hTz
  have hblk : Blk (set5 w6 w.heap.size 0 t6 u6) w.heap.size 29 _ := Blk.five_ BZ t6 u6
  have hTR3 := hT6.set5_ (g2 := w.heap.size) (o := 0) (t := t6) (e := u6) hgl
  have hfr3 : Fr [g] w (set5 w6 w.heap.size 0 t6 u6) := fr_new5 ((hfr4.drewN m1).trans hf6) (Nat.le_refl _)
  have hls5 := hl6.set5_ (e2 := u6) (g := w.heap.size) (o := 0) (t := t6) hn0
  have how5 := (ho6.mono (lo2 := w.heap.size) hzw).set5_ (g := w.heap.size) (o := 0) (t := t6) (e := u6) hn0
  have hres := fun (tm : Array Value) (hp : tm.getD 4 undef = .pointer (some ⟨w.heap.size, 0, none⟩)) => results_blk (P := Tryd.prog) (tmps := tm) Tryd.results89 Tryd.isAgg29 (by exact Tryd.sizeOf29) hp hblk
  refine bodyPost_ret (hres _ rfl) rfl ?_
  exact ⟨t6, u6, p6, k6, rfl, hls5, how5, hTR3, hfr3, hok⟩
set_option maxHeartbeats 4000000 in
theorem i_value_map (g : Nat) (A : Option Addr) (n c : Nat) (l : List Tk) (p : Nat) (d : Int) (w : World) (h : TR w g A n c l p 0) (hd : 1 ≤ d) (hj : p < l.length) (hb1 : signB l p ⟨#[91]⟩ = false) (hb2 : signB l p ⟨#[123]⟩ = true) (X : Rd) (hE : ∀ w1, TR w1 g A n c l p 0 → Fr [g] w w1 → Calls Tryd.prog 129 #[.pointer (some ⟨g, 0, none⟩), .int .i64 10, .string ⟨#[125]⟩, .int .i64 d] w1 fun r w' => ReadAt w1 w' g A n c l X r) :
    Calls Tryd.prog 89 #[.pointer (some ⟨g, 0, none⟩), .int .i64 d] w fun r w' => ReadAt w w' g A n c l X r := by
  have hl := h.len
  have hbd := h.bd
  have hp : p < n := by omega
  have k1 := Below.one w (.cells #[.int .i64 0, .int .i64 0, .int .i64 0, .string ⟨#[]⟩, .slice none 0 0] 29)
  have h1 := h.below k1
  have hZ := Blk.new w 29 #[.int .i64 0, .int .i64 0, .int .i64 0, .string ⟨#[]⟩, .slice none 0 0]
  obtain ⟨c0, c1, c2, c3⟩ := h1.cells
  have hgl := h.blk.lt
  have hdd : decide (d < 1) = false := by simp; omega
  have hpd : decide ((n : Int) ≤ (p : Int)) = false := by simp; omega
  have hpd2 : decide (n ≤ p) = false := by simp; omega
  have hpn : (p : Int) < (n : Int) := by omega
  have hwrp : IntKind.i64.wrap (p : Int) = (p : Int) := by rw [IntKind.wrap_i64]; omega
  have hp0 : (0 : Int) ≤ (p : Int) := by omega
  have hfr := Fr.of_below (fp := [g]) k1
  go_enter Tryd.func89, Tryd.ntmps89
  go_wp2_with fail
  go_quiet (fail)
  have hTR := h1.drewN nq
  have hZa := hZ.drewN nq
  replace hfr := hfr.drewN nq
  clear c0 c1 c2 c3 h1 hZ
  generalize (w.alloc (.cells #[.int .i64 0, .int .i64 0, .int .i64 0, .string ⟨#[]⟩, .slice none 0 0] 29)).drewN nq = wa at hTR hZa hfr ⊢
  go_wp2_with fail
  obtain ⟨g2, o, hj', rfl, hg2, q0, q1, q2, q3⟩ := hTR.sl.tok hp
  generalize l[p] = t at q0 q1 q2 q3
  obtain ⟨d0, d1, d2, d3⟩ := hTR.cells
  have hA := hTR.below (Below.one wa (.cells #[.int .i64 0, .string ⟨#[]⟩, .int .i64 0, .int .i64 0] 60))
  have kA := Below.one wa (.cells #[.int .i64 0, .string ⟨#[]⟩, .int .i64 0, .int .i64 0] 60)
  obtain ⟨e0, e1, e2, e3⟩ := hA.cells
  have r0 : ∀ k (v : Value), wa.cell? ⟨g2, k, none⟩ = some v → (wa.alloc (.cells #[.int .i64 0, .string ⟨#[]⟩, .int .i64 0, .int .i64 0] 60)).cell? ⟨g2, k, none⟩ = some v :=
    fun k v hv => (World.cell?_of_block (a := ⟨g2, k, none⟩) (kA.block g2 (Nat.lt_trans hg2 hTR.blk.lt))).trans hv
  have s0 := r0 _ _ q0
  have s1 := r0 _ _ q1
  have s2 := r0 _ _ q2
  have s3 := r0 _ _ q3
  clear r0
  go_region
  clear q0 q1 q2 q3 s0 s1 s2 s3 d0 d1 d2 d3 e0 e1 e2 e3 hA kA
  have k3 := Below.one wa (.cells #[.int .i64 t.k, .string t.s, .int .i64 t.n, .int .i64 t.x] 60)
  have hZl : w.heap.size < wa.heap.size := hZa.lt
  have hT4 : TR (wa.alloc (.cells #[.int .i64 t.k, .string t.s, .int .i64 t.n, .int .i64 t.x] 60)).drew g (some ⟨g2, o, none⟩) n c l p 0 := ⟨(hTR.below k3).blk, (hTR.below k3).sl.drew, hbd⟩
  have hZ4 := (hZa.below k3 hZl).drew
  have hB4 := (Blk.new wa 60 #[.int .i64 t.k, .string t.s, .int .i64 t.n, .int .i64 t.x]).drew
  have hfr4 : Fr [g] w (wa.alloc (.cells #[.int .i64 t.k, .string t.s, .int .i64 t.n, .int .i64 t.x] 60)).drew := (hfr.trans (Fr.of_below k3)).drew
  have hgl2 : g < wa.heap.size := hTR.blk.lt
  generalize wa.heap.size = b at hZl hB4 hgl2 ⊢
  generalize (wa.alloc (.cells #[.int .i64 t.k, .string t.s, .int .i64 t.n, .int .i64 t.x] 60)).drew = wb at hT4 hZ4 hB4 hfr4 ⊢
  clear hTR hZa hfr k3 wa
  have HA := i_is g _ n c l p 0 ⟨#[91]⟩ wb hT4
  have HB := fun m => i_is g _ n c l p 0 ⟨#[123]⟩ (wb.drewN m) (hT4.drewN m)
  rw [hb1] at HA
  rw [hb2] at HB
  clear hb1 hb2 h
  obtain ⟨d0, d1, d2, d3⟩ := hT4.cells
  have f1 := hT4.blk.frozen 1
  have e0 := hB4.cell 0
  have e1 := hB4.cell 1
  have e2 := hB4.cell 2
  have e3 := hB4.cell 3
  have hwrp1 : IntKind.i64.wrap ((p : Int) + 1) = (p : Int) + 1 := by rw [IntKind.wrap_i64]; omega
  have e1' : (wb.setCell ⟨g, 1, none⟩ (.int .i64 ((p : Int) + 1))).cell? ⟨b, 1, none⟩ = some (.string t.s) := (hB4.far (p := ⟨g, 1, none⟩) (by show b ≠ g; omega) (.int .i64 ((p : Int) + 1))).cell 1
  have HE := fun m => hE (wb.drewN m) (hT4.drewN m) (hfr4.drewN m)
  have hTz := hZ4.lt
  clear hE
  go_wp2_with (have hq := HA; clear hq; go_at_call 128; refine HA.mono ?_; rintro r w5 ⟨rfl, m1, rfl⟩; clear HA)
  go_wp2_with (first
    | (have hq := HB; clear hq; go_at_call 128; refine (HB m1).mono ?_; rintro r w5 ⟨rfl, m2, rfl⟩; clear HB)
    | (go_at_call 129; refine (HE (m1 + m2)).mono ?_; rintro r w6 ⟨t6, u6, p6, k6, rfl, hl6, ho6, hT6, hf6, hok⟩; have BZ := Blk.ofFr (w := wb.drewN (m1 + m2)) hZ4 hf6 (by omega); obtain ⟨x0, x1, x2, x3, x4, ⟨s0, t0⟩, ⟨s1, t1⟩, ⟨s2, t2⟩, ⟨s3, t3⟩, s4, t4⟩ := BZ.five (o := 0) (by simp) (.int .i64 t6.k) (.int .i64 t6.n) (.int .i64 t6.x) (.string t6.s)))
  have hn0 : w.heap.size ∉ u6.fp := fun hx => by have := (ho6.2 _ hx).1; have h9 : wb.heap.size ≤ w.heap.size := this; omega
  have hzw : w.heap.size ≤ wb.heap.size := Nat.le_of_lt hTz
  have hblk : Blk (set5 w6 w.heap.size 0 t6 u6) w.heap.size 29 _ := Blk.five_ BZ t6 u6
  have hTR3 := hT6.set5_ (g2 := w.heap.size) (o := 0) (t := t6) (e := u6) hgl
  have hfr3 : Fr [g] w (set5 w6 w.heap.size 0 t6 u6) := fr_new5 ((hfr4.drewN (m1 + m2)).trans hf6) (Nat.le_refl _)
  have hls5 := hl6.set5_ (e2 := u6) (g := w.heap.size) (o := 0) (t := t6) hn0
  have how5 := (ho6.mono (lo2 := w.heap.size) hzw).set5_ (g := w.heap.size) (o := 0) (t := t6) (e := u6) hn0
  have hres := fun (tm : Array Value) (hp : tm.getD 4 undef = .pointer (some ⟨w.heap.size, 0, none⟩)) => results_blk (P := Tryd.prog) (tmps := tm) Tryd.results89 Tryd.isAgg29 (by exact Tryd.sizeOf29) hp hblk
  refine bodyPost_ret (hres _ rfl) rfl ?_
  exact ⟨t6, u6, p6, k6, rfl, hls5, how5, hTR3, hfr3, hok⟩
end Go.Proofs.YticejlknbfhndaaDoor

namespace Go.Proofs.YticejlknbfhndaaDoor
open Go.RowKit

set_option maxHeartbeats 4000000 in
theorem i_value_null (g : Nat) (A : Option Addr) (n c : Nat) (l : List Tk) (p : Nat) (d : Int) (w : World) (h : TR w g A n c l p 0) (hd : 1 ≤ d) (hj : p < l.length) (hb1 : signB l p ⟨#[91]⟩ = false) (hb2 : signB l p ⟨#[123]⟩ = false) (hk2 : (l[p].k == 2) = false) (hk3 : (l[p].k == 3) = false) (hk4 : (l[p].k == 4) = true) (hsnull : (l[p].s.toList == [110, 117, 108, 108]) = true) :
    Calls Tryd.prog 89 #[.pointer (some ⟨g, 0, none⟩), .int .i64 d] w fun r w' => LeafAt w w' g A n c l (p + 1) 0 (leafTr 1 0 0 ⟨#[]⟩) r := by
  have hl := h.len
  have hbd := h.bd
  have hp : p < n := by omega
  have k1 := Below.one w (.cells #[.int .i64 0, .int .i64 0, .int .i64 0, .string ⟨#[]⟩, .slice none 0 0] 29)
  have h1 := h.below k1
  have hZ := Blk.new w 29 #[.int .i64 0, .int .i64 0, .int .i64 0, .string ⟨#[]⟩, .slice none 0 0]
  obtain ⟨c0, c1, c2, c3⟩ := h1.cells
  have hgl := h.blk.lt
  have hdd : decide (d < 1) = false := by simp; omega
  have hpd : decide ((n : Int) ≤ (p : Int)) = false := by simp; omega
  have hpd2 : decide (n ≤ p) = false := by simp; omega
  have hpn : (p : Int) < (n : Int) := by omega
  have hwrp : IntKind.i64.wrap (p : Int) = (p : Int) := by rw [IntKind.wrap_i64]; omega
  have hp0 : (0 : Int) ≤ (p : Int) := by omega
  have hfr := Fr.of_below (fp := [g]) k1
  go_enter Tryd.func89, Tryd.ntmps89
  go_wp2_with fail
  go_quiet (fail)
  have hTR := h1.drewN nq
  have hZa := hZ.drewN nq
  replace hfr := hfr.drewN nq
  clear c0 c1 c2 c3 h1 hZ
  generalize (w.alloc (.cells #[.int .i64 0, .int .i64 0, .int .i64 0, .string ⟨#[]⟩, .slice none 0 0] 29)).drewN nq = wa at hTR hZa hfr ⊢
  go_wp2_with fail
  obtain ⟨g2, o, hj', rfl, hg2, q0, q1, q2, q3⟩ := hTR.sl.tok hp
  generalize l[p] = t at q0 q1 q2 q3 hk2 hk3 hk4 hsnull
  obtain ⟨d0, d1, d2, d3⟩ := hTR.cells
  have hA := hTR.below (Below.one wa (.cells #[.int .i64 0, .string ⟨#[]⟩, .int .i64 0, .int .i64 0] 60))
  have kA := Below.one wa (.cells #[.int .i64 0, .string ⟨#[]⟩, .int .i64 0, .int .i64 0] 60)
  obtain ⟨e0, e1, e2, e3⟩ := hA.cells
  have r0 : ∀ k (v : Value), wa.cell? ⟨g2, k, none⟩ = some v → (wa.alloc (.cells #[.int .i64 0, .string ⟨#[]⟩, .int .i64 0, .int .i64 0] 60)).cell? ⟨g2, k, none⟩ = some v :=
    fun k v hv => (World.cell?_of_block (a := ⟨g2, k, none⟩) (kA.block g2 (Nat.lt_trans hg2 hTR.blk.lt))).trans hv
  have s0 := r0 _ _ q0
  have s1 := r0 _ _ q1
  have s2 := r0 _ _ q2
  have s3 := r0 _ _ q3
  clear r0
  go_region
  clear q0 q1 q2 q3 s0 s1 s2 s3 d0 d1 d2 d3 e0 e1 e2 e3 hA kA
  have k3 := Below.one wa (.cells #[.int .i64 t.k, .string t.s, .int .i64 t.n, .int .i64 t.x] 60)
  have hZl : w.heap.size < wa.heap.size := hZa.lt
  have hT4 : TR (wa.alloc (.cells #[.int .i64 t.k, .string t.s, .int .i64 t.n, .int .i64 t.x] 60)).drew g (some ⟨g2, o, none⟩) n c l p 0 := ⟨(hTR.below k3).blk, (hTR.below k3).sl.drew, hbd⟩
  have hZ4 := (hZa.below k3 hZl).drew
  have hB4 := (Blk.new wa 60 #[.int .i64 t.k, .string t.s, .int .i64 t.n, .int .i64 t.x]).drew
  have hfr4 : Fr [g] w (wa.alloc (.cells #[.int .i64 t.k, .string t.s, .int .i64 t.n, .int .i64 t.x] 60)).drew := (hfr.trans (Fr.of_below k3)).drew
  have hgl2 : g < wa.heap.size := hTR.blk.lt
  generalize wa.heap.size = b at hZl hB4 hgl2 ⊢
  generalize (wa.alloc (.cells #[.int .i64 t.k, .string t.s, .int .i64 t.n, .int .i64 t.x] 60)).drew = wb at hT4 hZ4 hB4 hfr4 ⊢
  clear hTR hZa hfr k3 wa
  have HA := i_is g _ n c l p 0 ⟨#[91]⟩ wb hT4
  have HB := fun m => i_is g _ n c l p 0 ⟨#[123]⟩ (wb.drewN m) (hT4.drewN m)
  rw [hb1] at HA
  rw [hb2] at HB
  clear hb1 hb2 h
  obtain ⟨d0, d1, d2, d3⟩ := hT4.cells
  have f1 := hT4.blk.frozen 1
  have e0 := hB4.cell 0
  have e1 := hB4.cell 1
  have e2 := hB4.cell 2
  have e3 := hB4.cell 3
  have hwrp1 : IntKind.i64.wrap ((p : Int) + 1) = (p : Int) + 1 := by rw [IntKind.wrap_i64]; omega
  have e1' : (wb.setCell ⟨g, 1, none⟩ (.int .i64 ((p : Int) + 1))).cell? ⟨b, 1, none⟩ = some (.string t.s) := (hB4.far (p := ⟨g, 1, none⟩) (by show b ≠ g; omega) (.int .i64 ((p : Int) + 1))).cell 1
  go_wp2_with (have hq := HA; clear hq; go_at_call 128; refine HA.mono ?_; rintro r w5 ⟨rfl, m1, rfl⟩; clear HA)
  go_upto_region 23 with (go_at_call 128; refine (HB m1).mono ?_; rintro r w5 ⟨rfl, m2, rfl⟩; clear HB)
  have hT5 := (hT4.drewN (m1 + m2)).setAt (p + 1)
  have Z5 := (hZ4.drewN (m1 + m2)).far (p := ⟨g, 1, none⟩) (by show w.heap.size ≠ g; omega) (.int .i64 ((p + 1 : Nat) : Int))
  have f5 := (hfr4.drewN (m1 + m2)).setCell (p := ⟨g, 1, none⟩) (by simp) (.int .i64 ((p + 1 : Nat) : Int))
  have B5 := ((hB4.drewN (m1 + m2)).far (p := ⟨g, 1, none⟩) (by show b ≠ g; omega) (.int .i64 ((p + 1 : Nat) : Int))).cell 1
  rw [show ((p : Int) + 1) = ((p + 1 : Nat) : Int) by omega]
  generalize (wb.drewN (m1 + m2)).setCell ⟨g, 1, none⟩ (.int .i64 ((p + 1 : Nat) : Int)) = wc at hT5 Z5 f5 B5 ⊢
  clear hT4 hZ4 hB4 hfr4 d0 d1 d2 d3 f1 e0 e1 e2 e3 e1'
  simp only [List.getElem?_toArray, List.getElem?_cons_succ, List.getElem?_cons_zero] at B5
  obtain ⟨x0, x1, x2, x3, x4, ⟨s0, t0⟩, ⟨s1, t1⟩, ⟨s2, t2⟩, ⟨s3, t3⟩, s4, t4⟩ := Z5.five (o := 0) (by simp) (.int .i64 1) (.int .i64 0) (.int .i64 0) (.string ⟨#[]⟩)
  go_wp2_with fail
  have hblk : Blk (set5 wc w.heap.size 0 (leafTr 1 0 0 ⟨#[]⟩) ⟨none, 0, 0, []⟩) w.heap.size 29 _ := Blk.five_ Z5 (leafTr 1 0 0 ⟨#[]⟩) ⟨none, 0, 0, []⟩
  have hTR3 := hT5.set5_ (g2 := w.heap.size) (o := 0) (t := leafTr 1 0 0 ⟨#[]⟩) (e := ⟨none, 0, 0, []⟩) hgl
  have hfr3 : Fr [g] w (set5 wc w.heap.size 0 (leafTr 1 0 0 ⟨#[]⟩) ⟨none, 0, 0, []⟩) := fr_new5 f5 (Nat.le_refl _)
  have hres := fun (tm : Array Value) (hp : tm.getD 4 undef = .pointer (some ⟨w.heap.size, 0, none⟩)) => results_blk (P := Tryd.prog) (tmps := tm) Tryd.results89 Tryd.isAgg29 (by exact Tryd.sizeOf29) hp hblk
  refine bodyPost_ret (hres _ rfl) rfl ?_
  exact ⟨rfl, hTR3, hfr3⟩
set_option maxHeartbeats 4000000 in
theorem i_value_true (g : Nat) (A : Option Addr) (n c : Nat) (l : List Tk) (p : Nat) (d : Int) (w : World) (h : TR w g A n c l p 0) (hd : 1 ≤ d) (hj : p < l.length) (hb1 : signB l p ⟨#[91]⟩ = false) (hb2 : signB l p ⟨#[123]⟩ = false) (hk2 : (l[p].k == 2) = false) (hk3 : (l[p].k == 3) = false) (hk4 : (l[p].k == 4) = true) (hsnull : (l[p].s.toList == [110, 117, 108, 108]) = false) (hstrue : (l[p].s.toList == [116, 114, 117, 101]) = true) :
    Calls Tryd.prog 89 #[.pointer (some ⟨g, 0, none⟩), .int .i64 d] w fun r w' => LeafAt w w' g A n c l (p + 1) 0 (leafTr 2 1 0 ⟨#[]⟩) r := by
  have hl := h.len
  have hbd := h.bd
  have hp : p < n := by omega
  have k1 := Below.one w (.cells #[.int .i64 0, .int .i64 0, .int .i64 0, .string ⟨#[]⟩, .slice none 0 0] 29)
  have h1 := h.below k1
  have hZ := Blk.new w 29 #[.int .i64 0, .int .i64 0, .int .i64 0, .string ⟨#[]⟩, .slice none 0 0]
  obtain ⟨c0, c1, c2, c3⟩ := h1.cells
  have hgl := h.blk.lt
  have hdd : decide (d < 1) = false := by simp; omega
  have hpd : decide ((n : Int) ≤ (p : Int)) = false := by simp; omega
  have hpd2 : decide (n ≤ p) = false := by simp; omega
  have hpn : (p : Int) < (n : Int) := by omega
  have hwrp : IntKind.i64.wrap (p : Int) = (p : Int) := by rw [IntKind.wrap_i64]; omega
  have hp0 : (0 : Int) ≤ (p : Int) := by omega
  have hfr := Fr.of_below (fp := [g]) k1
  have hsz : l[p].s.size = 4 := by have h8 := congrArg List.length (by simpa using hstrue : l[p].s.toList = _); rw [ByteArray.toList_eq] at h8; simpa using h8
  go_enter Tryd.func89, Tryd.ntmps89
  go_wp2_with fail
  go_quiet (fail)
  have hTR := h1.drewN nq
  have hZa := hZ.drewN nq
  replace hfr := hfr.drewN nq
  clear c0 c1 c2 c3 h1 hZ
  generalize (w.alloc (.cells #[.int .i64 0, .int .i64 0, .int .i64 0, .string ⟨#[]⟩, .slice none 0 0] 29)).drewN nq = wa at hTR hZa hfr ⊢
  go_wp2_with fail
  obtain ⟨g2, o, hj', rfl, hg2, q0, q1, q2, q3⟩ := hTR.sl.tok hp
  generalize l[p] = t at q0 q1 q2 q3 hk2 hk3 hk4 hsnull hstrue hsz
  obtain ⟨d0, d1, d2, d3⟩ := hTR.cells
  have hA := hTR.below (Below.one wa (.cells #[.int .i64 0, .string ⟨#[]⟩, .int .i64 0, .int .i64 0] 60))
  have kA := Below.one wa (.cells #[.int .i64 0, .string ⟨#[]⟩, .int .i64 0, .int .i64 0] 60)
  obtain ⟨e0, e1, e2, e3⟩ := hA.cells
  have r0 : ∀ k (v : Value), wa.cell? ⟨g2, k, none⟩ = some v → (wa.alloc (.cells #[.int .i64 0, .string ⟨#[]⟩, .int .i64 0, .int .i64 0] 60)).cell? ⟨g2, k, none⟩ = some v :=
    fun k v hv => (World.cell?_of_block (a := ⟨g2, k, none⟩) (kA.block g2 (Nat.lt_trans hg2 hTR.blk.lt))).trans hv
  have s0 := r0 _ _ q0
  have s1 := r0 _ _ q1
  have s2 := r0 _ _ q2
  have s3 := r0 _ _ q3
  clear r0
  go_region
  clear q0 q1 q2 q3 s0 s1 s2 s3 d0 d1 d2 d3 e0 e1 e2 e3 hA kA
  have k3 := Below.one wa (.cells #[.int .i64 t.k, .string t.s, .int .i64 t.n, .int .i64 t.x] 60)
  have hZl : w.heap.size < wa.heap.size := hZa.lt
  have hT4 : TR (wa.alloc (.cells #[.int .i64 t.k, .string t.s, .int .i64 t.n, .int .i64 t.x] 60)).drew g (some ⟨g2, o, none⟩) n c l p 0 := ⟨(hTR.below k3).blk, (hTR.below k3).sl.drew, hbd⟩
  have hZ4 := (hZa.below k3 hZl).drew
  have hB4 := (Blk.new wa 60 #[.int .i64 t.k, .string t.s, .int .i64 t.n, .int .i64 t.x]).drew
  have hfr4 : Fr [g] w (wa.alloc (.cells #[.int .i64 t.k, .string t.s, .int .i64 t.n, .int .i64 t.x] 60)).drew := (hfr.trans (Fr.of_below k3)).drew
  have hgl2 : g < wa.heap.size := hTR.blk.lt
  generalize wa.heap.size = b at hZl hB4 hgl2 ⊢
  generalize (wa.alloc (.cells #[.int .i64 t.k, .string t.s, .int .i64 t.n, .int .i64 t.x] 60)).drew = wb at hT4 hZ4 hB4 hfr4 ⊢
  clear hTR hZa hfr k3 wa
  have HA := i_is g _ n c l p 0 ⟨#[91]⟩ wb hT4
  have HB := fun m => i_is g _ n c l p 0 ⟨#[123]⟩ (wb.drewN m) (hT4.drewN m)
  rw [hb1] at HA
  rw [hb2] at HB
  clear hb1 hb2 h
  obtain ⟨d0, d1, d2, d3⟩ := hT4.cells
  have f1 := hT4.blk.frozen 1
  have e0 := hB4.cell 0
  have e1 := hB4.cell 1
  have e2 := hB4.cell 2
  have e3 := hB4.cell 3
  have hwrp1 : IntKind.i64.wrap ((p : Int) + 1) = (p : Int) + 1 := by rw [IntKind.wrap_i64]; omega
  have e1' : (wb.setCell ⟨g, 1, none⟩ (.int .i64 ((p : Int) + 1))).cell? ⟨b, 1, none⟩ = some (.string t.s) := (hB4.far (p := ⟨g, 1, none⟩) (by show b ≠ g; omega) (.int .i64 ((p : Int) + 1))).cell 1
  go_wp2_with (have hq := HA; clear hq; go_at_call 128; refine HA.mono ?_; rintro r w5 ⟨rfl, m1, rfl⟩; clear HA)
  go_upto_region 26 with (go_at_call 128; refine (HB m1).mono ?_; rintro r w5 ⟨rfl, m2, rfl⟩; clear HB)
  have hT5 := (hT4.drewN (m1 + m2)).setAt (p + 1)
  have Z5 := (hZ4.drewN (m1 + m2)).far (p := ⟨g, 1, none⟩) (by show w.heap.size ≠ g; omega) (.int .i64 ((p + 1 : Nat) : Int))
  have f5 := (hfr4.drewN (m1 + m2)).setCell (p := ⟨g, 1, none⟩) (by simp) (.int .i64 ((p + 1 : Nat) : Int))
  have B5 := ((hB4.drewN (m1 + m2)).far (p := ⟨g, 1, none⟩) (by show b ≠ g; omega) (.int .i64 ((p + 1 : Nat) : Int))).cell 1
  rw [show ((p : Int) + 1) = ((p + 1 : Nat) : Int) by omega]
  generalize (wb.drewN (m1 + m2)).setCell ⟨g, 1, none⟩ (.int .i64 ((p + 1 : Nat) : Int)) = wc at hT5 Z5 f5 B5 ⊢
  clear hT4 hZ4 hB4 hfr4 d0 d1 d2 d3 f1 e0 e1 e2 e3 e1'
  simp only [List.getElem?_toArray, List.getElem?_cons_succ, List.getElem?_cons_zero] at B5
  obtain ⟨x0, x1, x2, x3, x4, ⟨s0, t0⟩, ⟨s1, t1⟩, ⟨s2, t2⟩, ⟨s3, t3⟩, s4, t4⟩ := Z5.five (o := 0) (by simp) (.int .i64 2) (.int .i64 1) (.int .i64 0) (.string ⟨#[]⟩)
  go_wp2_with fail
  have hblk : Blk (set5 wc w.heap.size 0 (leafTr 2 1 0 ⟨#[]⟩) ⟨none, 0, 0, []⟩) w.heap.size 29 _ := Blk.five_ Z5 (leafTr 2 1 0 ⟨#[]⟩) ⟨none, 0, 0, []⟩
  have hTR3 := hT5.set5_ (g2 := w.heap.size) (o := 0) (t := leafTr 2 1 0 ⟨#[]⟩) (e := ⟨none, 0, 0, []⟩) hgl
  have hfr3 : Fr [g] w (set5 wc w.heap.size 0 (leafTr 2 1 0 ⟨#[]⟩) ⟨none, 0, 0, []⟩) := fr_new5 f5 (Nat.le_refl _)
  have hres := fun (tm : Array Value) (hp : tm.getD 4 undef = .pointer (some ⟨w.heap.size, 0, none⟩)) => results_blk (P := Tryd.prog) (tmps := tm) Tryd.results89 Tryd.isAgg29 (by exact Tryd.sizeOf29) hp hblk
  refine bodyPost_ret (hres _ rfl) rfl ?_
  exact ⟨rfl, hTR3, hfr3⟩
set_option maxHeartbeats 4000000 in
theorem i_value_false (g : Nat) (A : Option Addr) (n c : Nat) (l : List Tk) (p : Nat) (d : Int) (w : World) (h : TR w g A n c l p 0) (hd : 1 ≤ d) (hj : p < l.length) (hb1 : signB l p ⟨#[91]⟩ = false) (hb2 : signB l p ⟨#[123]⟩ = false) (hk2 : (l[p].k == 2) = false) (hk3 : (l[p].k == 3) = false) (hk4 : (l[p].k == 4) = true) (hsnull : (l[p].s.toList == [110, 117, 108, 108]) = false) (hstrue : (l[p].s.toList == [116, 114, 117, 101]) = false) (hsfalse : (l[p].s.toList == [102, 97, 108, 115, 101]) = true) :
    Calls Tryd.prog 89 #[.pointer (some ⟨g, 0, none⟩), .int .i64 d] w fun r w' => LeafAt w w' g A n c l (p + 1) 0 (leafTr 2 0 0 ⟨#[]⟩) r := by
  have hl := h.len
  have hbd := h.bd
  have hp : p < n := by omega
  have k1 := Below.one w (.cells #[.int .i64 0, .int .i64 0, .int .i64 0, .string ⟨#[]⟩, .slice none 0 0] 29)
  have h1 := h.below k1
  have hZ := Blk.new w 29 #[.int .i64 0, .int .i64 0, .int .i64 0, .string ⟨#[]⟩, .slice none 0 0]
  obtain ⟨c0, c1, c2, c3⟩ := h1.cells
  have hgl := h.blk.lt
  have hdd : decide (d < 1) = false := by simp; omega
  have hpd : decide ((n : Int) ≤ (p : Int)) = false := by simp; omega
  have hpd2 : decide (n ≤ p) = false := by simp; omega
  have hpn : (p : Int) < (n : Int) := by omega
  have hwrp : IntKind.i64.wrap (p : Int) = (p : Int) := by rw [IntKind.wrap_i64]; omega
  have hp0 : (0 : Int) ≤ (p : Int) := by omega
  have hfr := Fr.of_below (fp := [g]) k1
  have hsz : l[p].s.size = 5 := by have h8 := congrArg List.length (by simpa using hsfalse : l[p].s.toList = _); rw [ByteArray.toList_eq] at h8; simpa using h8
  go_enter Tryd.func89, Tryd.ntmps89
  go_wp2_with fail
  go_quiet (fail)
  have hTR := h1.drewN nq
  have hZa := hZ.drewN nq
  replace hfr := hfr.drewN nq
  clear c0 c1 c2 c3 h1 hZ
  generalize (w.alloc (.cells #[.int .i64 0, .int .i64 0, .int .i64 0, .string ⟨#[]⟩, .slice none 0 0] 29)).drewN nq = wa at hTR hZa hfr ⊢
  go_wp2_with fail
  obtain ⟨g2, o, hj', rfl, hg2, q0, q1, q2, q3⟩ := hTR.sl.tok hp
  generalize l[p] = t at q0 q1 q2 q3 hk2 hk3 hk4 hsnull hstrue hsfalse hsz
  obtain ⟨d0, d1, d2, d3⟩ := hTR.cells
  have hA := hTR.below (Below.one wa (.cells #[.int .i64 0, .string ⟨#[]⟩, .int .i64 0, .int .i64 0] 60))
  have kA := Below.one wa (.cells #[.int .i64 0, .string ⟨#[]⟩, .int .i64 0, .int .i64 0] 60)
  obtain ⟨e0, e1, e2, e3⟩ := hA.cells
  have r0 : ∀ k (v : Value), wa.cell? ⟨g2, k, none⟩ = some v → (wa.alloc (.cells #[.int .i64 0, .string ⟨#[]⟩, .int .i64 0, .int .i64 0] 60)).cell? ⟨g2, k, none⟩ = some v :=
    fun k v hv => (World.cell?_of_block (a := ⟨g2, k, none⟩) (kA.block g2 (Nat.lt_trans hg2 hTR.blk.lt))).trans hv
  have s0 := r0 _ _ q0
  have s1 := r0 _ _ q1
  have s2 := r0 _ _ q2
  have s3 := r0 _ _ q3
  clear r0
  go_region
  clear q0 q1 q2 q3 s0 s1 s2 s3 d0 d1 d2 d3 e0 e1 e2 e3 hA kA
  have k3 := Below.one wa (.cells #[.int .i64 t.k, .string t.s, .int .i64 t.n, .int .i64 t.x] 60)
  have hZl : w.heap.size < wa.heap.size := hZa.lt
  have hT4 : TR (wa.alloc (.cells #[.int .i64 t.k, .string t.s, .int .i64 t.n, .int .i64 t.x] 60)).drew g (some ⟨g2, o, none⟩) n c l p 0 := ⟨(hTR.below k3).blk, (hTR.below k3).sl.drew, hbd⟩
  have hZ4 := (hZa.below k3 hZl).drew
  have hB4 := (Blk.new wa 60 #[.int .i64 t.k, .string t.s, .int .i64 t.n, .int .i64 t.x]).drew
  have hfr4 : Fr [g] w (wa.alloc (.cells #[.int .i64 t.k, .string t.s, .int .i64 t.n, .int .i64 t.x] 60)).drew := (hfr.trans (Fr.of_below k3)).drew
  have hgl2 : g < wa.heap.size := hTR.blk.lt
  generalize wa.heap.size = b at hZl hB4 hgl2 ⊢
  generalize (wa.alloc (.cells #[.int .i64 t.k, .string t.s, .int .i64 t.n, .int .i64 t.x] 60)).drew = wb at hT4 hZ4 hB4 hfr4 ⊢
  clear hTR hZa hfr k3 wa
  have HA := i_is g _ n c l p 0 ⟨#[91]⟩ wb hT4
  have HB := fun m => i_is g _ n c l p 0 ⟨#[123]⟩ (wb.drewN m) (hT4.drewN m)
  rw [hb1] at HA
  rw [hb2] at HB
  clear hb1 hb2 h
  obtain ⟨d0, d1, d2, d3⟩ := hT4.cells
  have f1 := hT4.blk.frozen 1
  have e0 := hB4.cell 0
  have e1 := hB4.cell 1
  have e2 := hB4.cell 2
  have e3 := hB4.cell 3
  have hwrp1 : IntKind.i64.wrap ((p : Int) + 1) = (p : Int) + 1 := by rw [IntKind.wrap_i64]; omega
  have e1' : (wb.setCell ⟨g, 1, none⟩ (.int .i64 ((p : Int) + 1))).cell? ⟨b, 1, none⟩ = some (.string t.s) := (hB4.far (p := ⟨g, 1, none⟩) (by show b ≠ g; omega) (.int .i64 ((p : Int) + 1))).cell 1
  go_wp2_with (have hq := HA; clear hq; go_at_call 128; refine HA.mono ?_; rintro r w5 ⟨rfl, m1, rfl⟩; clear HA)
  go_upto_region 26 with (go_at_call 128; refine (HB m1).mono ?_; rintro r w5 ⟨rfl, m2, rfl⟩; clear HB)
  have hT5 := (hT4.drewN (m1 + m2)).setAt (p + 1)
  have Z5 := (hZ4.drewN (m1 + m2)).far (p := ⟨g, 1, none⟩) (by show w.heap.size ≠ g; omega) (.int .i64 ((p + 1 : Nat) : Int))
  have f5 := (hfr4.drewN (m1 + m2)).setCell (p := ⟨g, 1, none⟩) (by simp) (.int .i64 ((p + 1 : Nat) : Int))
  have B5 := ((hB4.drewN (m1 + m2)).far (p := ⟨g, 1, none⟩) (by show b ≠ g; omega) (.int .i64 ((p + 1 : Nat) : Int))).cell 1
  rw [show ((p : Int) + 1) = ((p + 1 : Nat) : Int) by omega]
  generalize (wb.drewN (m1 + m2)).setCell ⟨g, 1, none⟩ (.int .i64 ((p + 1 : Nat) : Int)) = wc at hT5 Z5 f5 B5 ⊢
  clear hT4 hZ4 hB4 hfr4 d0 d1 d2 d3 f1 e0 e1 e2 e3 e1'
  simp only [List.getElem?_toArray, List.getElem?_cons_succ, List.getElem?_cons_zero] at B5
  obtain ⟨x0, x1, x2, x3, x4, ⟨s0, t0⟩, ⟨s1, t1⟩, ⟨s2, t2⟩, ⟨s3, t3⟩, s4, t4⟩ := Z5.five (o := 0) (by simp) (.int .i64 2) (.int .i64 0) (.int .i64 0) (.string ⟨#[]⟩)
  go_wp2_with fail
  have hblk : Blk (set5 wc w.heap.size 0 (leafTr 2 0 0 ⟨#[]⟩) ⟨none, 0, 0, []⟩) w.heap.size 29 _ := Blk.five_ Z5 (leafTr 2 0 0 ⟨#[]⟩) ⟨none, 0, 0, []⟩
  have hTR3 := hT5.set5_ (g2 := w.heap.size) (o := 0) (t := leafTr 2 0 0 ⟨#[]⟩) (e := ⟨none, 0, 0, []⟩) hgl
  have hfr3 : Fr [g] w (set5 wc w.heap.size 0 (leafTr 2 0 0 ⟨#[]⟩) ⟨none, 0, 0, []⟩) := fr_new5 f5 (Nat.le_refl _)
  have hres := fun (tm : Array Value) (hp : tm.getD 4 undef = .pointer (some ⟨w.heap.size, 0, none⟩)) => results_blk (P := Tryd.prog) (tmps := tm) Tryd.results89 Tryd.isAgg29 (by exact Tryd.sizeOf29) hp hblk
  refine bodyPost_ret (hres _ rfl) rfl ?_
  exact ⟨rfl, hTR3, hfr3⟩
end Go.Proofs.YticejlknbfhndaaDoor

namespace Go.Proofs.YticejlknbfhndaaDoor
open Go.RowKit

set_option maxHeartbeats 4000000 in
theorem i_value_other (g : Nat) (A : Option Addr) (n c : Nat) (l : List Tk) (p : Nat) (d : Int) (w : World) (h : TR w g A n c l p 0) (hd : 1 ≤ d) (hj : p < l.length) (hb1 : signB l p ⟨#[91]⟩ = false) (hb2 : signB l p ⟨#[123]⟩ = false) (hk2 : (l[p].k == 2) = false) (hk3 : (l[p].k == 3) = false) (hk4 : (l[p].k == 4) = false) :
    Calls Tryd.prog 89 #[.pointer (some ⟨g, 0, none⟩), .int .i64 d] w fun r w' => FailAt w w' g A n c l p 1 r := by
  have hl := h.len
  have hbd := h.bd
  have hp : p < n := by omega
  have k1 := Below.one w (.cells #[.int .i64 0, .int .i64 0, .int .i64 0, .string ⟨#[]⟩, .slice none 0 0] 29)
  have h1 := h.below k1
  have hZ := Blk.new w 29 #[.int .i64 0, .int .i64 0, .int .i64 0, .string ⟨#[]⟩, .slice none 0 0]
  obtain ⟨c0, c1, c2, c3⟩ := h1.cells
  have hgl := h.blk.lt
  have hdd : decide (d < 1) = false := by simp; omega
  have hpd : decide ((n : Int) ≤ (p : Int)) = false := by simp; omega
  have hpd2 : decide (n ≤ p) = false := by simp; omega
  have hpn : (p : Int) < (n : Int) := by omega
  have hwrp : IntKind.i64.wrap (p : Int) = (p : Int) := by rw [IntKind.wrap_i64]; omega
  have hp0 : (0 : Int) ≤ (p : Int) := by omega
  have hfr := Fr.of_below (fp := [g]) k1
  obtain ⟨u, hu⟩ : ∃ u, zeroT = u := ⟨_, rfl⟩
  have HU := Lib.hid hu
  unfold FailAt
  rw [hu]
  clear hu
  go_enter Tryd.func89, Tryd.ntmps89
  go_wp2_with fail
  go_quiet (fail)
  have hTR := h1.drewN nq
  have hZa := hZ.drewN nq
  replace hfr := hfr.drewN nq
  clear c0 c1 c2 c3 h1 hZ
  generalize (w.alloc (.cells #[.int .i64 0, .int .i64 0, .int .i64 0, .string ⟨#[]⟩, .slice none 0 0] 29)).drewN nq = wa at hTR hZa hfr ⊢
  go_wp2_with fail
  obtain ⟨g2, o, hj', rfl, hg2, q0, q1, q2, q3⟩ := hTR.sl.tok hp
  generalize l[p] = t at q0 q1 q2 q3 hk2 hk3 hk4
  obtain ⟨d0, d1, d2, d3⟩ := hTR.cells
  have hA := hTR.below (Below.one wa (.cells #[.int .i64 0, .string ⟨#[]⟩, .int .i64 0, .int .i64 0] 60))
  have kA := Below.one wa (.cells #[.int .i64 0, .string ⟨#[]⟩, .int .i64 0, .int .i64 0] 60)
  obtain ⟨e0, e1, e2, e3⟩ := hA.cells
  have r0 : ∀ k (v : Value), wa.cell? ⟨g2, k, none⟩ = some v → (wa.alloc (.cells #[.int .i64 0, .string ⟨#[]⟩, .int .i64 0, .int .i64 0] 60)).cell? ⟨g2, k, none⟩ = some v :=
    fun k v hv => (World.cell?_of_block (a := ⟨g2, k, none⟩) (kA.block g2 (Nat.lt_trans hg2 hTR.blk.lt))).trans hv
  have s0 := r0 _ _ q0
  have s1 := r0 _ _ q1
  have s2 := r0 _ _ q2
  have s3 := r0 _ _ q3
  clear r0
  go_region
  clear q0 q1 q2 q3 s0 s1 s2 s3 d0 d1 d2 d3 e0 e1 e2 e3 hA kA
  have k3 := Below.one wa (.cells #[.int .i64 t.k, .string t.s, .int .i64 t.n, .int .i64 t.x] 60)
  have hZl : w.heap.size < wa.heap.size := hZa.lt
  have hT4 : TR (wa.alloc (.cells #[.int .i64 t.k, .string t.s, .int .i64 t.n, .int .i64 t.x] 60)).drew g (some ⟨g2, o, none⟩) n c l p 0 := ⟨(hTR.below k3).blk, (hTR.below k3).sl.drew, hbd⟩
  have hZ4 := (hZa.below k3 hZl).drew
  have hB4 := (Blk.new wa 60 #[.int .i64 t.k, .string t.s, .int .i64 t.n, .int .i64 t.x]).drew
  have hfr4 : Fr [g] w (wa.alloc (.cells #[.int .i64 t.k, .string t.s, .int .i64 t.n, .int .i64 t.x] 60)).drew := (hfr.trans (Fr.of_below k3)).drew
  have hgl2 : g < wa.heap.size := hTR.blk.lt
  generalize wa.heap.size = b at hZl hB4 hgl2 ⊢
  generalize (wa.alloc (.cells #[.int .i64 t.k, .string t.s, .int .i64 t.n, .int .i64 t.x] 60)).drew = wb at hT4 hZ4 hB4 hfr4 ⊢
  clear hTR hZa hfr k3 wa
  have HA := i_is g _ n c l p 0 ⟨#[91]⟩ wb hT4
  have HB := fun m => i_is g _ n c l p 0 ⟨#[123]⟩ (wb.drewN m) (hT4.drewN m)
  rw [hb1] at HA
  rw [hb2] at HB
  clear hb1 hb2 h
  obtain ⟨d0, d1, d2, d3⟩ := hT4.cells
  have f1 := hT4.blk.frozen 1
  have e0 := hB4.cell 0
  have e1 := hB4.cell 1
  have e2 := hB4.cell 2
  have e3 := hB4.cell 3
  have hwrp1 : IntKind.i64.wrap ((p : Int) + 1) = (p : Int) + 1 := by rw [IntKind.wrap_i64]; omega
  have e1' : (wb.setCell ⟨g, 1, none⟩ (.int .i64 ((p : Int) + 1))).cell? ⟨b, 1, none⟩ = some (.string t.s) := (hB4.far (p := ⟨g, 1, none⟩) (by show b ≠ g; omega) (.int .i64 ((p : Int) + 1))).cell 1
  have HF := fun m => i_fail g _ n c l p 0 1 (wb.drewN m) (hT4.drewN m)
  simp only [if_true] at HF
  unfold FailAt at HF
  rw [HU.out] at HF
  have hTz := hZ4.lt
  go_wp2_with (have hq := HA; clear hq; go_at_call 128; refine HA.mono ?_; rintro r w5 ⟨rfl, m1, rfl⟩; clear HA)
  go_wp2_with (first
    | (go_at_call 128; refine (HB m1).mono ?_; rintro r w5 ⟨rfl, m2, rfl⟩; clear HB)
    | (go_at_call 127; refine (HF (m1 + m2)).mono ?_; rintro r w2 ⟨rfl, h2, hf2⟩; have BZ : Blk w2 w.heap.size 29 _ := (hf2.block w.heap.size hTz (by simp; omega)).trans hZ4; obtain ⟨x0, x1, x2, x3, x4, ⟨s0, t0⟩, ⟨s1, t1⟩, ⟨s2, t2⟩, ⟨s3, t3⟩, s4, t4⟩ := BZ.five (o := 0) (by simp) (.int .i64 u.k) (.int .i64 u.n) (.int .i64 u.x) (.string u.s)))
  have hblk : Blk (set5 w2 w.heap.size 0 u ⟨none, 0, 0, []⟩) w.heap.size 29 _ := Blk.five_ BZ u ⟨none, 0, 0, []⟩
  have hTR3 := h2.set5_ (g2 := w.heap.size) (o := 0) (t := u) (e := ⟨none, 0, 0, []⟩) hgl
  have hfr3 : Fr [g] w (set5 w2 w.heap.size 0 u ⟨none, 0, 0, []⟩) := fr_new5 ((hfr4.drewN (m1 + m2)).trans hf2) (Nat.le_refl _)
  have hres := fun (tm : Array Value) (hp : tm.getD 4 undef = .pointer (some ⟨w.heap.size, 0, none⟩)) => results_blk (P := Tryd.prog) (tmps := tm) Tryd.results89 Tryd.isAgg29 (by exact Tryd.sizeOf29) hp hblk
  refine bodyPost_ret (hres _ rfl) rfl ?_
  exact ⟨rfl, hTR3, hfr3⟩
set_option maxHeartbeats 4000000 in
theorem i_value_word (g : Nat) (A : Option Addr) (n c : Nat) (l : List Tk) (p : Nat) (d : Int) (w : World) (h : TR w g A n c l p 0) (hd : 1 ≤ d) (hj : p < l.length) (hb1 : signB l p ⟨#[91]⟩ = false) (hb2 : signB l p ⟨#[123]⟩ = false) (hk2 : (l[p].k == 2) = false) (hk3 : (l[p].k == 3) = false) (hk4 : (l[p].k == 4) = true) (hsnull : (l[p].s.toList == [110, 117, 108, 108]) = false) (hstrue : (l[p].s.toList == [116, 114, 117, 101]) = false) (hsfalse : (l[p].s.toList == [102, 97, 108, 115, 101]) = false) :
    Calls Tryd.prog 89 #[.pointer (some ⟨g, 0, none⟩), .int .i64 d] w fun r w' => FailAt w w' g A n c l p 1 r := by
  have hl := h.len
  have hbd := h.bd
  have hp : p < n := by omega
  have k1 := Below.one w (.cells #[.int .i64 0, .int .i64 0, .int .i64 0, .string ⟨#[]⟩, .slice none 0 0] 29)
  have h1 := h.below k1
  have hZ := Blk.new w 29 #[.int .i64 0, .int .i64 0, .int .i64 0, .string ⟨#[]⟩, .slice none 0 0]
  obtain ⟨c0, c1, c2, c3⟩ := h1.cells
  have hgl := h.blk.lt
  have hdd : decide (d < 1) = false := by simp; omega
  have hpd : decide ((n : Int) ≤ (p : Int)) = false := by simp; omega
  have hpd2 : decide (n ≤ p) = false := by simp; omega
  have hpn : (p : Int) < (n : Int) := by omega
  have hwrp : IntKind.i64.wrap (p : Int) = (p : Int) := by rw [IntKind.wrap_i64]; omega
  have hp0 : (0 : Int) ≤ (p : Int) := by omega
  have hfr := Fr.of_below (fp := [g]) k1
  obtain ⟨u, hu⟩ : ∃ u, zeroT = u := ⟨_, rfl⟩
  have HU := Lib.hid hu
  unfold FailAt
  rw [hu]
  clear hu
  go_enter Tryd.func89, Tryd.ntmps89
  go_wp2_with fail
  go_quiet (fail)
  have hTR := h1.drewN nq
  have hZa := hZ.drewN nq
  replace hfr := hfr.drewN nq
  clear c0 c1 c2 c3 h1 hZ
  generalize (w.alloc (.cells #[.int .i64 0, .int .i64 0, .int .i64 0, .string ⟨#[]⟩, .slice none 0 0] 29)).drewN nq = wa at hTR hZa hfr ⊢
  go_wp2_with fail
  obtain ⟨g2, o, hj', rfl, hg2, q0, q1, q2, q3⟩ := hTR.sl.tok hp
  generalize l[p] = t at q0 q1 q2 q3 hk2 hk3 hk4 hsnull hstrue hsfalse
  obtain ⟨d0, d1, d2, d3⟩ := hTR.cells
  have hA := hTR.below (Below.one wa (.cells #[.int .i64 0, .string ⟨#[]⟩, .int .i64 0, .int .i64 0] 60))
  have kA := Below.one wa (.cells #[.int .i64 0, .string ⟨#[]⟩, .int .i64 0, .int .i64 0] 60)
  obtain ⟨e0, e1, e2, e3⟩ := hA.cells
  have r0 : ∀ k (v : Value), wa.cell? ⟨g2, k, none⟩ = some v → (wa.alloc (.cells #[.int .i64 0, .string ⟨#[]⟩, .int .i64 0, .int .i64 0] 60)).cell? ⟨g2, k, none⟩ = some v :=
    fun k v hv => (World.cell?_of_block (a := ⟨g2, k, none⟩) (kA.block g2 (Nat.lt_trans hg2 hTR.blk.lt))).trans hv
  have s0 := r0 _ _ q0
  have s1 := r0 _ _ q1
  have s2 := r0 _ _ q2
  have s3 := r0 _ _ q3
  clear r0
  go_region
  clear q0 q1 q2 q3 s0 s1 s2 s3 d0 d1 d2 d3 e0 e1 e2 e3 hA kA
  have k3 := Below.one wa (.cells #[.int .i64 t.k, .string t.s, .int .i64 t.n, .int .i64 t.x] 60)
  have hZl : w.heap.size < wa.heap.size := hZa.lt
  have hT4 : TR (wa.alloc (.cells #[.int .i64 t.k, .string t.s, .int .i64 t.n, .int .i64 t.x] 60)).drew g (some ⟨g2, o, none⟩) n c l p 0 := ⟨(hTR.below k3).blk, (hTR.below k3).sl.drew, hbd⟩
  have hZ4 := (hZa.below k3 hZl).drew
  have hB4 := (Blk.new wa 60 #[.int .i64 t.k, .string t.s, .int .i64 t.n, .int .i64 t.x]).drew
  have hfr4 : Fr [g] w (wa.alloc (.cells #[.int .i64 t.k, .string t.s, .int .i64 t.n, .int .i64 t.x] 60)).drew := (hfr.trans (Fr.of_below k3)).drew
  have hgl2 : g < wa.heap.size := hTR.blk.lt
  generalize wa.heap.size = b at hZl hB4 hgl2 ⊢
  generalize (wa.alloc (.cells #[.int .i64 t.k, .string t.s, .int .i64 t.n, .int .i64 t.x] 60)).drew = wb at hT4 hZ4 hB4 hfr4 ⊢
  clear hTR hZa hfr k3 wa
  have HA := i_is g _ n c l p 0 ⟨#[91]⟩ wb hT4
  have HB := fun m => i_is g _ n c l p 0 ⟨#[123]⟩ (wb.drewN m) (hT4.drewN m)
  rw [hb1] at HA
  rw [hb2] at HB
  clear hb1 hb2 h
  obtain ⟨d0, d1, d2, d3⟩ := hT4.cells
  have f1 := hT4.blk.frozen 1
  have e0 := hB4.cell 0
  have e1 := hB4.cell 1
  have e2 := hB4.cell 2
  have e3 := hB4.cell 3
  have hwrp1 : IntKind.i64.wrap ((p : Int) + 1) = (p : Int) + 1 := by rw [IntKind.wrap_i64]; omega
  have e1' : (wb.setCell ⟨g, 1, none⟩ (.int .i64 ((p : Int) + 1))).cell? ⟨b, 1, none⟩ = some (.string t.s) := (hB4.far (p := ⟨g, 1, none⟩) (by show b ≠ g; omega) (.int .i64 ((p : Int) + 1))).cell 1
  have HF := fun m => i_fail g _ n c l p 0 1 (wb.drewN m) (hT4.drewN m)
  simp only [if_true] at HF
  unfold FailAt at HF
  rw [HU.out] at HF
  have hTz := hZ4.lt
  go_wp2_with (have hq := HA; clear hq; go_at_call 128; refine HA.mono ?_; rintro r w5 ⟨rfl, m1, rfl⟩; clear HA)
  go_wp2_with (first
    | (go_at_call 128; refine (HB m1).mono ?_; rintro r w5 ⟨rfl, m2, rfl⟩; clear HB)
    | (go_at_call 127; refine (HF (m1 + m2)).mono ?_; rintro r w2 ⟨rfl, h2, hf2⟩; have BZ : Blk w2 w.heap.size 29 _ := (hf2.block w.heap.size hTz (by simp; omega)).trans hZ4; obtain ⟨x0, x1, x2, x3, x4, ⟨s0, t0⟩, ⟨s1, t1⟩, ⟨s2, t2⟩, ⟨s3, t3⟩, s4, t4⟩ := BZ.five (o := 0) (by simp) (.int .i64 u.k) (.int .i64 u.n) (.int .i64 u.x) (.string u.s)))
  have hblk : Blk (set5 w2 w.heap.size 0 u ⟨none, 0, 0, []⟩) w.heap.size 29 _ := Blk.five_ BZ u ⟨none, 0, 0, []⟩
  have hTR3 := h2.set5_ (g2 := w.heap.size) (o := 0) (t := u) (e := ⟨none, 0, 0, []⟩) hgl
  have hfr3 : Fr [g] w (set5 w2 w.heap.size 0 u ⟨none, 0, 0, []⟩) := fr_new5 ((hfr4.drewN (m1 + m2)).trans hf2) (Nat.le_refl _)
  have hres := fun (tm : Array Value) (hp : tm.getD 4 undef = .pointer (some ⟨w.heap.size, 0, none⟩)) => results_blk (P := Tryd.prog) (tmps := tm) Tryd.results89 Tryd.isAgg29 (by exact Tryd.sizeOf29) hp hblk
  refine bodyPost_ret (hres _ rfl) rfl ?_
  exact ⟨rfl, hTR3, hfr3⟩
end Go.Proofs.YticejlknbfhndaaDoor

namespace Go.Proofs.YticejlknbfhndaaDoor
open Go.RowKit

abbrev NumS (w : World) (g b : Nat) (t : Tk) : Prop := w.cell? ⟨g, 3, none⟩ = some (.func (.func 52) #[] #[]) ∧ w.cell? ⟨b, 2, none⟩ = some (.int .i64 t.n) ∧ w.cell? ⟨b, 3, none⟩ = some (.int .i64 t.x)
theorem num_meet1 {w wd w6 : World} {g n c p : Nat} {A : Option Addr} {l : List Tk} {u0 : Tr} {ok : Bool} (hT : TR wd g A n c l p 0) (hZ : Blk wd w.heap.size 29 #[.int .i64 0, .int .i64 0, .int .i64 0, .string ⟨#[]⟩, .slice none 0 0]) (hf : Fr [g] w wd) (hb : Below wd.drew.heap.size wd.drew w6) (hz : w.heap.size < wd.heap.size) :
    ∃ gf, (Value.pointer (some ⟨w6.heap.size, 0, none⟩)) = .pointer (some ⟨gf, 0, none⟩) ∧ Value.bool ok = .bool ok ∧ TR (w6.alloc (.cells #[.int .i64 u0.k, .int .i64 u0.n, .int .i64 u0.x, .string u0.s, .slice none 0 0] 29)) g A n c l p 0 ∧ Blk (w6.alloc (.cells #[.int .i64 u0.k, .int .i64 u0.n, .int .i64 u0.x, .string u0.s, .slice none 0 0] 29)) w.heap.size 29 #[.int .i64 0, .int .i64 0, .int .i64 0, .string ⟨#[]⟩, .slice none 0 0] ∧ Blk (w6.alloc (.cells #[.int .i64 u0.k, .int .i64 u0.n, .int .i64 u0.x, .string u0.s, .slice none 0 0] 29)) gf 29 #[.int .i64 u0.k, .int .i64 u0.n, .int .i64 u0.x, .string u0.s, .slice none 0 0] ∧ Fr [g] w (w6.alloc (.cells #[.int .i64 u0.k, .int .i64 u0.n, .int .i64 u0.x, .string u0.s, .slice none 0 0] 29)) ∧ w.heap.size < gf := by
  have k6 : Below wd.heap.size wd w6 := (Below.refl wd.heap.size wd).drew.up hb
  have kk := k6.up (Below.one w6 (.cells #[.int .i64 u0.k, .int .i64 u0.n, .int .i64 u0.x, .string u0.s, .slice none 0 0] 29))
  exact ⟨w6.heap.size, rfl, rfl, hT.below kk, hZ.below kk hz, Blk.new _ _ _, hf.trans (Fr.of_below kk), Nat.lt_of_lt_of_le hz k6.size⟩
theorem num_meet2 {w wd w6 : World} {g n c p : Nat} {A : Option Addr} {l : List Tk} {u0 : Tr} {ok : Bool} (hT : TR wd g A n c l p 0) (hZ : Blk wd w.heap.size 29 #[.int .i64 0, .int .i64 0, .int .i64 0, .string ⟨#[]⟩, .slice none 0 0]) (hf : Fr [g] w wd) (hb : Below (wd.alloc (.cells #[.int .i64 0, .int .i64 0, .int .i64 0, .string ⟨#[]⟩, .slice none 0 0] 29)).drew.heap.size (wd.alloc (.cells #[.int .i64 0, .int .i64 0, .int .i64 0, .string ⟨#[]⟩, .slice none 0 0] 29)).drew w6) (hz : w.heap.size < wd.heap.size) (hg : g < wd.heap.size) :
    ∃ gf, (Value.pointer (some ⟨wd.heap.size, 0, none⟩)) = .pointer (some ⟨gf, 0, none⟩) ∧ Value.bool ok = .bool ok ∧ TR (set5 w6 wd.heap.size 0 u0 ⟨none, 0, 0, []⟩) g A n c l p 0 ∧ Blk (set5 w6 wd.heap.size 0 u0 ⟨none, 0, 0, []⟩) w.heap.size 29 #[.int .i64 0, .int .i64 0, .int .i64 0, .string ⟨#[]⟩, .slice none 0 0] ∧ Blk (set5 w6 wd.heap.size 0 u0 ⟨none, 0, 0, []⟩) gf 29 #[.int .i64 u0.k, .int .i64 u0.n, .int .i64 u0.x, .string u0.s, .slice none 0 0] ∧ Fr [g] w (set5 w6 wd.heap.size 0 u0 ⟨none, 0, 0, []⟩) ∧ w.heap.size < gf := by
  have k6 : Below wd.heap.size wd w6 := (Below.one wd _).drew.up hb
  have B6 := ((Blk.new wd 29 #[.int .i64 0, .int .i64 0, .int .i64 0, .string ⟨#[]⟩, .slice none 0 0]).drew).below hb (by simp)
  exact ⟨wd.heap.size, rfl, rfl, (hT.below k6).set5_ hg, (hZ.below k6 hz).far5 (by omega), Blk.five_ B6 u0 ⟨none, 0, 0, []⟩, fr_new5 (hf.trans (Fr.of_below k6)) (Nat.le_of_lt hz), hz⟩
set_option maxHeartbeats 4000000 in
theorem i_value_numno (g : Nat) (A : Option Addr) (n c : Nat) (l : List Tk) (p : Nat) (d : Int) (w : World) (h : TR w g A n c l p 0) (hd : 1 ≤ d) (hj : p < l.length) (hb1 : signB l p ⟨#[91]⟩ = false) (hb2 : signB l p ⟨#[123]⟩ = false) (hk2 : (l[p].k == 2) = false) (hk3 : (l[p].k == 3) = true) (u0 : Tr) (hD : ∀ w1, PowT w1 → Calls Tryd.prog 52 #[.int .i64 l[p].n, .int .i64 l[p].x] w1 fun r w' => r = .returned (.tuple #[trV u0 ⟨none, 0, 0, []⟩, .bool false]) ∧ Below w1.heap.size w1 w') (hP : ∀ w1, Fr [g] w w1 → PowT w1) :
    Calls Tryd.prog 89 #[.pointer (some ⟨g, 0, none⟩), .int .i64 d] w fun r w' => FailAt w w' g A n c l p 2 r := by
  have hl := h.len
  have hbd := h.bd
  have hp : p < n := by omega
  have k1 := Below.one w (.cells #[.int .i64 0, .int .i64 0, .int .i64 0, .string ⟨#[]⟩, .slice none 0 0] 29)
  have h1 := h.below k1
  have hZ := Blk.new w 29 #[.int .i64 0, .int .i64 0, .int .i64 0, .string ⟨#[]⟩, .slice none 0 0]
  obtain ⟨c0, c1, c2, c3⟩ := h1.cells
  have hgl := h.blk.lt
  have hdd : decide (d < 1) = false := by simp; omega
  have hpd : decide ((n : Int) ≤ (p : Int)) = false := by simp; omega
  have hpd2 : decide (n ≤ p) = false := by simp; omega
  have hpn : (p : Int) < (n : Int) := by omega
  have hwrp : IntKind.i64.wrap (p : Int) = (p : Int) := by rw [IntKind.wrap_i64]; omega
  have hp0 : (0 : Int) ≤ (p : Int) := by omega
  have hfr := Fr.of_below (fp := [g]) k1
  obtain ⟨u, hu⟩ : ∃ u, zeroT = u := ⟨_, rfl⟩
  have HU := Lib.hid hu
  unfold FailAt
  rw [hu]
  clear hu
  go_enter Tryd.func89, Tryd.ntmps89
  go_wp2_with fail
  go_quiet (fail)
  have hTR := h1.drewN nq
  have hZa := hZ.drewN nq
  replace hfr := hfr.drewN nq
  clear c0 c1 c2 c3 h1 hZ
  generalize (w.alloc (.cells #[.int .i64 0, .int .i64 0, .int .i64 0, .string ⟨#[]⟩, .slice none 0 0] 29)).drewN nq = wa at hTR hZa hfr ⊢
  go_wp2_with fail
  obtain ⟨g2, o, hj', rfl, hg2, q0, q1, q2, q3⟩ := hTR.sl.tok hp
  generalize l[p] = t at q0 q1 q2 q3 hk2 hk3 hD
  obtain ⟨d0, d1, d2, d3⟩ := hTR.cells
  have hA := hTR.below (Below.one wa (.cells #[.int .i64 0, .string ⟨#[]⟩, .int .i64 0, .int .i64 0] 60))
  have kA := Below.one wa (.cells #[.int .i64 0, .string ⟨#[]⟩, .int .i64 0, .int .i64 0] 60)
  obtain ⟨e0, e1, e2, e3⟩ := hA.cells
  have r0 : ∀ k (v : Value), wa.cell? ⟨g2, k, none⟩ = some v → (wa.alloc (.cells #[.int .i64 0, .string ⟨#[]⟩, .int .i64 0, .int .i64 0] 60)).cell? ⟨g2, k, none⟩ = some v :=
    fun k v hv => (World.cell?_of_block (a := ⟨g2, k, none⟩) (kA.block g2 (Nat.lt_trans hg2 hTR.blk.lt))).trans hv
  have s0 := r0 _ _ q0
  have s1 := r0 _ _ q1
  have s2 := r0 _ _ q2
  have s3 := r0 _ _ q3
  clear r0
  go_region
  clear q0 q1 q2 q3 s0 s1 s2 s3 d0 d1 d2 d3 e0 e1 e2 e3 hA kA
  have k3 := Below.one wa (.cells #[.int .i64 t.k, .string t.s, .int .i64 t.n, .int .i64 t.x] 60)
  have hZl : w.heap.size < wa.heap.size := hZa.lt
  have hT4 : TR (wa.alloc (.cells #[.int .i64 t.k, .string t.s, .int .i64 t.n, .int .i64 t.x] 60)).drew g (some ⟨g2, o, none⟩) n c l p 0 := ⟨(hTR.below k3).blk, (hTR.below k3).sl.drew, hbd⟩
  have hZ4 := (hZa.below k3 hZl).drew
  have hB4 := (Blk.new wa 60 #[.int .i64 t.k, .string t.s, .int .i64 t.n, .int .i64 t.x]).drew
  have hfr4 : Fr [g] w (wa.alloc (.cells #[.int .i64 t.k, .string t.s, .int .i64 t.n, .int .i64 t.x] 60)).drew := (hfr.trans (Fr.of_below k3)).drew
  have hgl2 : g < wa.heap.size := hTR.blk.lt
  generalize wa.heap.size = b at hZl hB4 hgl2 ⊢
  generalize (wa.alloc (.cells #[.int .i64 t.k, .string t.s, .int .i64 t.n, .int .i64 t.x] 60)).drew = wb at hT4 hZ4 hB4 hfr4 ⊢
  clear hTR hZa hfr k3 wa
  have HA := i_is g _ n c l p 0 ⟨#[91]⟩ wb hT4
  have HB := fun m => i_is g _ n c l p 0 ⟨#[123]⟩ (wb.drewN m) (hT4.drewN m)
  rw [hb1] at HA
  rw [hb2] at HB
  clear hb1 hb2 h
  obtain ⟨d0, d1, d2, d3⟩ := hT4.cells
  have f1 := hT4.blk.frozen 1
  have e0 := hB4.cell 0
  have e1 := hB4.cell 1
  have e2 := hB4.cell 2
  have e3 := hB4.cell 3
  have hwrp1 : IntKind.i64.wrap ((p : Int) + 1) = (p : Int) + 1 := by rw [IntKind.wrap_i64]; omega
  have e1' : (wb.setCell ⟨g, 1, none⟩ (.int .i64 ((p : Int) + 1))).cell? ⟨b, 1, none⟩ = some (.string t.s) := (hB4.far (p := ⟨g, 1, none⟩) (by show b ≠ g; omega) (.int .i64 ((p : Int) + 1))).cell 1
  have hcf : ∀ args w, (callFunc 52 args).run Tryd.prog w = .ok (.enter 52 args) w := enters_decimal
  go_wp2_with (have hq := HA; clear hq; go_at_call 128; refine HA.mono ?_; rintro r w5 ⟨rfl, m1, rfl⟩; clear HA)
  go_upto_region 16 with (go_at_call 128; refine (HB m1).mono ?_; rintro r w5 ⟨rfl, m2, rfl⟩; clear HB)
  have hT5 := hT4.drewN (m1 + m2)
  have Z5 := hZ4.drewN (m1 + m2)
  have B5 := hB4.drewN (m1 + m2)
  have fr5 := hfr4.drewN (m1 + m2)
  clear d0 d1 d2 d3 f1 e0 e1 e2 e3 e1'
  generalize wb.drewN (m1 + m2) = wd at hT5 Z5 fr5 B5 ⊢
  clear hT4 hZ4 hB4 hfr4
  obtain ⟨d0, d1, d2, d3⟩ := hT5.cells
  have e2 := B5.cell 2
  have e3 := B5.cell 3
  simp only [List.getElem?_toArray, List.getElem?_cons_succ, List.getElem?_cons_zero] at e2 e3
  obtain ⟨c0, c1, c2, c3⟩ := (hT5.below (Below.one wd (.cells #[.int .i64 0, .int .i64 0, .int .i64 0, .string ⟨#[]⟩, .slice none 0 0] 29))).cells
  have b2 := (B5.alloc (.cells #[.int .i64 0, .int .i64 0, .int .i64 0, .string ⟨#[]⟩, .slice none 0 0] 29)).cell 2
  have b3 := (B5.alloc (.cells #[.int .i64 0, .int .i64 0, .int .i64 0, .string ⟨#[]⟩, .slice none 0 0] 29)).cell 3
  simp only [List.getElem?_toArray, List.getElem?_cons_succ, List.getElem?_cons_zero] at b2 b3
  have HC := fun w1 (hb : Below wd.heap.size wd w1) => hD w1 (hP _ (fr5.trans (Fr.of_below hb)))
  clear hD hP
  have kd := Below.one wd (.cells #[.int .i64 0, .int .i64 0, .int .i64 0, .string ⟨#[]⟩, .slice none 0 0] 29)
  have zd := Z5.lt
  have hbl : b < wd.heap.size := B5.lt
  have zg : g < wd.heap.size := hT5.blk.lt
  go_cut [6, 7] from 73 (fun s6 s7 w' => ∃ gf, s6 = .pointer (some ⟨gf, 0, none⟩) ∧ s7 = .bool false ∧ TR w' g (some ⟨g2, o, none⟩) n c l p 0 ∧ Blk w' w.heap.size 29 #[.int .i64 0, .int .i64 0, .int .i64 0, .string ⟨#[]⟩, .slice none 0 0] ∧ Blk w' gf 29 #[.int .i64 u0.k, .int .i64 u0.n, .int .i64 u0.x, .string u0.s, .slice none 0 0] ∧ Fr [g] w w' ∧ w.heap.size < gf)
  case first =>
    have hFV := fun w6 (hb6 : Below (wd.alloc (.cells #[.int .i64 0, .int .i64 0, .int .i64 0, .string ⟨#[]⟩, .slice none 0 0] 29)).drew.heap.size (wd.alloc (.cells #[.int .i64 0, .int .i64 0, .int .i64 0, .string ⟨#[]⟩, .slice none 0 0] 29)).drew w6) => (((Blk.new wd 29 #[.int .i64 0, .int .i64 0, .int .i64 0, .string ⟨#[]⟩, .slice none 0 0]).drew).below hb6 (by simp)).five (o := 0) (by simp) (.int .i64 u0.k) (.int .i64 u0.n) (.int .i64 u0.x) (.string u0.s)
    have hC1 := HC _ (Below.refl _ _).drew
    have hC2 := HC _ (Below.one wd (.cells #[.int .i64 0, .int .i64 0, .int .i64 0, .string ⟨#[]⟩, .slice none 0 0] 29)).drew
    clear HC
    have hS0 : ∀ w', Below wd.heap.size wd w' → NumS w' g b t ∧ Below wd.heap.size wd w' := fun w' hb => ⟨⟨((hT5.below hb).cells).2.2.2, (hb.cell (p := ⟨b, 2, none⟩) hbl).trans e2, (hb.cell (p := ⟨b, 3, none⟩) hbl).trans e3⟩, hb⟩
    have hS1 := hS0 _ (Below.refl wd.heap.size wd).drew
    have hS2 := hS0 _ kd.drew
    have hS3 := fun w6 (h : Below wd.drew.heap.size wd.drew w6) => hS0 w6 ((Below.refl wd.heap.size wd).drew.up h)
    have hS4 := fun w6 (h : Below (wd.alloc (.cells #[.int .i64 0, .int .i64 0, .int .i64 0, .string ⟨#[]⟩, .slice none 0 0] 29)).drew.heap.size (wd.alloc (.cells #[.int .i64 0, .int .i64 0, .int .i64 0, .string ⟨#[]⟩, .slice none 0 0] 29)).drew w6) => hS0 w6 (kd.drew.up h)
    have hS5 := fun w6 (h : NumS w6 g b t ∧ Below wd.heap.size wd w6) => hS0 _ (h.2.up (Below.one w6 (.cells #[.int .i64 0, .int .i64 0, .int .i64 0, .string ⟨#[]⟩, .slice none 0 0] 29)))
    have hS6 := fun w6 (h : NumS w6 g b t ∧ Below wd.heap.size wd w6) => hS0 _ (h.2.up (Below.one w6 (.cells #[.int .i64 u0.k, .int .i64 u0.n, .int .i64 u0.x, .string u0.s, .slice none 0 0] 29)))
    have hS7 : ∀ w6, (NumS w6 g b t ∧ Below wd.heap.size wd w6) → (fun w' => NumS w' g b t ∧ Below wd.heap.size wd w') (((((w6.setCell ⟨wd.heap.size, 0, none⟩ (.int .i64 u0.k)).setCell ⟨wd.heap.size, 1, none⟩ (.int .i64 u0.n)).setCell ⟨wd.heap.size, 2, none⟩ (.int .i64 u0.x)).setCell ⟨wd.heap.size, 3, none⟩ (.string u0.s)).setCell ⟨wd.heap.size, 4, none⟩ (.slice none 0 0)) :=
      fun w6 h => hS0 _ (below_set5 (g := wd.heap.size) (o := 0) (t := u0) (e := ⟨none, 0, 0, []⟩) h.2 (Nat.le_refl _))
    simp only at hS7
    clear c0 c1 c2 c3 b2 b3 d0 d1 d2 d3 e2 e3 hS0
    go_region_held3 (fun w' => NumS w' g b t ∧ Below wd.heap.size wd w')
      (with_reducible first | exact hS1 | exact hS2 | exact hS3 _ hb6 | exact hS4 _ hb6 | exact hS5 _ hk6 | exact hS6 _ hk6 | exact hS7 _ hk6)
      (first
        | (with_reducible refine hC1.mono ?_; rintro r w6 ⟨rfl, hb6⟩; have hk6 := hS3 _ hb6)
        | (with_reducible refine hC2.mono ?_; rintro r w6 ⟨rfl, hb6⟩; have hk6 := hS4 _ hb6; obtain ⟨x0, x1, x2, x3, x4, ⟨s0, t0⟩, ⟨s1, t1⟩, ⟨s2, t2⟩, ⟨s3, t3⟩, s4, t4⟩ := hFV _ hb6))
    all_goals
      go_wp2_with fail
      go_meet
      case rel =>
        first
        | exact num_meet1 hT5 Z5 fr5 hb6 zd
        | exact num_meet2 hT5 Z5 fr5 hb6 zd zg
  case rest =>
    obtain ⟨gf, rfl, rfl, hT6, Z6, B6, fr6, hgf⟩ := hcut
    clear hT5 Z5 fr5 kd zd zg HC
    have HF := i_fail g _ n c l p 0 2 _ hT6
    simp only [if_true] at HF
    unfold FailAt at HF
    rw [HU.out] at HF
    have hTz := Z6.lt
    go_wp2_with (go_at_call 127; refine HF.mono ?_; rintro r w2 ⟨rfl, h2, hf2⟩; have BZ : Blk w2 w.heap.size 29 _ := (hf2.block w.heap.size hTz (by simp; omega)).trans Z6; obtain ⟨x0, x1, x2, x3, x4, ⟨s0, t0⟩, ⟨s1, t1⟩, ⟨s2, t2⟩, ⟨s3, t3⟩, s4, t4⟩ := BZ.five (o := 0) (by simp) (.int .i64 u.k) (.int .i64 u.n) (.int .i64 u.x) (.string u.s))
    have hblk : Blk (set5 w2 w.heap.size 0 u ⟨none, 0, 0, []⟩) w.heap.size 29 _ := Blk.five_ BZ u ⟨none, 0, 0, []⟩
    have hTR3 := h2.set5_ (g2 := w.heap.size) (o := 0) (t := u) (e := ⟨none, 0, 0, []⟩) hgl
    have hfr3 : Fr [g] w (set5 w2 w.heap.size 0 u ⟨none, 0, 0, []⟩) := fr_new5 (fr6.trans hf2) (Nat.le_refl _)
    have hres := fun (tm : Array Value) (hp : tm.getD 4 undef = .pointer (some ⟨w.heap.size, 0, none⟩)) => results_blk (P := Tryd.prog) (tmps := tm) Tryd.results89 Tryd.isAgg29 (by exact Tryd.sizeOf29) hp hblk
    refine bodyPost_ret (hres _ rfl) rfl ?_
    exact ⟨rfl, hTR3, hfr3⟩
set_option maxHeartbeats 4000000 in
theorem i_value_numyes (g : Nat) (A : Option Addr) (n c : Nat) (l : List Tk) (p : Nat) (d : Int) (w : World) (h : TR w g A n c l p 0) (hd : 1 ≤ d) (hj : p < l.length) (hb1 : signB l p ⟨#[91]⟩ = false) (hb2 : signB l p ⟨#[123]⟩ = false) (hk2 : (l[p].k == 2) = false) (hk3 : (l[p].k == 3) = true) (u0 : Tr) (hD : ∀ w1, PowT w1 → Calls Tryd.prog 52 #[.int .i64 l[p].n, .int .i64 l[p].x] w1 fun r w' => r = .returned (.tuple #[trV u0 ⟨none, 0, 0, []⟩, .bool true]) ∧ Below w1.heap.size w1 w') (hP : ∀ w1, Fr [g] w w1 → PowT w1) :
    Calls Tryd.prog 89 #[.pointer (some ⟨g, 0, none⟩), .int .i64 d] w fun r w' => LeafAt w w' g A n c l (p + 1) 0 u0 r := by
  have hl := h.len
  have hbd := h.bd
  have hp : p < n := by omega
  have k1 := Below.one w (.cells #[.int .i64 0, .int .i64 0, .int .i64 0, .string ⟨#[]⟩, .slice none 0 0] 29)
  have h1 := h.below k1
  have hZ := Blk.new w 29 #[.int .i64 0, .int .i64 0, .int .i64 0, .string ⟨#[]⟩, .slice none 0 0]
  obtain ⟨c0, c1, c2, c3⟩ := h1.cells
  have hgl := h.blk.lt
  have hdd : decide (d < 1) = false := by simp; omega
  have hpd : decide ((n : Int) ≤ (p : Int)) = false := by simp; omega
  have hpd2 : decide (n ≤ p) = false := by simp; omega
  have hpn : (p : Int) < (n : Int) := by omega
  have hwrp : IntKind.i64.wrap (p : Int) = (p : Int) := by rw [IntKind.wrap_i64]; omega
  have hp0 : (0 : Int) ≤ (p : Int) := by omega
  have hfr := Fr.of_below (fp := [g]) k1
  go_enter Tryd.func89, Tryd.ntmps89
  go_wp2_with fail
  go_quiet (fail)
  have hTR := h1.drewN nq
  have hZa := hZ.drewN nq
  replace hfr := hfr.drewN nq
  clear c0 c1 c2 c3 h1 hZ
  generalize (w.alloc (.cells #[.int .i64 0, .int .i64 0, .int .i64 0, .string ⟨#[]⟩, .slice none 0 0] 29)).drewN nq = wa at hTR hZa hfr ⊢
  go_wp2_with fail
  obtain ⟨g2, o, hj', rfl, hg2, q0, q1, q2, q3⟩ := hTR.sl.tok hp
  generalize l[p] = t at q0 q1 q2 q3 hk2 hk3 hD
  obtain ⟨d0, d1, d2, d3⟩ := hTR.cells
  have hA := hTR.below (Below.one wa (.cells #[.int .i64 0, .string ⟨#[]⟩, .int .i64 0, .int .i64 0] 60))
  have kA := Below.one wa (.cells #[.int .i64 0, .string ⟨#[]⟩, .int .i64 0, .int .i64 0] 60)
  obtain ⟨e0, e1, e2, e3⟩ := hA.cells
  have r0 : ∀ k (v : Value), wa.cell? ⟨g2, k, none⟩ = some v → (wa.alloc (.cells #[.int .i64 0, .string ⟨#[]⟩, .int .i64 0, .int .i64 0] 60)).cell? ⟨g2, k, none⟩ = some v :=
    fun k v hv => (World.cell?_of_block (a := ⟨g2, k, none⟩) (kA.block g2 (Nat.lt_trans hg2 hTR.blk.lt))).trans hv
  have s0 := r0 _ _ q0
  have s1 := r0 _ _ q1
  have s2 := r0 _ _ q2
  have s3 := r0 _ _ q3
  clear r0
  go_region
  clear q0 q1 q2 q3 s0 s1 s2 s3 d0 d1 d2 d3 e0 e1 e2 e3 hA kA
  have k3 := Below.one wa (.cells #[.int .i64 t.k, .string t.s, .int .i64 t.n, .int .i64 t.x] 60)
  have hZl : w.heap.size < wa.heap.size := hZa.lt
  have hT4 : TR (wa.alloc (.cells #[.int .i64 t.k, .string t.s, .int .i64 t.n, .int .i64 t.x] 60)).drew g (some ⟨g2, o, none⟩) n c l p 0 := ⟨(hTR.below k3).blk, (hTR.below k3).sl.drew, hbd⟩
  have hZ4 := (hZa.below k3 hZl).drew
  have hB4 := (Blk.new wa 60 #[.int .i64 t.k, .string t.s, .int .i64 t.n, .int .i64 t.x]).drew
  have hfr4 : Fr [g] w (wa.alloc (.cells #[.int .i64 t.k, .string t.s, .int .i64 t.n, .int .i64 t.x] 60)).drew := (hfr.trans (Fr.of_below k3)).drew
  have hgl2 : g < wa.heap.size := hTR.blk.lt
  generalize wa.heap.size = b at hZl hB4 hgl2 ⊢
  generalize (wa.alloc (.cells #[.int .i64 t.k, .string t.s, .int .i64 t.n, .int .i64 t.x] 60)).drew = wb at hT4 hZ4 hB4 hfr4 ⊢
  clear hTR hZa hfr k3 wa
  have HA := i_is g _ n c l p 0 ⟨#[91]⟩ wb hT4
  have HB := fun m => i_is g _ n c l p 0 ⟨#[123]⟩ (wb.drewN m) (hT4.drewN m)
  rw [hb1] at HA
  rw [hb2] at HB
  clear hb1 hb2 h
  obtain ⟨d0, d1, d2, d3⟩ := hT4.cells
  have f1 := hT4.blk.frozen 1
  have e0 := hB4.cell 0
  have e1 := hB4.cell 1
  have e2 := hB4.cell 2
  have e3 := hB4.cell 3
  have hwrp1 : IntKind.i64.wrap ((p : Int) + 1) = (p : Int) + 1 := by rw [IntKind.wrap_i64]; omega
  have e1' : (wb.setCell ⟨g, 1, none⟩ (.int .i64 ((p : Int) + 1))).cell? ⟨b, 1, none⟩ = some (.string t.s) := (hB4.far (p := ⟨g, 1, none⟩) (by show b ≠ g; omega) (.int .i64 ((p : Int) + 1))).cell 1
  have hcf : ∀ args w, (callFunc 52 args).run Tryd.prog w = .ok (.enter 52 args) w := enters_decimal
  go_wp2_with (have hq := HA; clear hq; go_at_call 128; refine HA.mono ?_; rintro r w5 ⟨rfl, m1, rfl⟩; clear HA)
  go_upto_region 16 with (go_at_call 128; refine (HB m1).mono ?_; rintro r w5 ⟨rfl, m2, rfl⟩; clear HB)
  have hT5 := hT4.drewN (m1 + m2)
  have Z5 := hZ4.drewN (m1 + m2)
  have B5 := hB4.drewN (m1 + m2)
  have fr5 := hfr4.drewN (m1 + m2)
  clear d0 d1 d2 d3 f1 e0 e1 e2 e3 e1'
  generalize wb.drewN (m1 + m2) = wd at hT5 Z5 fr5 B5 ⊢
  clear hT4 hZ4 hB4 hfr4
  obtain ⟨d0, d1, d2, d3⟩ := hT5.cells
  have e2 := B5.cell 2
  have e3 := B5.cell 3
  simp only [List.getElem?_toArray, List.getElem?_cons_succ, List.getElem?_cons_zero] at e2 e3
  obtain ⟨c0, c1, c2, c3⟩ := (hT5.below (Below.one wd (.cells #[.int .i64 0, .int .i64 0, .int .i64 0, .string ⟨#[]⟩, .slice none 0 0] 29))).cells
  have b2 := (B5.alloc (.cells #[.int .i64 0, .int .i64 0, .int .i64 0, .string ⟨#[]⟩, .slice none 0 0] 29)).cell 2
  have b3 := (B5.alloc (.cells #[.int .i64 0, .int .i64 0, .int .i64 0, .string ⟨#[]⟩, .slice none 0 0] 29)).cell 3
  simp only [List.getElem?_toArray, List.getElem?_cons_succ, List.getElem?_cons_zero] at b2 b3
  have HC := fun w1 (hb : Below wd.heap.size wd w1) => hD w1 (hP _ (fr5.trans (Fr.of_below hb)))
  clear hD hP
  have kd := Below.one wd (.cells #[.int .i64 0, .int .i64 0, .int .i64 0, .string ⟨#[]⟩, .slice none 0 0] 29)
  have zd := Z5.lt
  have hbl : b < wd.heap.size := B5.lt
  have zg : g < wd.heap.size := hT5.blk.lt
  go_cut [6, 7] from 73 (fun s6 s7 w' => ∃ gf, s6 = .pointer (some ⟨gf, 0, none⟩) ∧ s7 = .bool true ∧ TR w' g (some ⟨g2, o, none⟩) n c l p 0 ∧ Blk w' w.heap.size 29 #[.int .i64 0, .int .i64 0, .int .i64 0, .string ⟨#[]⟩, .slice none 0 0] ∧ Blk w' gf 29 #[.int .i64 u0.k, .int .i64 u0.n, .int .i64 u0.x, .string u0.s, .slice none 0 0] ∧ Fr [g] w w' ∧ w.heap.size < gf)
  case first =>
    have hFV := fun w6 (hb6 : Below (wd.alloc (.cells #[.int .i64 0, .int .i64 0, .int .i64 0, .string ⟨#[]⟩, .slice none 0 0] 29)).drew.heap.size (wd.alloc (.cells #[.int .i64 0, .int .i64 0, .int .i64 0, .string ⟨#[]⟩, .slice none 0 0] 29)).drew w6) => (((Blk.new wd 29 #[.int .i64 0, .int .i64 0, .int .i64 0, .string ⟨#[]⟩, .slice none 0 0]).drew).below hb6 (by simp)).five (o := 0) (by simp) (.int .i64 u0.k) (.int .i64 u0.n) (.int .i64 u0.x) (.string u0.s)
    have hC1 := HC _ (Below.refl _ _).drew
    have hC2 := HC _ (Below.one wd (.cells #[.int .i64 0, .int .i64 0, .int .i64 0, .string ⟨#[]⟩, .slice none 0 0] 29)).drew
    clear HC
    have hS0 : ∀ w', Below wd.heap.size wd w' → NumS w' g b t ∧ Below wd.heap.size wd w' := fun w' hb => ⟨⟨((hT5.below hb).cells).2.2.2, (hb.cell (p := ⟨b, 2, none⟩) hbl).trans e2, (hb.cell (p := ⟨b, 3, none⟩) hbl).trans e3⟩, hb⟩
    have hS1 := hS0 _ (Below.refl wd.heap.size wd).drew
    have hS2 := hS0 _ kd.drew
    have hS3 := fun w6 (h : Below wd.drew.heap.size wd.drew w6) => hS0 w6 ((Below.refl wd.heap.size wd).drew.up h)
    have hS4 := fun w6 (h : Below (wd.alloc (.cells #[.int .i64 0, .int .i64 0, .int .i64 0, .string ⟨#[]⟩, .slice none 0 0] 29)).drew.heap.size (wd.alloc (.cells #[.int .i64 0, .int .i64 0, .int .i64 0, .string ⟨#[]⟩, .slice none 0 0] 29)).drew w6) => hS0 w6 (kd.drew.up h)
    have hS5 := fun w6 (h : NumS w6 g b t ∧ Below wd.heap.size wd w6) => hS0 _ (h.2.up (Below.one w6 (.cells #[.int .i64 0, .int .i64 0, .int .i64 0, .string ⟨#[]⟩, .slice none 0 0] 29)))
    have hS6 := fun w6 (h : NumS w6 g b t ∧ Below wd.heap.size wd w6) => hS0 _ (h.2.up (Below.one w6 (.cells #[.int .i64 u0.k, .int .i64 u0.n, .int .i64 u0.x, .string u0.s, .slice none 0 0] 29)))
    have hS7 : ∀ w6, (NumS w6 g b t ∧ Below wd.heap.size wd w6) → (fun w' => NumS w' g b t ∧ Below wd.heap.size wd w') (((((w6.setCell ⟨wd.heap.size, 0, none⟩ (.int .i64 u0.k)).setCell ⟨wd.heap.size, 1, none⟩ (.int .i64 u0.n)).setCell ⟨wd.heap.size, 2, none⟩ (.int .i64 u0.x)).setCell ⟨wd.heap.size, 3, none⟩ (.string u0.s)).setCell ⟨wd.heap.size, 4, none⟩ (.slice none 0 0)) :=
      fun w6 h => hS0 _ (below_set5 (g := wd.heap.size) (o := 0) (t := u0) (e := ⟨none, 0, 0, []⟩) h.2 (Nat.le_refl _))
    simp only at hS7
    clear c0 c1 c2 c3 b2 b3 d0 d1 d2 d3 e2 e3 hS0
    go_region_held3 (fun w' => NumS w' g b t ∧ Below wd.heap.size wd w')
      (with_reducible first | exact hS1 | exact hS2 | exact hS3 _ hb6 | exact hS4 _ hb6 | exact hS5 _ hk6 | exact hS6 _ hk6 | exact hS7 _ hk6)
      (first
        | (with_reducible refine hC1.mono ?_; rintro r w6 ⟨rfl, hb6⟩; have hk6 := hS3 _ hb6)
        | (with_reducible refine hC2.mono ?_; rintro r w6 ⟨rfl, hb6⟩; have hk6 := hS4 _ hb6; obtain ⟨x0, x1, x2, x3, x4, ⟨s0, t0⟩, ⟨s1, t1⟩, ⟨s2, t2⟩, ⟨s3, t3⟩, s4, t4⟩ := hFV _ hb6))
    all_goals
      go_wp2_with fail
      go_meet
      case rel =>
        first
        | exact num_meet1 hT5 Z5 fr5 hb6 zd
        | exact num_meet2 hT5 Z5 fr5 hb6 zd zg
  case rest =>
    obtain ⟨gf, rfl, rfl, hT6, Z6, B6, fr6, hgf⟩ := hcut
    clear hT5 Z5 fr5 kd zd zg HC
    obtain ⟨d0, d1, d2, d3⟩ := hT6.cells
    have f1 := hT6.blk.frozen 1
    have hT7 := hT6.setAt (p + 1)
    have Z7 := Z6.far (p := ⟨g, 1, none⟩) (by show w.heap.size ≠ g; omega) (.int .i64 ((p + 1 : Nat) : Int))
    have B7 := B6.far (p := ⟨g, 1, none⟩) (by show gf ≠ g; omega) (.int .i64 ((p + 1 : Nat) : Int))
    have f7 := fr6.setCell (p := ⟨g, 1, none⟩) (by simp) (.int .i64 ((p + 1 : Nat) : Int))
    go_upto_region 20 with fail
    rw [show ((p : Int) + 1) = ((p + 1 : Nat) : Int) by omega]
    generalize wc.setCell ⟨g, 1, none⟩ (.int .i64 ((p + 1 : Nat) : Int)) = we at hT7 Z7 B7 f7 ⊢
    clear hT6 Z6 B6 fr6 d0 d1 d2 d3 f1
    have b0 := B7.cell 0
    have b1 := B7.cell 1
    have b2 := B7.cell 2
    have b3 := B7.cell 3
    have b4 := B7.cell 4
    simp only [List.getElem?_toArray, List.getElem?_cons_succ, List.getElem?_cons_zero] at b0 b1 b2 b3 b4
    obtain ⟨x0, x1, x2, x3, x4, ⟨s0, t0⟩, ⟨s1, t1⟩, ⟨s2, t2⟩, ⟨s3, t3⟩, s4, t4⟩ := Z7.five (o := 0) (by simp) (.int .i64 u0.k) (.int .i64 u0.n) (.int .i64 u0.x) (.string u0.s)
    go_wp2_with fail
    have hblk : Blk (set5 we w.heap.size 0 u0 ⟨none, 0, 0, []⟩) w.heap.size 29 _ := Blk.five_ Z7 u0 ⟨none, 0, 0, []⟩
    have hTR3 := hT7.set5_ (g2 := w.heap.size) (o := 0) (t := u0) (e := ⟨none, 0, 0, []⟩) hgl
    have hfr3 : Fr [g] w (set5 we w.heap.size 0 u0 ⟨none, 0, 0, []⟩) := fr_new5 f7 (Nat.le_refl _)
    have hres := fun (tm : Array Value) (hp : tm.getD 4 undef = .pointer (some ⟨w.heap.size, 0, none⟩)) => results_blk (P := Tryd.prog) (tmps := tm) Tryd.results89 Tryd.isAgg29 (by exact Tryd.sizeOf29) hp hblk
    refine bodyPost_ret (hres _ rfl) rfl ?_
    exact ⟨rfl, hTR3, hfr3⟩
end Go.Proofs.YticejlknbfhndaaDoor

namespace Go.Proofs.YticejlknbfhndaaDoor
open Go.RowKit

theorem pV_at {l : List Tk} {f p : Nat} {d : Int} (hd : 1 ≤ d) (hj : p < l.length) :
    pV l (f + 1) d p = if signB l p ⟨#[91]⟩ = true then elRd l f 9 ⟨#[93]⟩ d p else if signB l p ⟨#[123]⟩ = true then elRd l f 10 ⟨#[125]⟩ d p else leafRd l[p] p := by
  rw [pV, if_neg (by omega), List.getElem?_eq_getElem hj]
  rfl
theorem numT_l (n x : Int) : (numT n x).l = [] := by unfold numT; split <;> rfl
theorem wordB {s : ByteArray} {x : ByteArray} {y : List UInt8} (hy : x.toList = y) : (s.toList == y) = decide (s = x) := by
  rw [Bool.eq_iff_iff, beq_iff_eq, decide_eq_true_eq, ← hy]
  exact ⟨fun h => toList_inj h, fun h => by rw [h]⟩
theorem nullL : nullS.toList = [110, 117, 108, 108] := by rw [ByteArray.toList_eq]; rfl
theorem trueL : trueS.toList = [116, 114, 117, 101] := by rw [ByteArray.toList_eq]; rfl
theorem falseL : falseS.toList = [102, 97, 108, 115, 101] := by rw [ByteArray.toList_eq]; rfl
theorem i_value_step {W : World} {g : Nat} {A : Option Addr} {n c : Nat} {l : List Tk} {f : Nat} (hWg : W.heap.size ≤ g) (hwf : ∀ t ∈ l, t.wf) (hPW : PowT W) (hE : ElemSays W g A n c l f) : ValSays W g A n c l (f + 1) := by
  intro p d w h hB hf hd0 hd2
  have hl := h.len
  by_cases hd : d < 1
  · have e : pV l (f + 1) d p = .bad 2 := by rw [pV, if_pos hd]
    rw [e]
    exact (i_value_deep g A n c l p d w h hd).mono fun r w' hr => hr.read (by decide)
  have hd1 : 1 ≤ d := by omega
  rcases Nat.lt_or_ge p n with hp | hp
  rotate_left
  · have e : pV l (f + 1) d p = .bad 1 := by rw [pV, if_neg (by omega), List.getElem?_eq_none (by omega)]
    rw [e]
    exact (i_value_end g A n c l p d w h hd1 hp).mono fun r w' hr => hr.read (by decide)
  have hj : p < l.length := by omega
  rw [pV_at hd1 hj]
  have hBf : ∀ w1, Fr [g] w w1 → Below W.heap.size W w1 := fun w1 hf1 => hB.trans (hf1.below (by simpa using hWg) hB.size)
  cases hb1 : signB l p ⟨#[91]⟩ with
  | true =>
    rw [if_pos rfl]
    exact i_value_list g A n c l p d w h hd1 hj hb1 _ fun w1 h1 hf1 => hE 9 ⟨#[93]⟩ p d w1 (.inl rfl) h1 (hBf w1 hf1) hp (by omega) hd1 hd2
  | false =>
    rw [if_neg (by decide)]
    cases hb2 : signB l p ⟨#[123]⟩ with
    | true =>
      rw [if_pos rfl]
      exact i_value_map g A n c l p d w h hd1 hj hb1 hb2 _ fun w1 h1 hf1 => hE 10 ⟨#[125]⟩ p d w1 (.inr rfl) h1 (hBf w1 hf1) hp (by omega) hd1 hd2
    | false =>
      rw [if_neg (by decide)]
      have hP : ∀ w1, Fr [g] w w1 → PowT w1 := fun w1 hf1 => hPW.below (hBf w1 hf1)
      obtain ⟨_, _, htn, htx⟩ := hwf l[p] (List.getElem_mem hj)
      unfold leafRd
      by_cases k2 : l[p].k = 2
      · rw [if_pos k2]
        exact (i_value_text g A n c l p d w h hd1 hj k2).mono fun r w' hr => hr.read rfl ⟨rfl, rfl, rfl⟩
      rw [if_neg k2]
      have hk2 : (l[p].k == 2) = false := by simpa using k2
      by_cases k3 : l[p].k = 3
      · rw [if_pos k3]
        have hk3 : (l[p].k == 3) = true := by simpa using k3
        have hD := fun w1 (h1 : PowT w1) => i_decimal l[p].n l[p].x w1 htn htx h1
        unfold decOf at hD
        unfold numTr
        cases hdn : decNew l[p].n l[p].x with
        | none =>
          rw [hdn] at hD
          exact (i_value_numno g A n c l p d w h hd1 hj hb1 hb2 hk2 hk3 _ hD hP).mono fun r w' hr => hr.read (by decide)
        | some x =>
          rw [hdn] at hD
          exact (i_value_numyes g A n c l p d w h hd1 hj hb1 hb2 hk2 hk3 _ hD hP).mono fun r w' hr => hr.read (by show (numT _ _).l = []; exact numT_l _ _) ⟨rfl, rfl, rfl⟩
      rw [if_neg k3]
      have hk3 : (l[p].k == 3) = false := by simpa using k3
      by_cases k4 : l[p].k = 4
      rotate_left
      · rw [if_neg (fun h => k4 h.1), if_neg (fun h => k4 h.1), if_neg (fun h => k4 h.1)]
        have hk4 : (l[p].k == 4) = false := by simpa using k4
        exact (i_value_other g A n c l p d w h hd1 hj hb1 hb2 hk2 hk3 hk4).mono fun r w' hr => hr.read (by decide)
      have hk4 : (l[p].k == 4) = true := by simpa using k4
      by_cases s1 : l[p].s = nullS
      · rw [if_pos ⟨k4, s1⟩]
        exact (i_value_null g A n c l p d w h hd1 hj hb1 hb2 hk2 hk3 hk4 (by rw [wordB nullL]; simpa using s1)).mono fun r w' hr => hr.read rfl ⟨rfl, rfl, rfl⟩
      rw [if_neg (fun h => s1 h.2)]
      have q1 : (l[p].s.toList == [110, 117, 108, 108]) = false := by rw [wordB nullL]; simpa using s1
      by_cases s2 : l[p].s = trueS
      · rw [if_pos ⟨k4, s2⟩]
        exact (i_value_true g A n c l p d w h hd1 hj hb1 hb2 hk2 hk3 hk4 q1 (by rw [wordB trueL]; simpa using s2)).mono fun r w' hr => hr.read rfl ⟨rfl, rfl, rfl⟩
      rw [if_neg (fun h => s2 h.2)]
      have q2 : (l[p].s.toList == [116, 114, 117, 101]) = false := by rw [wordB trueL]; simpa using s2
      by_cases s3 : l[p].s = falseS
      · rw [if_pos ⟨k4, s3⟩]
        exact (i_value_false g A n c l p d w h hd1 hj hb1 hb2 hk2 hk3 hk4 q1 q2 (by rw [wordB falseL]; simpa using s3)).mono fun r w' hr => hr.read rfl ⟨rfl, rfl, rfl⟩
      rw [if_neg (fun h => s3 h.2)]
      have q3 : (l[p].s.toList == [102, 97, 108, 115, 101]) = false := by rw [wordB falseL]; simpa using s3
      exact (i_value_word g A n c l p d w h hd1 hj hb1 hb2 hk2 hk3 hk4 q1 q2 q3).mono fun r w' hr => hr.read (by decide)
theorem i_elements {W : World} {g : Nat} {A : Option Addr} {n c : Nat} {l : List Tk} {F : Nat} (hWg : W.heap.size ≤ g) (hV : ∀ f, f < F → ValSays W g A n c l f) : ElemSays W g A n c l F := by
  intro k sh p d w hk h hW hp hF hd1 hd2
  cases hs : signB l (p + 1) sh with
  | true =>
    have e : elRd l F k sh d p = .good (leafTr k 0 0 ⟨#[]⟩) (p + 2) := by unfold elRd; rw [if_pos hs]
    rw [e]
    exact (i_elements_none g A n c l F k sh p d w h hp hs).mono fun r w' hr => hr.read rfl ⟨rfl, rfl, rfl⟩
  | false => exact i_elements_some W g A n c l F hWg hV k sh p d w h hp hs hk hW hF hd1 hd2
theorem i_value {W : World} {g : Nat} {A : Option Addr} {n c : Nat} {l : List Tk} (hWg : W.heap.size ≤ g) (hwf : ∀ t ∈ l, t.wf) (hPW : PowT W) (F : Nat) : ValSays W g A n c l F := by
  induction F using Nat.strongRecOn with
  | _ F ih =>
    cases F with
    | zero => intro p d w h hB hf; omega
    | succ F => exact i_value_step hWg hwf hPW (i_elements hWg fun f hf => ih f (by omega))
end Go.Proofs.YticejlknbfhndaaDoor
