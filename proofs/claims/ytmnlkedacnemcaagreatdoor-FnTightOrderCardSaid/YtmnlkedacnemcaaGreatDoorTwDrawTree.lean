/- Trees drawn (2): l6Draw. Written by gen/markdraws.py. -/
import Derived.Test.YtmnlkedacnemcaaGreatDoorTwM37
import Derived.Deep.RegionHeld3
import Derived.Deep.RegionLaw
import Derived.Deep.LoopGhost
set_option linter.unusedVariables false
set_option maxRecDepth 100000
set_option linter.unusedSimpArgs false
namespace Go.Proofs.YtmnlkedacnemcaaGreatDoor
open Go.RowKit

theorem dr_put {w w6 : World} {B g n c gv j c' : Nat} {A A' : Option Addr} {b : List UInt8} {l : List Tr} {es : List El} {kk : Int} {s0 : Value} (hB : Blk w6 w.heap.size 26 #[.int .i64 0, .int .i64 0, .int .i64 0, .string ⟨#[]⟩, .slice none 0 0]) (hV : Blk w6 gv 26 #[.int .i64 kk, .int .i64 0, .int .i64 0, .string ⟨#[]⟩, s0]) (hR : RV w6 (gv + 1) A' j c' l es) (hC : Cur w6 B g A n c b) (hF : Fr [g] w w6) (hgv : g < gv) (hwv : w.heap.size < gv) (v : Value) :
    Blk (w6.setCell ⟨gv, 4, none⟩ v) w.heap.size 26 #[.int .i64 0, .int .i64 0, .int .i64 0, .string ⟨#[]⟩, .slice none 0 0] ∧ Blk (w6.setCell ⟨gv, 4, none⟩ v) gv 26 #[.int .i64 kk, .int .i64 0, .int .i64 0, .string ⟨#[]⟩, v] ∧ RV (w6.setCell ⟨gv, 4, none⟩ v) (gv + 1) A' j c' l es ∧ Cur (w6.setCell ⟨gv, 4, none⟩ v) B g A n c b ∧ Fr [g] w (w6.setCell ⟨gv, 4, none⟩ v) :=
  ⟨hB.far (p := ⟨gv, 4, none⟩) (by show w.heap.size ≠ gv; omega) v, by simpa using hV.set_ 4 v, hR.frg (g := gv) ((Fr.refl _ _).setCell (by simp) _) (by omega), hC.set_ (o := 4) hgv v, hF.new_ (p := ⟨gv, 4, none⟩) (by show w.heap.size ≤ gv; omega) v⟩
theorem drT_mk {d : Nat} {k n : Int} {l : List Tr} (hn : -9223372036854775808 ≤ n ∧ n ≤ 9223372036854775807) (hk : 1 ≤ k ∧ k ≤ 11) (hl : l.length ≤ 6) (h : ∀ x ∈ l, drT d x) : drT (d + 1) ⟨k, n, 0, ⟨#[]⟩, l⟩ :=
  ⟨hn, (by decide : -9223372036854775808 ≤ (0 : Int) ∧ (0 : Int) ≤ 9223372036854775807), (by decide : (⟨#[]⟩ : ByteArray).size ≤ 1000), hk, hl, h⟩
set_option maxHeartbeats 16000000 in
theorem s_l6Draw_step (d : Nat) (hd : d ≤ 100) (B g n c : Nat) (A : Option Addr) (b : List UInt8)
    (ih : ∀ w, Cur w B g A n c b → Calls Tryz.prog 37 #[.pointer (some ⟨g, 0, none⟩), .int .i64 d] w fun r w' => TreeDrawn d w w' B g n c A b r) (w : World) (h : Cur w B g A n c b) :
    Calls Tryz.prog 37 #[.pointer (some ⟨g, 0, none⟩), .int .i64 ((d + 1 : Nat) : Int)] w fun r w' => TreeDrawn (d + 1) w w' B g n c A b r := by
  unfold TreeDrawn
  unfold TreeDrawn at ih
  have hgl := h.lt
  have hgn : w.heap.size ≠ g := by omega
  have hC0 := h.below (Below.one w (.cells #[.int .i64 0, .int .i64 0, .int .i64 0, .string ⟨#[]⟩, .slice none 0 0] 26))
  have hF0 : Fr [g] w (w.alloc (.cells #[.int .i64 0, .int .i64 0, .int .i64 0, .string ⟨#[]⟩, .slice none 0 0] 26)) := Fr.of_below (Below.one _ _)
  have hB0 := Blk.new w 26 #[.int .i64 0, .int .i64 0, .int .i64 0, .string ⟨#[]⟩, .slice none 0 0]
  obtain ⟨dp, hdp⟩ : ∃ dp : Int, ((d + 1 : Nat) : Int) = dp := ⟨_, rfl⟩
  have hdz : (dp == 0) = false := by simp; omega
  have hdw : IntKind.i64.wrap (dp - 1) = (d : Int) := by rw [IntKind.wrap_i64]; omega
  have hdw2 : wrap64 (dp - 1) = (d : Int) := by unfold wrap64; omega
  rw [hdp]
  clear hdp
  go_enter Tryz.func37, Tryz.ntmps37
  go_upto_region 1 with fail
  generalize (w.alloc (.cells #[.int .i64 0, .int .i64 0, .int .i64 0, .string ⟨#[]⟩, .slice none 0 0] 26)) = w0 at hC0 hF0 hB0 ⊢
  go_wp2_with fail
  refine (s_l1Below B g n c A b 13 _ hC0 (by decide)).mono ?_; rintro r w1 ⟨z1, rfl, hz1, hC1, hf1⟩
  obtain ⟨y1, v1⟩ := hz1.2 (by decide)
  clear hz1
  have hB1 := hB0.fr_' hf1 (by simpa using hgn)
  have hF1 := hF0.trans hf1
  clear hB0 hF0 hC0 hf1
  have hB2 := hB1
  have hC2 := hC1
  have hF2 := hF1
  clear hB1 hC1 hF1
  have hk : z1 = 0 ∨ z1 = 1 ∨ z1 = 2 ∨ z1 = 3 ∨ z1 = 4 ∨ z1 = 5 ∨ z1 = 6 ∨ z1 = 7 ∨ z1 = 8 ∨ z1 = 9 ∨ z1 = 10 ∨ z1 = 11 ∨ z1 = 12 := by omega
  clear y1 v1
  rcases hk with rfl | rfl | rfl | rfl | rfl | rfl | rfl | rfl | rfl | rfl | rfl | rfl | rfl
  · clear ih
    obtain ⟨x0, x1, x2, x3, x4, ⟨s0, t0⟩, ⟨s1, t1⟩, ⟨s2, t2⟩, ⟨s3, t3⟩, s4, t4⟩ := hB2.five (o := 0) (by simp) (.int .i64 1) (.int .i64 0) (.int .i64 0) (.string ⟨#[]⟩)
    have hE := leaf_put hB2 hC2 hF2 (Nat.le_refl _) hgl (leafTr 1 0 0 ⟨#[]⟩) ⟨none, 0, 0, []⟩
    go_wp2_with fail
    exact bodyPost_ret (results_blk Tryz.results37 Tryz.isAgg26 (by exact Tryz.sizeOf26) rfl hE.1) rfl ⟨leafTr 1 0 0 ⟨#[]⟩, ⟨none, 0, 0, []⟩, rfl, LsAt.nil_ _ _, Own.nil_ _ _, drT_leaf (leafOk_ (by decide) (by decide) (by decide) (by decide)) _, RowOf.nil_ _ _, hE.2.1, hE.2.2⟩
  · clear ih
    go_wp2_with fail
    refine (s_l1Below B g n c A b 2 _ hC2 (by decide)).mono ?_; rintro r w3 ⟨z3, rfl, hz3, hC3, hf3⟩
    obtain ⟨y3, v3⟩ := hz3.2 (by decide)
    clear hz3
    have hB3 := hB2.fr_' hf3 (by simpa using hgn)
    have hF3 := hF2.trans hf3
    obtain ⟨x0, x1, x2, x3, x4, ⟨s0, t0⟩, ⟨s1, t1⟩, ⟨s2, t2⟩, ⟨s3, t3⟩, s4, t4⟩ := hB3.five (o := 0) (by simp) (.int .i64 2) (.int .i64 z3) (.int .i64 0) (.string ⟨#[]⟩)
    have hE := leaf_put hB3 hC3 hF3 (Nat.le_refl _) hgl (leafTr 2 z3 0 ⟨#[]⟩) ⟨none, 0, 0, []⟩
    go_wp2_with fail
    exact bodyPost_ret (results_blk Tryz.results37 Tryz.isAgg26 (by exact Tryz.sizeOf26) rfl hE.1) rfl ⟨leafTr 2 z3 0 ⟨#[]⟩, ⟨none, 0, 0, []⟩, rfl, LsAt.nil_ _ _, Own.nil_ _ _, drT_leaf (leafOk_ (by omega) (by decide) (by decide) (by decide)) _, RowOf.nil_ _ _, hE.2.1, hE.2.2⟩
  · clear ih
    go_wp2_with fail
    refine (s_l1SignedB B g n c A b _ hC2).mono ?_; rintro r w3 ⟨z, rfl, hz, hC3, hf3⟩
    have hB3 := hB2.fr_' hf3 (by simpa using hgn)
    have hF3 := hF2.trans hf3
    go_wp2_with fail
    refine (s_IntVal z _).mono ?_; rintro r w4 ⟨rfl, hb4⟩
    have hB4 := hB3.below hb4 hB3.lt
    have hC4 := hC3.below hb4
    have hF4 := hF3.onBelow (hb4.mono hF3.size)
    have hu := leafOk_ (k := 3) (s := ⟨#[]⟩) hz (x := 0) (by decide) (by decide) (by decide)
    generalize leafTr 3 z 0 ⟨#[]⟩ = u at hu ⊢
    obtain ⟨x0, x1, x2, x3, x4, ⟨s0, t0⟩, ⟨s1, t1⟩, ⟨s2, t2⟩, ⟨s3, t3⟩, s4, t4⟩ := hB4.five (o := 0) (by simp) (.int .i64 u.k) (.int .i64 u.n) (.int .i64 u.x) (.string u.s)
    have hE := leaf_put hB4 hC4 hF4 (Nat.le_refl _) hgl u ⟨none, 0, 0, []⟩
    go_wp2_with fail
    exact bodyPost_ret (results_blk Tryz.results37 Tryz.isAgg26 (by exact Tryz.sizeOf26) rfl hE.1) rfl ⟨u, ⟨none, 0, 0, []⟩, rfl, by rw [hu.1]; exact LsAt.nil_ _ _, Own.nil_ _ _, drT_leaf hu _, by rw [hu.1]; exact RowOf.nil_ _ _, hE.2.1, hE.2.2⟩
  · clear ih
    go_wp2_with fail
    refine (s_l1SignedB B g n c A b _ hC2).mono ?_; rintro r w3 ⟨z, rfl, hz, hC3, hf3⟩
    have hB3 := hB2.fr_' hf3 (by simpa using hgn)
    have hF3 := hF2.trans hf3
    go_wp2_with fail
    refine (s_IntVal z _).mono ?_; rintro r w4 ⟨rfl, hb4⟩
    have hB4 := hB3.below hb4 hB3.lt
    have hC4 := hC3.below hb4
    have hF4 := hF3.onBelow (hb4.mono hF3.size)
    have hu := leafOk_ (k := 3) (s := ⟨#[]⟩) hz (x := 0) (by decide) (by decide) (by decide)
    generalize leafTr 3 z 0 ⟨#[]⟩ = u at hu ⊢
    obtain ⟨x0, x1, x2, x3, x4, ⟨s0, t0⟩, ⟨s1, t1⟩, ⟨s2, t2⟩, ⟨s3, t3⟩, s4, t4⟩ := hB4.five (o := 0) (by simp) (.int .i64 u.k) (.int .i64 u.n) (.int .i64 u.x) (.string u.s)
    have hE := leaf_put hB4 hC4 hF4 (Nat.le_refl _) hgl u ⟨none, 0, 0, []⟩
    go_wp2_with fail
    exact bodyPost_ret (results_blk Tryz.results37 Tryz.isAgg26 (by exact Tryz.sizeOf26) rfl hE.1) rfl ⟨u, ⟨none, 0, 0, []⟩, rfl, by rw [hu.1]; exact LsAt.nil_ _ _, Own.nil_ _ _, drT_leaf hu _, by rw [hu.1]; exact RowOf.nil_ _ _, hE.2.1, hE.2.2⟩
  · clear ih
    go_wp2_with fail
    refine (s_l5DrawB B g n c A b _ hC2).mono ?_; rintro r w3 ⟨m, e, rfl, hm, he, hC3, hf3⟩
    have hB3 := hB2.fr_' hf3 (by simpa using hgn)
    have hF3 := hF2.trans hf3
    go_wp2_with fail
    refine (s_l6FltVal m e _).mono ?_; rintro r w4 ⟨rfl, hb4⟩
    have hB4 := hB3.below hb4 hB3.lt
    have hC4 := hC3.below hb4
    have hF4 := hF3.onBelow (hb4.mono hF3.size)
    have hu := leafOk_ (k := 4) (s := ⟨#[]⟩) hm he (by decide) (by decide)
    generalize leafTr 4 m e ⟨#[]⟩ = u at hu ⊢
    obtain ⟨x0, x1, x2, x3, x4, ⟨s0, t0⟩, ⟨s1, t1⟩, ⟨s2, t2⟩, ⟨s3, t3⟩, s4, t4⟩ := hB4.five (o := 0) (by simp) (.int .i64 u.k) (.int .i64 u.n) (.int .i64 u.x) (.string u.s)
    have hE := leaf_put hB4 hC4 hF4 (Nat.le_refl _) hgl u ⟨none, 0, 0, []⟩
    go_wp2_with fail
    exact bodyPost_ret (results_blk Tryz.results37 Tryz.isAgg26 (by exact Tryz.sizeOf26) rfl hE.1) rfl ⟨u, ⟨none, 0, 0, []⟩, rfl, by rw [hu.1]; exact LsAt.nil_ _ _, Own.nil_ _ _, drT_leaf hu _, by rw [hu.1]; exact RowOf.nil_ _ _, hE.2.1, hE.2.2⟩
  · clear ih
    go_wp2_with fail
    refine (s_l1Below B g n c A b 3 _ hC2 (by decide)).mono ?_; rintro r w3 ⟨z3, rfl, hz3, hC3, hf3⟩
    obtain ⟨y3, v3⟩ := hz3.2 (by decide)
    clear hz3
    have hB3 := hB2.fr_' hf3 (by simpa using hgn)
    have hF3 := hF2.trans hf3
    obtain ⟨x0, x1, x2, x3, x4, ⟨s0, t0⟩, ⟨s1, t1⟩, ⟨s2, t2⟩, ⟨s3, t3⟩, s4, t4⟩ := hB3.five (o := 0) (by simp) (.int .i64 5) (.int .i64 z3) (.int .i64 0) (.string ⟨#[]⟩)
    have hE := leaf_put hB3 hC3 hF3 (Nat.le_refl _) hgl (leafTr 5 z3 0 ⟨#[]⟩) ⟨none, 0, 0, []⟩
    go_wp2_with fail
    exact bodyPost_ret (results_blk Tryz.results37 Tryz.isAgg26 (by exact Tryz.sizeOf26) rfl hE.1) rfl ⟨leafTr 5 z3 0 ⟨#[]⟩, ⟨none, 0, 0, []⟩, rfl, LsAt.nil_ _ _, Own.nil_ _ _, drT_leaf (leafOk_ (by omega) (by decide) (by decide) (by decide)) _, RowOf.nil_ _ _, hE.2.1, hE.2.2⟩
  · clear ih
    go_wp2_with fail
    refine (s_l5DecW B g n c A b _ hC2).mono ?_; rintro r w3 ⟨m, e, rfl, hm, he, hC3, hf3⟩
    have hB3 := hB2.fr_' hf3 (by simpa using hgn)
    have hF3 := hF2.trans hf3
    go_wp2_with fail
    refine (s_NumberVal m e _).mono ?_; rintro r w4 ⟨rfl, hb4⟩
    have hB4 := hB3.below hb4 hB3.lt
    have hC4 := hC3.below hb4
    have hF4 := hF3.onBelow (hb4.mono hF3.size)
    have hu := leafOk_num hm he
    generalize numT m e = u at hu ⊢
    obtain ⟨x0, x1, x2, x3, x4, ⟨s0, t0⟩, ⟨s1, t1⟩, ⟨s2, t2⟩, ⟨s3, t3⟩, s4, t4⟩ := hB4.five (o := 0) (by simp) (.int .i64 u.k) (.int .i64 u.n) (.int .i64 u.x) (.string u.s)
    have hE := leaf_put hB4 hC4 hF4 (Nat.le_refl _) hgl u ⟨none, 0, 0, []⟩
    go_wp2_with fail
    exact bodyPost_ret (results_blk Tryz.results37 Tryz.isAgg26 (by exact Tryz.sizeOf26) rfl hE.1) rfl ⟨u, ⟨none, 0, 0, []⟩, rfl, by rw [hu.1]; exact LsAt.nil_ _ _, Own.nil_ _ _, drT_leaf hu _, by rw [hu.1]; exact RowOf.nil_ _ _, hE.2.1, hE.2.2⟩
  · clear ih
    go_wp2_with fail
    refine (s_l2TextV B g n c A b _ hC2).mono ?_; rintro r w3 ⟨st, rfl, hst, hsv, hC3, hf3⟩
    have hB3 := hB2.fr_' hf3 (by simpa using hgn)
    have hF3 := hF2.trans hf3
    go_wp2_with fail
    refine (s_TextVal st _).mono ?_; rintro r w4 ⟨rfl, hb4⟩
    have hB4 := hB3.below hb4 hB3.lt
    have hC4 := hC3.below hb4
    have hF4 := hF3.onBelow (hb4.mono hF3.size)
    have hu := leafOk_ (k := 7) (n := 0) (x := 0) (s := st) (by decide) (by decide) (by omega) (by decide)
    generalize leafTr 7 0 0 st = u at hu ⊢
    obtain ⟨x0, x1, x2, x3, x4, ⟨s0, t0⟩, ⟨s1, t1⟩, ⟨s2, t2⟩, ⟨s3, t3⟩, s4, t4⟩ := hB4.five (o := 0) (by simp) (.int .i64 u.k) (.int .i64 u.n) (.int .i64 u.x) (.string u.s)
    have hE := leaf_put hB4 hC4 hF4 (Nat.le_refl _) hgl u ⟨none, 0, 0, []⟩
    go_wp2_with fail
    exact bodyPost_ret (results_blk Tryz.results37 Tryz.isAgg26 (by exact Tryz.sizeOf26) rfl hE.1) rfl ⟨u, ⟨none, 0, 0, []⟩, rfl, by rw [hu.1]; exact LsAt.nil_ _ _, Own.nil_ _ _, drT_leaf hu _, by rw [hu.1]; exact RowOf.nil_ _ _, hE.2.1, hE.2.2⟩
  · clear ih
    go_wp2_with fail
    refine (s_l1Below B g n c A b 4 _ hC2 (by decide)).mono ?_; rintro r w3 ⟨z3, rfl, hz3, hC3, hf3⟩
    obtain ⟨y3, v3⟩ := hz3.2 (by decide)
    clear hz3
    have hB3 := hB2.fr_' hf3 (by simpa using hgn)
    have hF3 := hF2.trans hf3
    go_wp2_with fail
    refine (s_l1Bytes B g n c A b z3 _ hC3 (by omega)).mono ?_; rintro r w4 ⟨A4, k4, c4, l4, rfl, hS4, hk4, hC4, hf4⟩
    have hB4 := hB3.fr_' hf4 (by simpa using hgn)
    have hF4 := hF3.trans hf4
    have hcv := run_str_sl (P := Tryz.prog) 22 5 Tryz.underlying22 Tryz.underlying5 hS4.sl 9 Tryz.underlying9
    have hll := hS4.len
    obtain ⟨st, hst⟩ : ∃ st : ByteArray, (⟨l4.toArray⟩ : ByteArray) = st := ⟨_, rfl⟩
    have hsz : st.size ≤ 1000 := by rw [← hst, ba_sz]; omega
    try rw [hst] at hcv
    obtain ⟨x0, x1, x2, x3, x4, ⟨s0, t0⟩, ⟨s1, t1⟩, ⟨s2, t2⟩, ⟨s3, t3⟩, s4, t4⟩ := hB4.five (o := 0) (by simp) (.int .i64 8) (.int .i64 0) (.int .i64 0) (.string st)
    have hE := leaf_put hB4 hC4 hF4 (Nat.le_refl _) hgl (leafTr 8 0 0 st) ⟨none, 0, 0, []⟩
    go_wp2_with fail
    exact bodyPost_ret (results_blk Tryz.results37 Tryz.isAgg26 (by exact Tryz.sizeOf26) rfl hE.1) rfl ⟨leafTr 8 0 0 st, ⟨none, 0, 0, []⟩, rfl, LsAt.nil_ _ _, Own.nil_ _ _, drT_leaf (leafOk_ (by decide) (by decide) hsz (by decide)) _, RowOf.nil_ _ _, hE.2.1, hE.2.2⟩
  · go_wp2_with fail
    refine (s_l1Below B g n c A b 300 _ hC2 (by decide)).mono ?_; rintro r w3 ⟨y, rfl, hy, hC3, hf3⟩
    obtain ⟨y0, y1⟩ := hy.2 (by decide)
    clear hy
    have hB3 := hB2.fr_' hf3 (by simpa using hgn)
    have hF3 := hF2.trans hf3
    go_wp2_with fail
    refine (ih _ hC3).mono ?_; rintro r w4 ⟨t, u, rfl, hl4, ho4, ht4, hr4, hC4, hf4⟩; clear hr4
    have hB4 := hB3.fr_' hf4 (by simpa using hgn)
    have hF4 := hF3.trans hf4
    have hRV := RV.lit1 hl4 (ho4.mono (lo2 := w.heap.size + 1) (by have := hB3.lt; omega)) (by have := hB4.lt; omega)
    have hB5 := hB4.alloc (.cells #[.int .i64 t.k, .int .i64 t.n, .int .i64 t.x, .string t.s, .slice u.A u.n u.c] 26)
    have hC5 := hC4.below (Below.one w4 (.cells #[.int .i64 t.k, .int .i64 t.n, .int .i64 t.x, .string t.s, .slice u.A u.n u.c] 26))
    have hF5 := hF4.trans (Fr.of_below (Below.one w4 (.cells #[.int .i64 t.k, .int .i64 t.n, .int .i64 t.x, .string t.s, .slice u.A u.n u.c] 26)))
    obtain ⟨fp, hL5, hO5, -⟩ := hRV.list (Nat.le_refl _) (by unfold maxLen; decide)
    have hrn : w.heap.size ∉ fp := fun hx => by have := (hO5.2 _ hx).1; omega
    obtain ⟨x0, x1, x2, x3, x4, ⟨s0, t0⟩, ⟨s1, t1⟩, ⟨s2, t2⟩, ⟨s3, t3⟩, s4, t4⟩ := hB5.five (o := 0) (by simp) (.int .i64 11) (.int .i64 y) (.int .i64 0) (.string ⟨#[]⟩)
    have hE := leaf_put hB5 hC5 hF5 (Nat.le_refl _) hgl ⟨11, y, 0, ⟨#[]⟩, [t]⟩ ⟨some ⟨w4.heap.size, 0, none⟩, 1, 1, fp⟩
    go_wp2_with fail
    have hT : drT (d + 1) ⟨11, y, 0, ⟨#[]⟩, [t]⟩ := drT_mk (by omega) (by decide) (by simp) (fun x hx => by rw [List.mem_singleton] at hx; subst hx; exact ht4)
    have hL6 := hL5.set5_ (o := 0) (t := ⟨11, y, 0, ⟨#[]⟩, [t]⟩) (e2 := ⟨some ⟨w4.heap.size, 0, none⟩, 1, 1, fp⟩) hrn
    have hR6 := (hRV.frg (g := w.heap.size) (fr_put5 (t := ⟨11, y, 0, ⟨#[]⟩, [t]⟩) (e := ⟨some ⟨w4.heap.size, 0, none⟩, 1, 1, fp⟩)) (Nat.lt_succ_self _)).mono (lo' := w.heap.size) (Nat.le_succ _)
    have hO6 := (hO5.set5_ (o := 0) (t := ⟨11, y, 0, ⟨#[]⟩, [t]⟩) (e := ⟨some ⟨w4.heap.size, 0, none⟩, 1, 1, fp⟩) hrn).mono (lo2 := w.heap.size) (Nat.le_succ _)
    clear hL5 hO5 hRV hB5 hC5 hF5 hl4 ho4 ht4
    exact bodyPost_ret (results_blk Tryz.results37 Tryz.isAgg26 (by exact Tryz.sizeOf26) rfl hE.1) rfl ⟨⟨11, y, 0, ⟨#[]⟩, [t]⟩, ⟨some ⟨w4.heap.size, 0, none⟩, 1, 1, fp⟩, rfl, hL6, hO6, hT, ⟨_, hR6⟩, hE.2.1, hE.2.2⟩
  · have hBV0 := Blk.new w1 26 #[.int .i64 9, .int .i64 0, .int .i64 0, .string ⟨#[]⟩, .slice none 0 0]
    have hBa := hB2.alloc (.cells #[.int .i64 9, .int .i64 0, .int .i64 0, .string ⟨#[]⟩, .slice none 0 0] 26)
    have hCa := hC2.below (Below.one w1 (.cells #[.int .i64 9, .int .i64 0, .int .i64 0, .string ⟨#[]⟩, .slice none 0 0] 26))
    have hFa := hF2.trans (Fr.of_below (Below.one w1 (.cells #[.int .i64 9, .int .i64 0, .int .i64 0, .string ⟨#[]⟩, .slice none 0 0] 26)))
    have hgv : g < w1.heap.size := hC2.lt
    have hwv : w.heap.size < w1.heap.size := hB2.lt
    go_upto_region 27 with fail
    generalize hve : w1.heap.size = gv at hBV0 hgv hwv ⊢
    generalize (w1.alloc (.cells #[.int .i64 9, .int .i64 0, .int .i64 0, .string ⟨#[]⟩, .slice none 0 0] 26)) = wa at hBV0 hBa hCa hFa ⊢
    clear hve hB2 hC2 hF2
    have hBV := hBV0
    have hBb := hBa
    have hCb := hCa
    have hFb := hFa
    clear hBV0 hBa hCa hFa
    go_wp2_with fail
    refine (s_l1Below B g n c A b 4 _ hCb (by decide)).mono ?_; rintro r w3 ⟨m, rfl, hm, hC3, hf3⟩
    obtain ⟨m0, m1⟩ := hm.2 (by decide)
    obtain ⟨mm, rfl⟩ : ∃ mm : Nat, m = mm := ⟨m.toNat, by omega⟩
    clear hm
    have hB3 := hBb.fr_' hf3 (by simpa using hgn)
    have hV3 := hBV.fr_' hf3 (by simp; omega)
    have hF3 := hFb.trans hf3
    have hR3 := RV.nil_ w3 (gv + 1)
    clear hBb hBV hCb hFb hf3
    go_wp2_with fail
    go_loopg [7, 8] mm (fun f v7 v8 wr => ∃ (j c' : Nat) (A' : Option Addr) (acc : List Tr) (es : List El), v7 = .int .i64 f ∧ j + 2 * f ≤ 6 ∧ Blk wr w.heap.size 26 #[.int .i64 0, .int .i64 0, .int .i64 0, .string ⟨#[]⟩, .slice none 0 0] ∧ Blk wr gv 26 #[.int .i64 9, .int .i64 0, .int .i64 0, .string ⟨#[]⟩, .slice A' j c'] ∧ RV wr (gv + 1) A' j c' acc es ∧ (∀ x ∈ acc, drT d x) ∧ Cur wr B g A n c b ∧ Fr [g] w wr)
    case atStart => exact ⟨0, 0, none, [], [], rfl, by omega, hB3, hV3, hR3, (fun x hx => by cases hx), hC3, hF3⟩
    case round =>
      obtain ⟨j, c', A', acc, es, rfl, hjf, hB, hV, hR, hacc, hC, hF⟩ := hrel
      clear hB3 hV3 hR3 hC3 hF3
      cases gk with
      | zero =>
        have p0 := hV.cell 0
        have p1 := hV.cell 1
        have p2 := hV.cell 2
        have p3 := hV.cell 3
        have p4 := hV.cell 4
        simp only [List.getElem?_toArray, List.getElem?_cons_succ, List.getElem?_cons_zero] at p0 p1 p2 p3 p4
        obtain ⟨fp, hL, hO, -⟩ := hR.list hR.cap.1 hR.cap.2
        have hrn : w.heap.size ∉ fp := fun hx => by have := (hO.2 _ hx).1; omega
        obtain ⟨x0, x1, x2, x3, x4, ⟨s0, t0⟩, ⟨s1, t1⟩, ⟨s2, t2⟩, ⟨s3, t3⟩, s4, t4⟩ := hB.five (o := 0) (by simp) (.int .i64 9) (.int .i64 0) (.int .i64 0) (.string ⟨#[]⟩)
        have hE := leaf_put hB hC hF (Nat.le_refl _) hgl ⟨9, 0, 0, ⟨#[]⟩, acc⟩ ⟨A', j, c', fp⟩
        have hT : drT (d + 1) ⟨9, 0, 0, ⟨#[]⟩, acc⟩ := drT_mk (by decide) (by decide) (by rw [hR.len]; omega) hacc
        have hL6 := hL.set5_ (o := 0) (t := ⟨9, 0, 0, ⟨#[]⟩, acc⟩) (e2 := ⟨A', j, c', fp⟩) hrn
        have hR6 := (hR.frg (g := w.heap.size) (fr_put5 (t := ⟨9, 0, 0, ⟨#[]⟩, acc⟩) (e := ⟨A', j, c', fp⟩)) (by omega)).mono (lo' := w.heap.size) (by omega)
        have hO6 := (hO.set5_ (o := 0) (t := ⟨9, 0, 0, ⟨#[]⟩, acc⟩) (e := ⟨A', j, c', fp⟩) hrn).mono (lo2 := w.heap.size) (by omega)
        clear hL hO hR hB hV hC hF hacc
        go_wp2_with fail
        exact bodyPost_ret (results_blk Tryz.results37 Tryz.isAgg26 (by exact Tryz.sizeOf26) rfl hE.1) rfl ⟨⟨9, 0, 0, ⟨#[]⟩, acc⟩, ⟨A', j, c', fp⟩, rfl, hL6, hO6, hT, ⟨_, hR6⟩, hE.2.1, hE.2.2⟩
      | succ f =>
        have hpos : (0 : Int) < ((f + 1 : Nat) : Int) := by omega
        have p0 := hV.cell 0
        simp only [List.getElem?_toArray, List.getElem?_cons_succ, List.getElem?_cons_zero] at p0
        go_wp2_with fail
        refine (ih _ hC).mono ?_; rintro r w4 ⟨t, u, rfl, hl4, ho4, ht4, hr4, hC4, hf4⟩; clear hr4
        have kx := Below.one w4 (.cells #[.int .i64 t.k, .int .i64 t.n, .int .i64 t.x, .string t.s, .slice u.A u.n u.c] 26)
        have hB5 := (hB.fr_' hf4 (by simpa using hgn)).alloc (.cells #[.int .i64 t.k, .int .i64 t.n, .int .i64 t.x, .string t.s, .slice u.A u.n u.c] 26)
        have hV5 := (hV.fr_' hf4 (by simp; omega)).alloc (.cells #[.int .i64 t.k, .int .i64 t.n, .int .i64 t.x, .string t.s, .slice u.A u.n u.c] 26)
        have hR5 := (hR.frg hf4 (by omega)).below kx
        have hC5 := hC4.below kx
        have hF5 := (hF.trans hf4).trans (Fr.of_below kx)
        have hdd := hR.newOwn ho4
        have hX5 := Blk.new w4 26 #[.int .i64 t.k, .int .i64 t.n, .int .i64 t.x, .string t.s, .slice u.A u.n u.c]
        have hl5 := hl4.below (fun x hx => ho4.lt hx) kx
        have zv5 : gv < w4.heap.size := (hV.fr_' hf4 (by simp; omega)).lt
        have ho5 := (ho4.below (fun x hx => ho4.lt hx) kx).mono (lo2 := gv + 1) (by have := hV.lt; omega)
        have hacc5 : ∀ x ∈ acc ++ [t], drT d x := fun x hx => by
          rcases List.mem_append.1 hx with h1 | h1
          · exact hacc x h1
          · rw [List.mem_singleton] at h1; subst h1; exact ht4
        go_upto_region 33 with fail
        generalize hqe : w4.heap.size = q at hX5 zv5 ⊢
        generalize (w4.alloc (.cells #[.int .i64 t.k, .int .i64 t.n, .int .i64 t.x, .string t.s, .slice u.A u.n u.c] 26)) = w5 at hB5 hV5 hR5 hC5 hF5 hX5 hl5 ho5 ⊢
        clear hqe hl4 ho4 hC4 hf4 kx hB hV hR hC hF hacc
        have p4 := hV5.cell 4
        have v0 := hX5.cell 0
        have v1 := hX5.cell 1
        have v2 := hX5.cell 2
        have v3 := hX5.cell 3
        have v4 := hX5.cell 4
        simp only [List.getElem?_toArray, List.getElem?_cons_succ, List.getElem?_cons_zero] at p4 v0 v1 v2 v3 v4
        have hnm : j + 1 ≤ 1099511627776 := by omega
        have zb5 : gv + 1 ≤ w5.heap.size := hV5.lt
        go_wp2_with (at_builtin; refine app_val rfl _ _ rfl hR5 rfl (by first | rfl | simp) rfl hl5 ho5 hdd hnm zb5 ?_; intro A3 c3 w6 h6 hb6 hg6; have hV6 := hV5.below hb6 (by omega); have p7 := hV6.cell 4; have f7 := hV6.frozen 4; simp only [List.getElem?_toArray, List.getElem?_cons_succ, List.getElem?_cons_zero] at p7)
        obtain ⟨E1, E2, E3, E4, E5⟩ := dr_put (hB5.below hb6 (by omega)) hV6 h6 (hC5.belowB hb6 (by omega)) (hF5.onBelow (hb6.mono (by omega))) hgv hwv (.slice A3 (j + 1) c3)
        go_roundg f
        case measure => omega
        case rel => exact ⟨j + 1, c3, A3, acc ++ [t], es ++ [u], by go_num, by omega, E1, E2, E3, hacc5, E4, E5⟩
  · have hBV0 := Blk.new w1 26 #[.int .i64 9, .int .i64 0, .int .i64 0, .string ⟨#[]⟩, .slice none 0 0]
    have hBa := hB2.alloc (.cells #[.int .i64 9, .int .i64 0, .int .i64 0, .string ⟨#[]⟩, .slice none 0 0] 26)
    have hCa := hC2.below (Below.one w1 (.cells #[.int .i64 9, .int .i64 0, .int .i64 0, .string ⟨#[]⟩, .slice none 0 0] 26))
    have hFa := hF2.trans (Fr.of_below (Below.one w1 (.cells #[.int .i64 9, .int .i64 0, .int .i64 0, .string ⟨#[]⟩, .slice none 0 0] 26)))
    have hgv : g < w1.heap.size := hC2.lt
    have hwv : w.heap.size < w1.heap.size := hB2.lt
    go_upto_region 26 with fail
    generalize hve : w1.heap.size = gv at hBV0 hgv hwv ⊢
    generalize (w1.alloc (.cells #[.int .i64 9, .int .i64 0, .int .i64 0, .string ⟨#[]⟩, .slice none 0 0] 26)) = wa at hBV0 hBa hCa hFa ⊢
    clear hve hB2 hC2 hF2
    have q0 := hBV0.cell 0
    have f0 := hBV0.frozen 0
    have hBb := hBa.far (p := ⟨gv, 0, none⟩) (by show w.heap.size ≠ gv; omega) (.int .i64 10)
    have hBV : Blk (wa.setCell ⟨gv, 0, none⟩ (.int .i64 10)) gv 26 #[.int .i64 10, .int .i64 0, .int .i64 0, .string ⟨#[]⟩, .slice none 0 0] := by simpa using hBV0.set_ 0 (.int .i64 10)
    have hCb := hCa.set_ (o := 0) hgv (.int .i64 10)
    have hFb := hFa.new_ (p := ⟨gv, 0, none⟩) (by show w.heap.size ≤ gv; omega) (.int .i64 10)
    go_upto_region 27 with fail
    clear q0 f0 hBV0 hBa hCa hFa
    generalize wa.setCell ⟨gv, 0, none⟩ (.int .i64 10) = wb at hBb hBV hCb hFb ⊢
    go_wp2_with fail
    refine (s_l1Below B g n c A b 4 _ hCb (by decide)).mono ?_; rintro r w3 ⟨m, rfl, hm, hC3, hf3⟩
    obtain ⟨m0, m1⟩ := hm.2 (by decide)
    obtain ⟨mm, rfl⟩ : ∃ mm : Nat, m = mm := ⟨m.toNat, by omega⟩
    clear hm
    have hB3 := hBb.fr_' hf3 (by simpa using hgn)
    have hV3 := hBV.fr_' hf3 (by simp; omega)
    have hF3 := hFb.trans hf3
    have hR3 := RV.nil_ w3 (gv + 1)
    clear hBb hBV hCb hFb hf3
    go_wp2_with fail
    go_loopg [7, 8] mm (fun f v7 v8 wr => ∃ (j c' : Nat) (A' : Option Addr) (acc : List Tr) (es : List El), v7 = .int .i64 f ∧ j + 2 * f ≤ 6 ∧ Blk wr w.heap.size 26 #[.int .i64 0, .int .i64 0, .int .i64 0, .string ⟨#[]⟩, .slice none 0 0] ∧ Blk wr gv 26 #[.int .i64 10, .int .i64 0, .int .i64 0, .string ⟨#[]⟩, .slice A' j c'] ∧ RV wr (gv + 1) A' j c' acc es ∧ (∀ x ∈ acc, drT d x) ∧ Cur wr B g A n c b ∧ Fr [g] w wr)
    case atStart => exact ⟨0, 0, none, [], [], rfl, by omega, hB3, hV3, hR3, (fun x hx => by cases hx), hC3, hF3⟩
    case round =>
      obtain ⟨j, c', A', acc, es, rfl, hjf, hB, hV, hR, hacc, hC, hF⟩ := hrel
      clear hB3 hV3 hR3 hC3 hF3
      cases gk with
      | zero =>
        have p0 := hV.cell 0
        have p1 := hV.cell 1
        have p2 := hV.cell 2
        have p3 := hV.cell 3
        have p4 := hV.cell 4
        simp only [List.getElem?_toArray, List.getElem?_cons_succ, List.getElem?_cons_zero] at p0 p1 p2 p3 p4
        obtain ⟨fp, hL, hO, -⟩ := hR.list hR.cap.1 hR.cap.2
        have hrn : w.heap.size ∉ fp := fun hx => by have := (hO.2 _ hx).1; omega
        obtain ⟨x0, x1, x2, x3, x4, ⟨s0, t0⟩, ⟨s1, t1⟩, ⟨s2, t2⟩, ⟨s3, t3⟩, s4, t4⟩ := hB.five (o := 0) (by simp) (.int .i64 10) (.int .i64 0) (.int .i64 0) (.string ⟨#[]⟩)
        have hE := leaf_put hB hC hF (Nat.le_refl _) hgl ⟨10, 0, 0, ⟨#[]⟩, acc⟩ ⟨A', j, c', fp⟩
        have hT : drT (d + 1) ⟨10, 0, 0, ⟨#[]⟩, acc⟩ := drT_mk (by decide) (by decide) (by rw [hR.len]; omega) hacc
        have hL6 := hL.set5_ (o := 0) (t := ⟨10, 0, 0, ⟨#[]⟩, acc⟩) (e2 := ⟨A', j, c', fp⟩) hrn
        have hR6 := (hR.frg (g := w.heap.size) (fr_put5 (t := ⟨10, 0, 0, ⟨#[]⟩, acc⟩) (e := ⟨A', j, c', fp⟩)) (by omega)).mono (lo' := w.heap.size) (by omega)
        have hO6 := (hO.set5_ (o := 0) (t := ⟨10, 0, 0, ⟨#[]⟩, acc⟩) (e := ⟨A', j, c', fp⟩) hrn).mono (lo2 := w.heap.size) (by omega)
        clear hL hO hR hB hV hC hF hacc
        go_wp2_with fail
        exact bodyPost_ret (results_blk Tryz.results37 Tryz.isAgg26 (by exact Tryz.sizeOf26) rfl hE.1) rfl ⟨⟨10, 0, 0, ⟨#[]⟩, acc⟩, ⟨A', j, c', fp⟩, rfl, hL6, hO6, hT, ⟨_, hR6⟩, hE.2.1, hE.2.2⟩
      | succ f =>
        have hpos : (0 : Int) < ((f + 1 : Nat) : Int) := by omega
        have p0 := hV.cell 0
        simp only [List.getElem?_toArray, List.getElem?_cons_succ, List.getElem?_cons_zero] at p0
        go_upto_region 31 with fail
        clear p0
        have kd := (Below.refl wr.heap.size wr).drew
        have hBd := hB.below kd hB.lt
        have hVd := hV.below kd hV.lt
        have hRd := hR.below kd
        have hCd := hC.below kd
        have hFd := hF.trans (Fr.of_below kd)
        have HN := s_l6Name B g n c A b wr.drew hCd
        have hnm : j + 1 ≤ 1099511627776 := by omega
        have p4 := hV.cell 4
        have p4d := hVd.cell 4
        simp only [List.getElem?_toArray, List.getElem?_cons_succ, List.getElem?_cons_zero] at p4 p4d
        go_cut [0, 1, 81, 82, 83, 84, 85, 86, 87] from 0 to 1 (fun u0 u1 u81 u82 u83 u84 u85 u86 u87 wx => ∃ (c1 : Nat) (A1 : Option Addr) (acc1 : List Tr) (es1 : List El), u0 = .pointer (some ⟨g, 0, none⟩) ∧ u1 = .int .i64 dp ∧ Blk wx w.heap.size 26 #[.int .i64 0, .int .i64 0, .int .i64 0, .string ⟨#[]⟩, .slice none 0 0] ∧ Blk wx gv 26 #[.int .i64 10, .int .i64 0, .int .i64 0, .string ⟨#[]⟩, .slice A1 (j + 1) c1] ∧ RV wx (gv + 1) A1 (j + 1) c1 acc1 es1 ∧ (∀ x ∈ acc1, drT d x) ∧ Cur wx B g A n c b ∧ Fr [g] w wx)
        case first =>
          go_region_law (first
            | (go_simp; go_at_call 33; refine HN.mono ?_; rintro r w4 ⟨u, rfl, hu, hC4, hf4⟩; have hB4 := hBd.fr_' hf4 (by simpa using hgn); have hV4 := hVd.fr_' hf4 (by simp; omega); have hR4 := hRd.frg hf4 (by omega); have hF4 := hFd.trans hf4; have z4 := hV4.lt; have p5 := hV4.cell 4; have p6 := (hV4.alloc (.cells #[.int .i64 u.k, .int .i64 u.n, .int .i64 u.x, .string u.s, .slice none 0 0] 26)).cell 4; simp only [List.getElem?_toArray, List.getElem?_cons_succ, List.getElem?_cons_zero] at p5 p6)
            | (refine step_val (t := u) (u := ⟨none, 0, 0, []⟩) rfl (.tmp 82) (.tmp 85) rfl hR4 (by simp [Act.eval, Act.put]) rfl (by simp [Act.eval, Act.put]) (by rw [hu.1]; exact LsAt.nil_ _ _) (Own.nil_ _ _) (by simp) hnm z4 ?_; intro A3 c3 w6 h6 hb6 hg6; have hV6 := hV4.below hb6 (by omega); have p7 := hV6.cell 4; have f7 := hV6.frozen 4; simp only [List.getElem?_toArray, List.getElem?_cons_succ, List.getElem?_cons_zero] at p7; obtain ⟨E1, E2, E3, E4, E5⟩ := dr_put (hB4.below hb6 (by omega)) hV6 h6 (hC4.belowB hb6 (by omega)) (hF4.onBelow (hb6.mono (by omega))) hgv hwv (.slice A3 (j + 1) c3)))
          all_goals
            go_wp2_with fail
            go_meet
            case rel =>
              refine ⟨c3, A3, acc ++ [u], es ++ [⟨none, 0, 0, []⟩], rfl, rfl, E1, E2, E3, fun x hx => ?_, E4, E5⟩
              rcases List.mem_append.1 hx with h1 | h1
              · exact hacc x h1
              · rw [List.mem_singleton] at h1; subst h1; exact drT_leaf hu d
        case rest =>
          clear hB hV hR hC hF hacc kd hBd hVd hRd hCd hFd HN p4 p4d hnm
          obtain ⟨c1, A1, acc1, es1, rfl, rfl, hB, hV, hR, hacc, hC, hF⟩ := hcut
          go_wp2_with fail
          refine (ih _ hC).mono ?_; rintro r w4 ⟨t, u, rfl, hl4, ho4, ht4, hr4, hC4, hf4⟩; clear hr4
          have kx := Below.one w4 (.cells #[.int .i64 t.k, .int .i64 t.n, .int .i64 t.x, .string t.s, .slice u.A u.n u.c] 26)
          have hB5 := (hB.fr_' hf4 (by simpa using hgn)).alloc (.cells #[.int .i64 t.k, .int .i64 t.n, .int .i64 t.x, .string t.s, .slice u.A u.n u.c] 26)
          have hV5 := (hV.fr_' hf4 (by simp; omega)).alloc (.cells #[.int .i64 t.k, .int .i64 t.n, .int .i64 t.x, .string t.s, .slice u.A u.n u.c] 26)
          have hR5 := (hR.frg hf4 (by omega)).below kx
          have hC5 := hC4.below kx
          have hF5 := (hF.trans hf4).trans (Fr.of_below kx)
          have hdd := hR.newOwn ho4
          have hX5 := Blk.new w4 26 #[.int .i64 t.k, .int .i64 t.n, .int .i64 t.x, .string t.s, .slice u.A u.n u.c]
          have hl5 := hl4.below (fun x hx => ho4.lt hx) kx
          have zv5 : gv < w4.heap.size := (hV.fr_' hf4 (by simp; omega)).lt
          have ho5 := (ho4.below (fun x hx => ho4.lt hx) kx).mono (lo2 := gv + 1) (by have := hV.lt; omega)
          have hacc5 : ∀ x ∈ acc1 ++ [t], drT d x := fun x hx => by
            rcases List.mem_append.1 hx with h1 | h1
            · exact hacc x h1
            · rw [List.mem_singleton] at h1; subst h1; exact ht4
          go_upto_region 33 with fail
          generalize hqe : w4.heap.size = q at hX5 zv5 ⊢
          generalize (w4.alloc (.cells #[.int .i64 t.k, .int .i64 t.n, .int .i64 t.x, .string t.s, .slice u.A u.n u.c] 26)) = w5 at hB5 hV5 hR5 hC5 hF5 hX5 hl5 ho5 ⊢
          clear hqe hl4 ho4 hC4 hf4 kx hB hV hR hC hF hacc
          have p4 := hV5.cell 4
          have v0 := hX5.cell 0
          have v1 := hX5.cell 1
          have v2 := hX5.cell 2
          have v3 := hX5.cell 3
          have v4 := hX5.cell 4
          simp only [List.getElem?_toArray, List.getElem?_cons_succ, List.getElem?_cons_zero] at p4 v0 v1 v2 v3 v4
          have hnm : (j + 1) + 1 ≤ 1099511627776 := by omega
          have zb5 : gv + 1 ≤ w5.heap.size := hV5.lt
          go_wp2_with (at_builtin; refine app_val rfl _ _ rfl hR5 rfl (by first | rfl | simp) rfl hl5 ho5 hdd hnm zb5 ?_; intro A3 c3 w6 h6 hb6 hg6; have hV6 := hV5.below hb6 (by omega); have p7 := hV6.cell 4; have f7 := hV6.frozen 4; simp only [List.getElem?_toArray, List.getElem?_cons_succ, List.getElem?_cons_zero] at p7)
          obtain ⟨E1, E2, E3, E4, E5⟩ := dr_put (hB5.below hb6 (by omega)) hV6 h6 (hC5.belowB hb6 (by omega)) (hF5.onBelow (hb6.mono (by omega))) hgv hwv (.slice A3 ((j + 1) + 1) c3)
          go_roundg f
          case measure => omega
          case rel => exact ⟨(j + 1) + 1, c3, A3, acc1 ++ [t], es1 ++ [u], by go_num, by omega, E1, E2, E3, hacc5, E4, E5⟩
  · have hBV0 := Blk.new w1 26 #[.int .i64 9, .int .i64 0, .int .i64 0, .string ⟨#[]⟩, .slice none 0 0]
    have hBa := hB2.alloc (.cells #[.int .i64 9, .int .i64 0, .int .i64 0, .string ⟨#[]⟩, .slice none 0 0] 26)
    have hCa := hC2.below (Below.one w1 (.cells #[.int .i64 9, .int .i64 0, .int .i64 0, .string ⟨#[]⟩, .slice none 0 0] 26))
    have hFa := hF2.trans (Fr.of_below (Below.one w1 (.cells #[.int .i64 9, .int .i64 0, .int .i64 0, .string ⟨#[]⟩, .slice none 0 0] 26)))
    have hgv : g < w1.heap.size := hC2.lt
    have hwv : w.heap.size < w1.heap.size := hB2.lt
    go_upto_region 26 with fail
    generalize hve : w1.heap.size = gv at hBV0 hgv hwv ⊢
    generalize (w1.alloc (.cells #[.int .i64 9, .int .i64 0, .int .i64 0, .string ⟨#[]⟩, .slice none 0 0] 26)) = wa at hBV0 hBa hCa hFa ⊢
    clear hve hB2 hC2 hF2
    have q0 := hBV0.cell 0
    have f0 := hBV0.frozen 0
    have hBb := hBa.far (p := ⟨gv, 0, none⟩) (by show w.heap.size ≠ gv; omega) (.int .i64 10)
    have hBV : Blk (wa.setCell ⟨gv, 0, none⟩ (.int .i64 10)) gv 26 #[.int .i64 10, .int .i64 0, .int .i64 0, .string ⟨#[]⟩, .slice none 0 0] := by simpa using hBV0.set_ 0 (.int .i64 10)
    have hCb := hCa.set_ (o := 0) hgv (.int .i64 10)
    have hFb := hFa.new_ (p := ⟨gv, 0, none⟩) (by show w.heap.size ≤ gv; omega) (.int .i64 10)
    go_upto_region 27 with fail
    clear q0 f0 hBV0 hBa hCa hFa
    generalize wa.setCell ⟨gv, 0, none⟩ (.int .i64 10) = wb at hBb hBV hCb hFb ⊢
    go_wp2_with fail
    refine (s_l1Below B g n c A b 4 _ hCb (by decide)).mono ?_; rintro r w3 ⟨m, rfl, hm, hC3, hf3⟩
    obtain ⟨m0, m1⟩ := hm.2 (by decide)
    obtain ⟨mm, rfl⟩ : ∃ mm : Nat, m = mm := ⟨m.toNat, by omega⟩
    clear hm
    have hB3 := hBb.fr_' hf3 (by simpa using hgn)
    have hV3 := hBV.fr_' hf3 (by simp; omega)
    have hF3 := hFb.trans hf3
    have hR3 := RV.nil_ w3 (gv + 1)
    clear hBb hBV hCb hFb hf3
    go_wp2_with fail
    go_loopg [7, 8] mm (fun f v7 v8 wr => ∃ (j c' : Nat) (A' : Option Addr) (acc : List Tr) (es : List El), v7 = .int .i64 f ∧ j + 2 * f ≤ 6 ∧ Blk wr w.heap.size 26 #[.int .i64 0, .int .i64 0, .int .i64 0, .string ⟨#[]⟩, .slice none 0 0] ∧ Blk wr gv 26 #[.int .i64 10, .int .i64 0, .int .i64 0, .string ⟨#[]⟩, .slice A' j c'] ∧ RV wr (gv + 1) A' j c' acc es ∧ (∀ x ∈ acc, drT d x) ∧ Cur wr B g A n c b ∧ Fr [g] w wr)
    case atStart => exact ⟨0, 0, none, [], [], rfl, by omega, hB3, hV3, hR3, (fun x hx => by cases hx), hC3, hF3⟩
    case round =>
      obtain ⟨j, c', A', acc, es, rfl, hjf, hB, hV, hR, hacc, hC, hF⟩ := hrel
      clear hB3 hV3 hR3 hC3 hF3
      cases gk with
      | zero =>
        have p0 := hV.cell 0
        have p1 := hV.cell 1
        have p2 := hV.cell 2
        have p3 := hV.cell 3
        have p4 := hV.cell 4
        simp only [List.getElem?_toArray, List.getElem?_cons_succ, List.getElem?_cons_zero] at p0 p1 p2 p3 p4
        obtain ⟨fp, hL, hO, -⟩ := hR.list hR.cap.1 hR.cap.2
        have hrn : w.heap.size ∉ fp := fun hx => by have := (hO.2 _ hx).1; omega
        obtain ⟨x0, x1, x2, x3, x4, ⟨s0, t0⟩, ⟨s1, t1⟩, ⟨s2, t2⟩, ⟨s3, t3⟩, s4, t4⟩ := hB.five (o := 0) (by simp) (.int .i64 10) (.int .i64 0) (.int .i64 0) (.string ⟨#[]⟩)
        have hE := leaf_put hB hC hF (Nat.le_refl _) hgl ⟨10, 0, 0, ⟨#[]⟩, acc⟩ ⟨A', j, c', fp⟩
        have hT : drT (d + 1) ⟨10, 0, 0, ⟨#[]⟩, acc⟩ := drT_mk (by decide) (by decide) (by rw [hR.len]; omega) hacc
        have hL6 := hL.set5_ (o := 0) (t := ⟨10, 0, 0, ⟨#[]⟩, acc⟩) (e2 := ⟨A', j, c', fp⟩) hrn
        have hR6 := (hR.frg (g := w.heap.size) (fr_put5 (t := ⟨10, 0, 0, ⟨#[]⟩, acc⟩) (e := ⟨A', j, c', fp⟩)) (by omega)).mono (lo' := w.heap.size) (by omega)
        have hO6 := (hO.set5_ (o := 0) (t := ⟨10, 0, 0, ⟨#[]⟩, acc⟩) (e := ⟨A', j, c', fp⟩) hrn).mono (lo2 := w.heap.size) (by omega)
        clear hL hO hR hB hV hC hF hacc
        go_wp2_with fail
        exact bodyPost_ret (results_blk Tryz.results37 Tryz.isAgg26 (by exact Tryz.sizeOf26) rfl hE.1) rfl ⟨⟨10, 0, 0, ⟨#[]⟩, acc⟩, ⟨A', j, c', fp⟩, rfl, hL6, hO6, hT, ⟨_, hR6⟩, hE.2.1, hE.2.2⟩
      | succ f =>
        have hpos : (0 : Int) < ((f + 1 : Nat) : Int) := by omega
        have p0 := hV.cell 0
        simp only [List.getElem?_toArray, List.getElem?_cons_succ, List.getElem?_cons_zero] at p0
        go_upto_region 31 with fail
        clear p0
        have kd := (Below.refl wr.heap.size wr).drew
        have hBd := hB.below kd hB.lt
        have hVd := hV.below kd hV.lt
        have hRd := hR.below kd
        have hCd := hC.below kd
        have hFd := hF.trans (Fr.of_below kd)
        have HN := s_l6Name B g n c A b wr.drew hCd
        have hnm : j + 1 ≤ 1099511627776 := by omega
        have p4 := hV.cell 4
        have p4d := hVd.cell 4
        simp only [List.getElem?_toArray, List.getElem?_cons_succ, List.getElem?_cons_zero] at p4 p4d
        go_cut [0, 1, 81, 82, 83, 84, 85, 86, 87] from 0 to 1 (fun u0 u1 u81 u82 u83 u84 u85 u86 u87 wx => ∃ (c1 : Nat) (A1 : Option Addr) (acc1 : List Tr) (es1 : List El), u0 = .pointer (some ⟨g, 0, none⟩) ∧ u1 = .int .i64 dp ∧ Blk wx w.heap.size 26 #[.int .i64 0, .int .i64 0, .int .i64 0, .string ⟨#[]⟩, .slice none 0 0] ∧ Blk wx gv 26 #[.int .i64 10, .int .i64 0, .int .i64 0, .string ⟨#[]⟩, .slice A1 (j + 1) c1] ∧ RV wx (gv + 1) A1 (j + 1) c1 acc1 es1 ∧ (∀ x ∈ acc1, drT d x) ∧ Cur wx B g A n c b ∧ Fr [g] w wx)
        case first =>
          go_region_law (first
            | (go_simp; go_at_call 33; refine HN.mono ?_; rintro r w4 ⟨u, rfl, hu, hC4, hf4⟩; have hB4 := hBd.fr_' hf4 (by simpa using hgn); have hV4 := hVd.fr_' hf4 (by simp; omega); have hR4 := hRd.frg hf4 (by omega); have hF4 := hFd.trans hf4; have z4 := hV4.lt; have p5 := hV4.cell 4; have p6 := (hV4.alloc (.cells #[.int .i64 u.k, .int .i64 u.n, .int .i64 u.x, .string u.s, .slice none 0 0] 26)).cell 4; simp only [List.getElem?_toArray, List.getElem?_cons_succ, List.getElem?_cons_zero] at p5 p6)
            | (refine step_val (t := u) (u := ⟨none, 0, 0, []⟩) rfl (.tmp 82) (.tmp 85) rfl hR4 (by simp [Act.eval, Act.put]) rfl (by simp [Act.eval, Act.put]) (by rw [hu.1]; exact LsAt.nil_ _ _) (Own.nil_ _ _) (by simp) hnm z4 ?_; intro A3 c3 w6 h6 hb6 hg6; have hV6 := hV4.below hb6 (by omega); have p7 := hV6.cell 4; have f7 := hV6.frozen 4; simp only [List.getElem?_toArray, List.getElem?_cons_succ, List.getElem?_cons_zero] at p7; obtain ⟨E1, E2, E3, E4, E5⟩ := dr_put (hB4.below hb6 (by omega)) hV6 h6 (hC4.belowB hb6 (by omega)) (hF4.onBelow (hb6.mono (by omega))) hgv hwv (.slice A3 (j + 1) c3)))
          all_goals
            go_wp2_with fail
            go_meet
            case rel =>
              refine ⟨c3, A3, acc ++ [u], es ++ [⟨none, 0, 0, []⟩], rfl, rfl, E1, E2, E3, fun x hx => ?_, E4, E5⟩
              rcases List.mem_append.1 hx with h1 | h1
              · exact hacc x h1
              · rw [List.mem_singleton] at h1; subst h1; exact drT_leaf hu d
        case rest =>
          clear hB hV hR hC hF hacc kd hBd hVd hRd hCd hFd HN p4 p4d hnm
          obtain ⟨c1, A1, acc1, es1, rfl, rfl, hB, hV, hR, hacc, hC, hF⟩ := hcut
          go_wp2_with fail
          refine (ih _ hC).mono ?_; rintro r w4 ⟨t, u, rfl, hl4, ho4, ht4, hr4, hC4, hf4⟩; clear hr4
          have kx := Below.one w4 (.cells #[.int .i64 t.k, .int .i64 t.n, .int .i64 t.x, .string t.s, .slice u.A u.n u.c] 26)
          have hB5 := (hB.fr_' hf4 (by simpa using hgn)).alloc (.cells #[.int .i64 t.k, .int .i64 t.n, .int .i64 t.x, .string t.s, .slice u.A u.n u.c] 26)
          have hV5 := (hV.fr_' hf4 (by simp; omega)).alloc (.cells #[.int .i64 t.k, .int .i64 t.n, .int .i64 t.x, .string t.s, .slice u.A u.n u.c] 26)
          have hR5 := (hR.frg hf4 (by omega)).below kx
          have hC5 := hC4.below kx
          have hF5 := (hF.trans hf4).trans (Fr.of_below kx)
          have hdd := hR.newOwn ho4
          have hX5 := Blk.new w4 26 #[.int .i64 t.k, .int .i64 t.n, .int .i64 t.x, .string t.s, .slice u.A u.n u.c]
          have hl5 := hl4.below (fun x hx => ho4.lt hx) kx
          have zv5 : gv < w4.heap.size := (hV.fr_' hf4 (by simp; omega)).lt
          have ho5 := (ho4.below (fun x hx => ho4.lt hx) kx).mono (lo2 := gv + 1) (by have := hV.lt; omega)
          have hacc5 : ∀ x ∈ acc1 ++ [t], drT d x := fun x hx => by
            rcases List.mem_append.1 hx with h1 | h1
            · exact hacc x h1
            · rw [List.mem_singleton] at h1; subst h1; exact ht4
          go_upto_region 33 with fail
          generalize hqe : w4.heap.size = q at hX5 zv5 ⊢
          generalize (w4.alloc (.cells #[.int .i64 t.k, .int .i64 t.n, .int .i64 t.x, .string t.s, .slice u.A u.n u.c] 26)) = w5 at hB5 hV5 hR5 hC5 hF5 hX5 hl5 ho5 ⊢
          clear hqe hl4 ho4 hC4 hf4 kx hB hV hR hC hF hacc
          have p4 := hV5.cell 4
          have v0 := hX5.cell 0
          have v1 := hX5.cell 1
          have v2 := hX5.cell 2
          have v3 := hX5.cell 3
          have v4 := hX5.cell 4
          simp only [List.getElem?_toArray, List.getElem?_cons_succ, List.getElem?_cons_zero] at p4 v0 v1 v2 v3 v4
          have hnm : (j + 1) + 1 ≤ 1099511627776 := by omega
          have zb5 : gv + 1 ≤ w5.heap.size := hV5.lt
          go_wp2_with (at_builtin; refine app_val rfl _ _ rfl hR5 rfl (by first | rfl | simp) rfl hl5 ho5 hdd hnm zb5 ?_; intro A3 c3 w6 h6 hb6 hg6; have hV6 := hV5.below hb6 (by omega); have p7 := hV6.cell 4; have f7 := hV6.frozen 4; simp only [List.getElem?_toArray, List.getElem?_cons_succ, List.getElem?_cons_zero] at p7)
          obtain ⟨E1, E2, E3, E4, E5⟩ := dr_put (hB5.below hb6 (by omega)) hV6 h6 (hC5.belowB hb6 (by omega)) (hF5.onBelow (hb6.mono (by omega))) hgv hwv (.slice A3 ((j + 1) + 1) c3)
          go_roundg f
          case measure => omega
          case rel => exact ⟨(j + 1) + 1, c3, A3, acc1 ++ [t], es1 ++ [u], by go_num, by omega, E1, E2, E3, hacc5, E4, E5⟩
theorem s_l6Draw (B g n c : Nat) (A : Option Addr) (b : List UInt8) : ∀ (d : Nat), d ≤ 100 → ∀ w, Cur w B g A n c b →
    Calls Tryz.prog 37 #[.pointer (some ⟨g, 0, none⟩), .int .i64 d] w fun r w' => TreeDrawn d w w' B g n c A b r
  | 0, _, w, h => (s_l6DrawZ B g n c A b w h).mono fun r w' ⟨u, h1, hu, h3, h4⟩ => ⟨u, ⟨none, 0, 0, []⟩, h1, by rw [hu.1]; exact LsAt.nil_ _ _, Own.nil_ _ _, hu, by rw [hu.1]; exact RowOf.nil_ _ _, h3, h4⟩
  | d + 1, hd, w, h => s_l6Draw_step d (by omega) B g n c A b (s_l6Draw B g n c A b d (by omega)) w h
end Go.Proofs.YtmnlkedacnemcaaGreatDoor
