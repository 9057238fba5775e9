/- Marks drawn. Written by gen/markdraws.py. -/
import Derived.Test.YtmnlkedacnemcaaGreatDoorTwM32
import Derived.Test.YtmnlkedacnemcaaGreatDoorTwM33
import Derived.Test.YtmnlkedacnemcaaGreatDoorTwPutMark
import Derived.Test.YtmnlkedacnemcaaGreatDoorTwM27
set_option linter.unusedVariables false
set_option maxRecDepth 100000
set_option linter.unusedSimpArgs false
namespace Go.Proofs.YtmnlkedacnemcaaGreatDoor
open Go.RowKit

set_option maxHeartbeats 4000000 in
theorem s_l5DecW (B g n c : Nat) (A : Option Addr) (b : List UInt8) (w : World) (h : Cur w B g A n c b) :
    Calls Tryz.prog 54 #[.pointer (some ⟨g, 0, none⟩)] w fun r w' => ∃ x y : Int, r = .returned (.agg #[.int .i64 x, .int .i64 y]) ∧ (-9223372036854775808 ≤ x ∧ x ≤ 9223372036854775807) ∧ (-9223372036854775808 ≤ y ∧ y ≤ 9223372036854775807) ∧ Cur w' B g A n c b ∧ Fr [g] w w' := by
  have hgl := h.lt
  have hgn : w.heap.size ≠ g := by omega
  have h0 := h.below (Below.one w (.cells #[.int .i64 0, .int .i64 0] 75))
  have hF0 : Fr [g] w (w.alloc (.cells #[.int .i64 0, .int .i64 0] 75)) := Fr.of_below (Below.one _ _)
  have hB0 := Blk.new w 75 #[.int .i64 0, .int .i64 0]
  go_enter Tryz.func54, Tryz.ntmps54
  go_upto_region 1 with fail
  generalize (w.alloc (.cells #[.int .i64 0, .int .i64 0] 75)) = wa at h0 hF0 hB0 ⊢
  go_wp2_with fail
  refine (s_l1Once B g n c A b 2 _ h0 (by decide)).mono ?_; rintro r w1 ⟨o1, rfl, hC1, hf1⟩
  have hB1 := hB0.fr_' hf1 (by simpa using hgn)
  have hF1 := hF0.trans hf1
  cases o1 with
  | false =>
    go_wp2_with fail
    refine (s_l4Draw B g n c A b _ hC1).mono ?_; rintro r wt ⟨x, y, rfl, hx, hy, hCt, hft⟩
    have hBt := hB1.fr_' hft (by simpa using hgn)
    have hFt := hF1.trans hft
    have r0 := hBt.cell 0
    have r1 := hBt.cell 1
    have f0 := hBt.frozen 0
    have f1 := hBt.frozen 1
    go_wp2_with fail
    exact bodyPost_ret (results_blk Tryz.results54 Tryz.isAgg75 (by exact Tryz.sizeOf75) rfl (hBt.two _ _)) rfl ⟨x, y, rfl, by omega, by omega, cur_two hCt hgn hgl, (hFt.new_ (p := ⟨w.heap.size, 0, none⟩) (Nat.le_refl _) _).new_ (p := ⟨w.heap.size, 1, none⟩) (Nat.le_refl _) _⟩
  | true =>
    go_wp2_with fail
    refine (s_l5Draw B g n c A b _ hC1).mono ?_; rintro r w2 ⟨m, e, rfl, he, hC2, hf2⟩
    have hB2 := hB1.fr_' hf2 (by simpa using hgn)
    have hF2 := hF1.trans hf2
    go_wp2_with fail
    refine (s_FltDecW m e _ he).mono ?_; rintro r w3 ⟨x, y, rfl, hx, hy, hb3⟩
    have hB3 := (hB2.below hb3 hB2.lt).alloc (.cells #[.int .i64 x, .int .i64 y] 75)
    have hC3 := (hC2.below hb3).below (Below.one w3 (.cells #[.int .i64 x, .int .i64 y] 75))
    have hF3 := (hF2.onBelow (hb3.mono hF2.size)).trans (Fr.of_below (Below.one w3 (.cells #[.int .i64 x, .int .i64 y] 75)))
    have hD3 := Blk.new w3 75 #[.int .i64 x, .int .i64 y]
    have hqg : g < w3.heap.size := (hC2.below hb3).lt
    have hqw : w.heap.size ≤ w3.heap.size := (hF2.onBelow (hb3.mono hF2.size)).size
    have hqn : w.heap.size ≠ w3.heap.size := by have := (hB2.below hb3 hB2.lt).lt; omega
    go_upto_region 3 with fail
    generalize hqe : w3.heap.size = q at hD3 hqg hqw hqn ⊢
    generalize (w3.alloc (.cells #[.int .i64 x, .int .i64 y] 75)) = w4 at hB3 hC3 hF3 hD3 ⊢
    clear hb3 hqe
    have hqg2 : q ≠ g := by omega
    go_wp2_with fail
    refine (s_l1Once B g n c A b 3 _ hC3 (by decide)).mono ?_; rintro r w5 ⟨o2, rfl, hC5, hf5⟩
    have hB5 := hB3.fr_' hf5 (by simpa using hgn)
    have hD5 := hD3.fr_' hf5 (by simpa using hqg2)
    have hF5 := hF3.trans hf5
    clear h0 hF0 hB0 hC1 hF1 hB1 hf1 hC2 hF2 hB2 hf2 hC3 hF3 hB3 hD3 hf5
    cases o2 with
    | false =>
      have hB6 := hB5
      have hD6 := hD5
      have hC6 := hC5
      have hF6 := hF5
      clear hB5 hD5 hC5 hF5
      have d0 := hD6.cell 0
      have d1 := hD6.cell 1
      have e0 := hD6.frozen 0
      have e1 := hD6.frozen 1
      go_wp2_with fail
      refine (s_DecOk x y _ hx hy).mono ?_; rintro r w7 ⟨rfl, hb7⟩
      have hB7 := hB6.below hb7 hB6.lt
      have hD7 := hD6.below hb7 hD6.lt
      have hC7 := hC6.below hb7
      have hF7 := hF6.onBelow (hb7.mono hF6.size)
      clear d0 d1 e0 e1 hB6 hD6 hC6 hF6 hb7
      cases hk : decOk x y with
      | true =>
        clear hk
        have d0 := hD7.cell 0
        have d1 := hD7.cell 1
        have r0 := hB7.cell 0
        have r1 := hB7.cell 1
        have f0 := hB7.frozen 0
        have f1 := hB7.frozen 1
        go_wp2_with fail
        exact bodyPost_ret (results_blk Tryz.results54 Tryz.isAgg75 (by exact Tryz.sizeOf75) rfl (hB7.two _ _)) rfl ⟨x, y, rfl, hx, hy, cur_two hC7 hgn hgl, (hF7.new_ (p := ⟨w.heap.size, 0, none⟩) (Nat.le_refl _) _).new_ (p := ⟨w.heap.size, 1, none⟩) (Nat.le_refl _) _⟩
      | false =>
        clear hk
        go_wp2_with fail
        refine (s_l4Draw B g n c A b _ hC7).mono ?_; rintro r wt ⟨x, y, rfl, hx, hy, hCt, hft⟩
        have hBt := hB7.fr_' hft (by simpa using hgn)
        have hFt := hF7.trans hft
        have r0 := hBt.cell 0
        have r1 := hBt.cell 1
        have f0 := hBt.frozen 0
        have f1 := hBt.frozen 1
        go_wp2_with fail
        exact bodyPost_ret (results_blk Tryz.results54 Tryz.isAgg75 (by exact Tryz.sizeOf75) rfl (hBt.two _ _)) rfl ⟨x, y, rfl, by omega, by omega, cur_two hCt hgn hgl, (hFt.new_ (p := ⟨w.heap.size, 0, none⟩) (Nat.le_refl _) _).new_ (p := ⟨w.heap.size, 1, none⟩) (Nat.le_refl _) _⟩
    | true =>
      have hw := wrap64_two (x + 1)
      have d0 := hD5.cell 0
      have d1 := hD5.cell 1
      have e0 := hD5.frozen 0
      have e1 := hD5.frozen 1
      go_upto_region 5 with fail
      generalize wrap64 (x + 1) = x1 at hw ⊢
      have hB6 := hB5.far (p := ⟨q, 0, none⟩) hqn (.int .i64 x1)
      have hD6 : Blk (w5.setCell ⟨q, 0, none⟩ (.int .i64 x1)) q 75 #[.int .i64 x1, .int .i64 y] := by simpa using hD5.set_ 0 (.int .i64 x1)
      have hC6 := hC5.set_ (o := 0) hqg (.int .i64 x1)
      have hF6 := hF5.new_ (p := ⟨q, 0, none⟩) hqw (.int .i64 x1)
      clear d0 d1 e0 e1 hB5 hD5 hC5 hF5
      generalize w5.setCell ⟨q, 0, none⟩ (.int .i64 x1) = w6 at hB6 hD6 hC6 hF6 ⊢
      have d0 := hD6.cell 0
      have d1 := hD6.cell 1
      have e0 := hD6.frozen 0
      have e1 := hD6.frozen 1
      go_wp2_with fail
      refine (s_DecOk x1 y _ hw hy).mono ?_; rintro r w7 ⟨rfl, hb7⟩
      have hB7 := hB6.below hb7 hB6.lt
      have hD7 := hD6.below hb7 hD6.lt
      have hC7 := hC6.below hb7
      have hF7 := hF6.onBelow (hb7.mono hF6.size)
      clear d0 d1 e0 e1 hB6 hD6 hC6 hF6 hb7
      cases hk : decOk x1 y with
      | true =>
        clear hk
        have d0 := hD7.cell 0
        have d1 := hD7.cell 1
        have r0 := hB7.cell 0
        have r1 := hB7.cell 1
        have f0 := hB7.frozen 0
        have f1 := hB7.frozen 1
        go_wp2_with fail
        exact bodyPost_ret (results_blk Tryz.results54 Tryz.isAgg75 (by exact Tryz.sizeOf75) rfl (hB7.two _ _)) rfl ⟨x1, y, rfl, hw, hy, cur_two hC7 hgn hgl, (hF7.new_ (p := ⟨w.heap.size, 0, none⟩) (Nat.le_refl _) _).new_ (p := ⟨w.heap.size, 1, none⟩) (Nat.le_refl _) _⟩
      | false =>
        clear hk
        go_wp2_with fail
        refine (s_l4Draw B g n c A b _ hC7).mono ?_; rintro r wt ⟨x, y, rfl, hx, hy, hCt, hft⟩
        have hBt := hB7.fr_' hft (by simpa using hgn)
        have hFt := hF7.trans hft
        have r0 := hBt.cell 0
        have r1 := hBt.cell 1
        have f0 := hBt.frozen 0
        have f1 := hBt.frozen 1
        go_wp2_with fail
        exact bodyPost_ret (results_blk Tryz.results54 Tryz.isAgg75 (by exact Tryz.sizeOf75) rfl (hBt.two _ _)) rfl ⟨x, y, rfl, by omega, by omega, cur_two hCt hgn hgl, (hFt.new_ (p := ⟨w.heap.size, 0, none⟩) (Nat.le_refl _) _).new_ (p := ⟨w.heap.size, 1, none⟩) (Nat.le_refl _) _⟩
/-- A value drawn that has no elements. -/
def LeafOk (u : Tr) : Prop := u.l = [] ∧ (-9223372036854775808 ≤ u.n ∧ u.n ≤ 9223372036854775807) ∧ (-9223372036854775808 ≤ u.x ∧ u.x ≤ 9223372036854775807) ∧ u.s.size ≤ 1000 ∧ (1 ≤ u.k ∧ u.k ≤ 8)
theorem leafOk_ {k n x : Int} {s : ByteArray} (hn : -9223372036854775808 ≤ n ∧ n ≤ 9223372036854775807) (hx : -9223372036854775808 ≤ x ∧ x ≤ 9223372036854775807) (hs : s.size ≤ 1000) (hk : 1 ≤ k ∧ k ≤ 8) : LeafOk (leafTr k n x s) := ⟨rfl, hn, hx, hs, hk⟩
theorem leafOk_num {n x : Int} (hn : -9223372036854775808 ≤ n ∧ n ≤ 9223372036854775807) (hx : -9223372036854775808 ≤ x ∧ x ≤ 9223372036854775807) : LeafOk (numT n x) := by
  unfold numT
  split
  · exact leafOk_ hn (by decide) (by decide) (by decide)
  · exact leafOk_ hn hx (by decide) (by decide)
/-- A value put into its place. -/
theorem leaf_put {w w' : World} {B g n c q : Nat} {A : Option Addr} {b : List UInt8} {T : TypeId} {a1 a2 a3 a4 a5 : Value} (hB : Blk w' q T #[a1, a2, a3, a4, a5]) (hC : Cur w' B g A n c b) (hF : Fr [g] w w') (hq : w.heap.size ≤ q) (hg : g < q) (u : Tr) (e : El) :
    Blk (set5 w' q 0 u e) q T #[.int .i64 u.k, .int .i64 u.n, .int .i64 u.x, .string u.s, .slice e.A e.n e.c] ∧ Cur (set5 w' q 0 u e) B g A n c b ∧ Fr [g] w (set5 w' q 0 u e) :=
  ⟨hB.five_ u e, ((((hC.set_ (o := 0) hg _).set_ (o := 1) hg _).set_ (o := 2) hg _).set_ (o := 3) hg _).set_ (o := 4) hg _,
    ((((hF.new_ (p := ⟨q, 0, none⟩) hq _).new_ (p := ⟨q, 1, none⟩) hq _).new_ (p := ⟨q, 2, none⟩) hq _).new_ (p := ⟨q, 3, none⟩) hq _).new_ (p := ⟨q, 4, none⟩) hq _⟩
set_option maxHeartbeats 4000000 in
theorem s_l5DrawB (B g n c : Nat) (A : Option Addr) (b : List UInt8) (w : World) (h : Cur w B g A n c b) :
    Calls Tryz.prog 52 #[.pointer (some ⟨g, 0, none⟩)] w fun r w' => ∃ x y : Int, r = .returned (.agg #[.int .i64 x, .int .i64 y]) ∧ (-9223372036854775808 ≤ x ∧ x ≤ 9223372036854775807) ∧ (-9223372036854775808 ≤ y ∧ y ≤ 9223372036854775807) ∧ Cur w' B g A n c b ∧ Fr [g] w w' := by
  have hgl := h.lt
  have hgn : w.heap.size ≠ g := by omega
  have h0 := h.below (Below.one w (.cells #[.int .i64 0, .int .i64 0] 65))
  have hF0 : Fr [g] w (w.alloc (.cells #[.int .i64 0, .int .i64 0] 65)) := Fr.of_below (Below.one _ _)
  have hR : ∀ w', Fr [g] (w.alloc (.cells #[.int .i64 0, .int .i64 0] 65)) w' → Blk w' w.heap.size 65 #[.int .i64 0, .int .i64 0] := fun w' hf => Blk.fr_' (Blk.new w _ _) hf (by simpa using hgn)
  go_enter Tryz.func52, Tryz.ntmps52
  go_wp2_with fail
  refine (s_l1Below B g n c A b 32767 _ h0 (by decide)).mono ?_; rintro r w1 ⟨x1, rfl, hx1, hC1, hf1⟩
  go_wp2_with fail
  refine (s_l1Int B g n c A b (some ⟨w1.heap.size, 0, none⟩) 8 8 [0, 1, 3, 5, 255, 32767, 65535, wrap64 (1 + wrap64 (2 * x1))] _ (hC1.below (Below.one _ _)) (by exact i64s_lit _ _ [0, 1, 3, 5, 255, 32767, 65535, wrap64 (1 + wrap64 (2 * x1))] _ rfl (by exact Nat.le_of_ble_eq_true rfl)) (lit_ne hC1.lt) (by decide)).mono ?_; rintro r w2 ⟨m, rfl, hm, hCw2, hfw2⟩
  have hFw2 := (hf1.trans (Fr.of_below (Below.one _ _))).trans hfw2
  go_wp2_with fail
  refine (s_l1Below B g n c A b 47 _ hCw2 (by decide)).mono ?_; rintro r w3 ⟨x3, rfl, hx3, hC3, hf3⟩
  have hF3 := hFw2.trans hf3
  go_wp2_with fail
  refine (s_l1Int B g n c A b (some ⟨w3.heap.size, 0, none⟩) 7 7 [0, 0, 1, -1, -16, 30, wrap64 (x3 - 16)] _ (hC3.below (Below.one _ _)) (by exact i64s_lit _ _ [0, 0, 1, -1, -16, 30, wrap64 (x3 - 16)] _ rfl (by exact Nat.le_of_ble_eq_true rfl)) (lit_ne hC3.lt) (by decide)).mono ?_; rintro r w4 ⟨e, rfl, he, hCw4, hfw4⟩
  have hFw4 := (hF3.trans (Fr.of_below (Below.one _ _))).trans hfw4
  have hmb : -9223372036854775808 ≤ m ∧ m ≤ 9223372036854775807 := by
    simp only [List.mem_cons, List.not_mem_nil, or_false] at hm
    unfold wrap64 at hm
    omega
  have heb : -9223372036854775808 ≤ e ∧ e ≤ 9223372036854775807 := by
    simp only [List.mem_cons, List.not_mem_nil, or_false] at he
    unfold wrap64 at he
    omega
  clear hx1 hx3 hC1 hC3 hf1 hf3 hCw2 hfw2 hFw2 hF3 hfw4 hm he h h0
  have HM := Lib.hid hmb
  have HE := Lib.hid heb
  clear hmb heb
  by_cases hm0 : m = 0
  · subst hm0
    go_wp2_with fail
    refine (s_l1Once B g n c A b 3 _ hCw4 (by decide)).mono ?_; rintro r w7 ⟨o7, rfl, hC7, hf7⟩
    have hF7 := hFw4.trans hf7
    have hR7 := hR w7 hF7
    obtain ⟨r0, r1, q0, q1, ql⟩ := hR7.at2'
    cases o7
    · go_wp2_with fail
      exact bodyPost_ret (results_blk Tryz.results52 Tryz.isAgg65 (by exact Tryz.sizeOf65) rfl (hR7.two _ _)) rfl ⟨_, _, rfl, by first | decide | exact HM.out | exact wrap64_two _ | exact wrapI_two _ | (have := HM.out; omega), by first | decide | exact HE.out | exact HE2.out | exact wrap64_two _ | exact wrapI_two _ | omega, cur_two hC7 hgn hgl, ((hF0.trans hF7).new_ (Nat.le_refl _) _).new_ (Nat.le_refl _) _⟩
    · go_wp2_with fail
      exact bodyPost_ret (results_blk Tryz.results52 Tryz.isAgg65 (by exact Tryz.sizeOf65) rfl (hR7.two _ _)) rfl ⟨_, _, rfl, by first | decide | exact HM.out | exact wrap64_two _ | exact wrapI_two _ | (have := HM.out; omega), by first | decide | exact HE.out | exact HE2.out | exact wrap64_two _ | exact wrapI_two _ | omega, cur_two hC7 hgn hgl, ((hF0.trans hF7).new_ (Nat.le_refl _) _).new_ (Nat.le_refl _) _⟩
  have hmz : (m == 0) = false := by simp [hm0]
  by_cases hm1 : m = 1
  · subst hm1
    go_wp2_with fail
    refine (s_l1Once B g n c A b 2 _ hCw4 (by decide)).mono ?_; rintro r w5 ⟨o5, rfl, hC5, hf5⟩
    have hF5 := hFw4.trans hf5
    cases o5
    · go_wp2_with fail
      refine (s_l1Once B g n c A b 3 _ hC5 (by decide)).mono ?_; rintro r w7 ⟨o7, rfl, hC7, hf7⟩
      have hF7 := hF5.trans hf7
      have hR7 := hR w7 hF7
      obtain ⟨r0, r1, q0, q1, ql⟩ := hR7.at2'
      cases o7
      · go_wp2_with fail
        exact bodyPost_ret (results_blk Tryz.results52 Tryz.isAgg65 (by exact Tryz.sizeOf65) rfl (hR7.two _ _)) rfl ⟨_, _, rfl, by first | decide | exact HM.out | exact wrap64_two _ | exact wrapI_two _ | (have := HM.out; omega), by first | decide | exact HE.out | exact HE2.out | exact wrap64_two _ | exact wrapI_two _ | omega, cur_two hC7 hgn hgl, ((hF0.trans hF7).new_ (Nat.le_refl _) _).new_ (Nat.le_refl _) _⟩
      · go_wp2_with fail
        exact bodyPost_ret (results_blk Tryz.results52 Tryz.isAgg65 (by exact Tryz.sizeOf65) rfl (hR7.two _ _)) rfl ⟨_, _, rfl, by first | decide | exact HM.out | exact wrap64_two _ | exact wrapI_two _ | (have := HM.out; omega), by first | decide | exact HE.out | exact HE2.out | exact wrap64_two _ | exact wrapI_two _ | omega, cur_two hC7 hgn hgl, ((hF0.trans hF7).new_ (Nat.le_refl _) _).new_ (Nat.le_refl _) _⟩
    · go_wp2_with fail
      refine (s_l1Int B g n c A b (some ⟨w5.heap.size, 0, none⟩) 2 2 [31, 45] _ (hC5.below (Below.one _ _)) (by exact i64s_lit _ _ [31, 45] _ rfl (by exact Nat.le_of_ble_eq_true rfl)) (lit_ne hC5.lt) (by decide)).mono ?_; rintro r w6 ⟨e2, rfl, he2, hCw6, hfw6⟩
      have hFw6 := (hF5.trans (Fr.of_below (Below.one _ _))).trans hfw6
      have heb2 : -9223372036854775808 ≤ e2 ∧ e2 ≤ 9223372036854775807 := by
        simp only [List.mem_cons, List.not_mem_nil, or_false] at he2
        omega
      clear he2
      have HE2 := Lib.hid heb2
      clear heb2
      go_wp2_with fail
      refine (s_l1Once B g n c A b 3 _ hCw6 (by decide)).mono ?_; rintro r w7 ⟨o7, rfl, hC7, hf7⟩
      have hF7 := hFw6.trans hf7
      have hR7 := hR w7 hF7
      obtain ⟨r0, r1, q0, q1, ql⟩ := hR7.at2'
      cases o7
      · go_wp2_with fail
        exact bodyPost_ret (results_blk Tryz.results52 Tryz.isAgg65 (by exact Tryz.sizeOf65) rfl (hR7.two _ _)) rfl ⟨_, _, rfl, by first | decide | exact HM.out | exact wrap64_two _ | exact wrapI_two _ | (have := HM.out; omega), by first | decide | exact HE.out | exact HE2.out | exact wrap64_two _ | exact wrapI_two _ | omega, cur_two hC7 hgn hgl, ((hF0.trans hF7).new_ (Nat.le_refl _) _).new_ (Nat.le_refl _) _⟩
      · go_wp2_with fail
        exact bodyPost_ret (results_blk Tryz.results52 Tryz.isAgg65 (by exact Tryz.sizeOf65) rfl (hR7.two _ _)) rfl ⟨_, _, rfl, by first | decide | exact HM.out | exact wrap64_two _ | exact wrapI_two _ | (have := HM.out; omega), by first | decide | exact HE.out | exact HE2.out | exact wrap64_two _ | exact wrapI_two _ | omega, cur_two hC7 hgn hgl, ((hF0.trans hF7).new_ (Nat.le_refl _) _).new_ (Nat.le_refl _) _⟩
  · have hmo : (m == 1) = false := by simp [hm1]
    go_wp2_with fail
    refine (s_l1Once B g n c A b 3 _ hCw4 (by decide)).mono ?_; rintro r w7 ⟨o7, rfl, hC7, hf7⟩
    have hF7 := hFw4.trans hf7
    have hR7 := hR w7 hF7
    obtain ⟨r0, r1, q0, q1, ql⟩ := hR7.at2'
    cases o7
    · go_wp2_with fail
      exact bodyPost_ret (results_blk Tryz.results52 Tryz.isAgg65 (by exact Tryz.sizeOf65) rfl (hR7.two _ _)) rfl ⟨_, _, rfl, by first | decide | exact HM.out | exact wrap64_two _ | exact wrapI_two _ | (have := HM.out; omega), by first | decide | exact HE.out | exact HE2.out | exact wrap64_two _ | exact wrapI_two _ | omega, cur_two hC7 hgn hgl, ((hF0.trans hF7).new_ (Nat.le_refl _) _).new_ (Nat.le_refl _) _⟩
    · go_wp2_with fail
      exact bodyPost_ret (results_blk Tryz.results52 Tryz.isAgg65 (by exact Tryz.sizeOf65) rfl (hR7.two _ _)) rfl ⟨_, _, rfl, by first | decide | exact HM.out | exact wrap64_two _ | exact wrapI_two _ | (have := HM.out; omega), by first | decide | exact HE.out | exact HE2.out | exact wrap64_two _ | exact wrapI_two _ | omega, cur_two hC7 hgn hgl, ((hF0.trans hF7).new_ (Nat.le_refl _) _).new_ (Nat.le_refl _) _⟩
set_option maxHeartbeats 16000000 in
theorem s_l6DrawZ (B g n c : Nat) (A : Option Addr) (b : List UInt8) (w : World) (h : Cur w B g A n c b) :
    Calls Tryz.prog 37 #[.pointer (some ⟨g, 0, none⟩), .int .i64 0] w fun r w' => ∃ u : Tr, r = .returned (trV u ⟨none, 0, 0, []⟩) ∧ LeafOk u ∧ Cur w' B g A n c b ∧ Fr [g] w w' := by
  have hgl := h.lt
  have hgn : w.heap.size ≠ g := by omega
  have hC0 := h.below (Below.one w (.cells #[.int .i64 0, .int .i64 0, .int .i64 0, .string ⟨#[]⟩, .slice none 0 0] 26))
  have hF0 : Fr [g] w (w.alloc (.cells #[.int .i64 0, .int .i64 0, .int .i64 0, .string ⟨#[]⟩, .slice none 0 0] 26)) := Fr.of_below (Below.one _ _)
  have hB0 := Blk.new w 26 #[.int .i64 0, .int .i64 0, .int .i64 0, .string ⟨#[]⟩, .slice none 0 0]
  go_enter Tryz.func37, Tryz.ntmps37
  go_upto_region 1 with fail
  generalize (w.alloc (.cells #[.int .i64 0, .int .i64 0, .int .i64 0, .string ⟨#[]⟩, .slice none 0 0] 26)) = w0 at hC0 hF0 hB0 ⊢
  go_wp2_with fail
  refine (s_l1Below B g n c A b 13 _ hC0 (by decide)).mono ?_; rintro r w1 ⟨z1, rfl, hz1, hC1, hf1⟩
  obtain ⟨y1, v1⟩ := hz1.2 (by decide)
  clear hz1
  have hB1 := hB0.fr_' hf1 (by simpa using hgn)
  have hF1 := hF0.trans hf1
  clear hB0 hF0 hC0
  go_wp2_with fail
  refine (s_l1Below B g n c A b 9 _ hC1 (by decide)).mono ?_; rintro r w2 ⟨z2, rfl, hz2, hC2, hf2⟩
  obtain ⟨y2, v2⟩ := hz2.2 (by decide)
  clear hz2
  have hB2 := hB1.fr_' hf2 (by simpa using hgn)
  have hF2 := hF1.trans hf2
  clear hB1 hF1 hC1 hf1 hf2
  have hk : z2 = 0 ∨ z2 = 1 ∨ z2 = 2 ∨ z2 = 3 ∨ z2 = 4 ∨ z2 = 5 ∨ z2 = 6 ∨ z2 = 7 ∨ z2 = 8 := by omega
  clear y2 v2 y1 v1
  rcases hk with rfl | rfl | rfl | rfl | rfl | rfl | rfl | rfl | rfl
  · obtain ⟨x0, x1, x2, x3, x4, ⟨s0, t0⟩, ⟨s1, t1⟩, ⟨s2, t2⟩, ⟨s3, t3⟩, s4, t4⟩ := hB2.five (o := 0) (by simp) (.int .i64 1) (.int .i64 0) (.int .i64 0) (.string ⟨#[]⟩)
    have hE := leaf_put hB2 hC2 hF2 (Nat.le_refl _) hgl (leafTr 1 0 0 ⟨#[]⟩) ⟨none, 0, 0, []⟩
    go_wp2_with fail
    exact bodyPost_ret (results_blk Tryz.results37 Tryz.isAgg26 (by exact Tryz.sizeOf26) rfl hE.1) rfl ⟨leafTr 1 0 0 ⟨#[]⟩, rfl, leafOk_ (by decide) (by decide) (by decide) (by decide), hE.2.1, hE.2.2⟩
  · go_wp2_with fail
    refine (s_l1Below B g n c A b 2 _ hC2 (by decide)).mono ?_; rintro r w3 ⟨z3, rfl, hz3, hC3, hf3⟩
    obtain ⟨y3, v3⟩ := hz3.2 (by decide)
    clear hz3
    have hB3 := hB2.fr_' hf3 (by simpa using hgn)
    have hF3 := hF2.trans hf3
    obtain ⟨x0, x1, x2, x3, x4, ⟨s0, t0⟩, ⟨s1, t1⟩, ⟨s2, t2⟩, ⟨s3, t3⟩, s4, t4⟩ := hB3.five (o := 0) (by simp) (.int .i64 2) (.int .i64 z3) (.int .i64 0) (.string ⟨#[]⟩)
    have hE := leaf_put hB3 hC3 hF3 (Nat.le_refl _) hgl (leafTr 2 z3 0 ⟨#[]⟩) ⟨none, 0, 0, []⟩
    go_wp2_with fail
    exact bodyPost_ret (results_blk Tryz.results37 Tryz.isAgg26 (by exact Tryz.sizeOf26) rfl hE.1) rfl ⟨leafTr 2 z3 0 ⟨#[]⟩, rfl, leafOk_ (by omega) (by decide) (by decide) (by decide), hE.2.1, hE.2.2⟩
  · go_wp2_with fail
    refine (s_l1SignedB B g n c A b _ hC2).mono ?_; rintro r w3 ⟨z, rfl, hz, hC3, hf3⟩
    have hB3 := hB2.fr_' hf3 (by simpa using hgn)
    have hF3 := hF2.trans hf3
    go_wp2_with fail
    refine (s_IntVal z _).mono ?_; rintro r w4 ⟨rfl, hb4⟩
    have hB4 := hB3.below hb4 hB3.lt
    have hC4 := hC3.below hb4
    have hF4 := hF3.onBelow (hb4.mono hF3.size)
    have hu := leafOk_ (k := 3) (s := ⟨#[]⟩) hz (x := 0) (by decide) (by decide) (by decide)
    generalize leafTr 3 z 0 ⟨#[]⟩ = u at hu ⊢
    obtain ⟨x0, x1, x2, x3, x4, ⟨s0, t0⟩, ⟨s1, t1⟩, ⟨s2, t2⟩, ⟨s3, t3⟩, s4, t4⟩ := hB4.five (o := 0) (by simp) (.int .i64 u.k) (.int .i64 u.n) (.int .i64 u.x) (.string u.s)
    have hE := leaf_put hB4 hC4 hF4 (Nat.le_refl _) hgl u ⟨none, 0, 0, []⟩
    go_wp2_with fail
    exact bodyPost_ret (results_blk Tryz.results37 Tryz.isAgg26 (by exact Tryz.sizeOf26) rfl hE.1) rfl ⟨u, rfl, hu, hE.2.1, hE.2.2⟩
  · go_wp2_with fail
    refine (s_l1SignedB B g n c A b _ hC2).mono ?_; rintro r w3 ⟨z, rfl, hz, hC3, hf3⟩
    have hB3 := hB2.fr_' hf3 (by simpa using hgn)
    have hF3 := hF2.trans hf3
    go_wp2_with fail
    refine (s_IntVal z _).mono ?_; rintro r w4 ⟨rfl, hb4⟩
    have hB4 := hB3.below hb4 hB3.lt
    have hC4 := hC3.below hb4
    have hF4 := hF3.onBelow (hb4.mono hF3.size)
    have hu := leafOk_ (k := 3) (s := ⟨#[]⟩) hz (x := 0) (by decide) (by decide) (by decide)
    generalize leafTr 3 z 0 ⟨#[]⟩ = u at hu ⊢
    obtain ⟨x0, x1, x2, x3, x4, ⟨s0, t0⟩, ⟨s1, t1⟩, ⟨s2, t2⟩, ⟨s3, t3⟩, s4, t4⟩ := hB4.five (o := 0) (by simp) (.int .i64 u.k) (.int .i64 u.n) (.int .i64 u.x) (.string u.s)
    have hE := leaf_put hB4 hC4 hF4 (Nat.le_refl _) hgl u ⟨none, 0, 0, []⟩
    go_wp2_with fail
    exact bodyPost_ret (results_blk Tryz.results37 Tryz.isAgg26 (by exact Tryz.sizeOf26) rfl hE.1) rfl ⟨u, rfl, hu, hE.2.1, hE.2.2⟩
  · go_wp2_with fail
    refine (s_l5DrawB B g n c A b _ hC2).mono ?_; rintro r w3 ⟨m, e, rfl, hm, he, hC3, hf3⟩
    have hB3 := hB2.fr_' hf3 (by simpa using hgn)
    have hF3 := hF2.trans hf3
    go_wp2_with fail
    refine (s_l6FltVal m e _).mono ?_; rintro r w4 ⟨rfl, hb4⟩
    have hB4 := hB3.below hb4 hB3.lt
    have hC4 := hC3.below hb4
    have hF4 := hF3.onBelow (hb4.mono hF3.size)
    have hu := leafOk_ (k := 4) (s := ⟨#[]⟩) hm he (by decide) (by decide)
    generalize leafTr 4 m e ⟨#[]⟩ = u at hu ⊢
    obtain ⟨x0, x1, x2, x3, x4, ⟨s0, t0⟩, ⟨s1, t1⟩, ⟨s2, t2⟩, ⟨s3, t3⟩, s4, t4⟩ := hB4.five (o := 0) (by simp) (.int .i64 u.k) (.int .i64 u.n) (.int .i64 u.x) (.string u.s)
    have hE := leaf_put hB4 hC4 hF4 (Nat.le_refl _) hgl u ⟨none, 0, 0, []⟩
    go_wp2_with fail
    exact bodyPost_ret (results_blk Tryz.results37 Tryz.isAgg26 (by exact Tryz.sizeOf26) rfl hE.1) rfl ⟨u, rfl, hu, hE.2.1, hE.2.2⟩
  · go_wp2_with fail
    refine (s_l1Below B g n c A b 3 _ hC2 (by decide)).mono ?_; rintro r w3 ⟨z3, rfl, hz3, hC3, hf3⟩
    obtain ⟨y3, v3⟩ := hz3.2 (by decide)
    clear hz3
    have hB3 := hB2.fr_' hf3 (by simpa using hgn)
    have hF3 := hF2.trans hf3
    obtain ⟨x0, x1, x2, x3, x4, ⟨s0, t0⟩, ⟨s1, t1⟩, ⟨s2, t2⟩, ⟨s3, t3⟩, s4, t4⟩ := hB3.five (o := 0) (by simp) (.int .i64 5) (.int .i64 z3) (.int .i64 0) (.string ⟨#[]⟩)
    have hE := leaf_put hB3 hC3 hF3 (Nat.le_refl _) hgl (leafTr 5 z3 0 ⟨#[]⟩) ⟨none, 0, 0, []⟩
    go_wp2_with fail
    exact bodyPost_ret (results_blk Tryz.results37 Tryz.isAgg26 (by exact Tryz.sizeOf26) rfl hE.1) rfl ⟨leafTr 5 z3 0 ⟨#[]⟩, rfl, leafOk_ (by omega) (by decide) (by decide) (by decide), hE.2.1, hE.2.2⟩
  · go_wp2_with fail
    refine (s_l5DecW B g n c A b _ hC2).mono ?_; rintro r w3 ⟨m, e, rfl, hm, he, hC3, hf3⟩
    have hB3 := hB2.fr_' hf3 (by simpa using hgn)
    have hF3 := hF2.trans hf3
    go_wp2_with fail
    refine (s_NumberVal m e _).mono ?_; rintro r w4 ⟨rfl, hb4⟩
    have hB4 := hB3.below hb4 hB3.lt
    have hC4 := hC3.below hb4
    have hF4 := hF3.onBelow (hb4.mono hF3.size)
    have hu := leafOk_num hm he
    generalize numT m e = u at hu ⊢
    obtain ⟨x0, x1, x2, x3, x4, ⟨s0, t0⟩, ⟨s1, t1⟩, ⟨s2, t2⟩, ⟨s3, t3⟩, s4, t4⟩ := hB4.five (o := 0) (by simp) (.int .i64 u.k) (.int .i64 u.n) (.int .i64 u.x) (.string u.s)
    have hE := leaf_put hB4 hC4 hF4 (Nat.le_refl _) hgl u ⟨none, 0, 0, []⟩
    go_wp2_with fail
    exact bodyPost_ret (results_blk Tryz.results37 Tryz.isAgg26 (by exact Tryz.sizeOf26) rfl hE.1) rfl ⟨u, rfl, hu, hE.2.1, hE.2.2⟩
  · go_wp2_with fail
    refine (s_l2TextV B g n c A b _ hC2).mono ?_; rintro r w3 ⟨st, rfl, hst, hsv, hC3, hf3⟩
    have hB3 := hB2.fr_' hf3 (by simpa using hgn)
    have hF3 := hF2.trans hf3
    go_wp2_with fail
    refine (s_TextVal st _).mono ?_; rintro r w4 ⟨rfl, hb4⟩
    have hB4 := hB3.below hb4 hB3.lt
    have hC4 := hC3.below hb4
    have hF4 := hF3.onBelow (hb4.mono hF3.size)
    have hu := leafOk_ (k := 7) (n := 0) (x := 0) (s := st) (by decide) (by decide) (by omega) (by decide)
    generalize leafTr 7 0 0 st = u at hu ⊢
    obtain ⟨x0, x1, x2, x3, x4, ⟨s0, t0⟩, ⟨s1, t1⟩, ⟨s2, t2⟩, ⟨s3, t3⟩, s4, t4⟩ := hB4.five (o := 0) (by simp) (.int .i64 u.k) (.int .i64 u.n) (.int .i64 u.x) (.string u.s)
    have hE := leaf_put hB4 hC4 hF4 (Nat.le_refl _) hgl u ⟨none, 0, 0, []⟩
    go_wp2_with fail
    exact bodyPost_ret (results_blk Tryz.results37 Tryz.isAgg26 (by exact Tryz.sizeOf26) rfl hE.1) rfl ⟨u, rfl, hu, hE.2.1, hE.2.2⟩
  · go_wp2_with fail
    refine (s_l1Below B g n c A b 4 _ hC2 (by decide)).mono ?_; rintro r w3 ⟨z3, rfl, hz3, hC3, hf3⟩
    obtain ⟨y3, v3⟩ := hz3.2 (by decide)
    clear hz3
    have hB3 := hB2.fr_' hf3 (by simpa using hgn)
    have hF3 := hF2.trans hf3
    go_wp2_with fail
    refine (s_l1Bytes B g n c A b z3 _ hC3 (by omega)).mono ?_; rintro r w4 ⟨A4, k4, c4, l4, rfl, hS4, hk4, hC4, hf4⟩
    have hB4 := hB3.fr_' hf4 (by simpa using hgn)
    have hF4 := hF3.trans hf4
    have hcv := run_str_sl (P := Tryz.prog) 22 5 Tryz.underlying22 Tryz.underlying5 hS4.sl 9 Tryz.underlying9
    have hll := hS4.len
    obtain ⟨st, hst⟩ : ∃ st : ByteArray, (⟨l4.toArray⟩ : ByteArray) = st := ⟨_, rfl⟩
    have hsz : st.size ≤ 1000 := by rw [← hst, ba_sz]; omega
    try rw [hst] at hcv
    obtain ⟨x0, x1, x2, x3, x4, ⟨s0, t0⟩, ⟨s1, t1⟩, ⟨s2, t2⟩, ⟨s3, t3⟩, s4, t4⟩ := hB4.five (o := 0) (by simp) (.int .i64 8) (.int .i64 0) (.int .i64 0) (.string st)
    have hE := leaf_put hB4 hC4 hF4 (Nat.le_refl _) hgl (leafTr 8 0 0 st) ⟨none, 0, 0, []⟩
    go_wp2_with fail
    exact bodyPost_ret (results_blk Tryz.results37 Tryz.isAgg26 (by exact Tryz.sizeOf26) rfl hE.1) rfl ⟨leafTr 8 0 0 st, rfl, leafOk_ (by decide) (by decide) hsz (by decide), hE.2.1, hE.2.2⟩
end Go.Proofs.YtmnlkedacnemcaaGreatDoor
