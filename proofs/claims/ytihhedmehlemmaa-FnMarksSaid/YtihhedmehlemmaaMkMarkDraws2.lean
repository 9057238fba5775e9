/- Marks drawn (2). Written by gen/markdraws.py. -/
import Derived.Test.YtihhedmehlemmaaMkMarkDraws
set_option linter.unusedVariables false
set_option maxRecDepth 100000
set_option linter.unusedSimpArgs false
namespace Go.Proofs.Ytihhedmehlemmaa
open Go.RowKit

theorem fltBits_bd (m e : Int) : -9223372036854775808 ≤ fltBits m e ∧ fltBits m e ≤ 9223372036854775807 := by
  cases h : fltOk m e with
  | false => rw [fltBits_no h]; decide
  | true =>
    have := fltOk_bounds h
    by_cases hm : m < 0
    · rw [fltBits_neg h hm]; omega
    · rw [fltBits_pos h hm]; omega
theorem markFor_bd {u : Tr} (hu : LeafOk u) : -9223372036854775808 ≤ (markFor u.k u.n u.x u.s.size 0).2 ∧ (markFor u.k u.n u.x u.s.size 0).2 ≤ 9223372036854775807 := by
  obtain ⟨h1, h2, h3, h4, h5⟩ := hu
  have hf := fltBits_bd u.n u.x
  unfold markFor
  (repeat' split) <;> simp only <;> omega
set_option maxHeartbeats 8000000 in
theorem s_l15Mark (B g n c : Nat) (A : Option Addr) (b : List UInt8) (w : World) (h : Cur w B g A n c b) :
    Calls Try.prog 62 #[.pointer (some ⟨g, 0, none⟩)] w fun r w' => ∃ k z : Int, r = .returned (.agg #[.int .i64 k, .int .i64 z]) ∧ (-9223372036854775808 ≤ z ∧ z ≤ 9223372036854775807) ∧ Cur w' B g A n c b ∧ Fr [g] w w' := by
  have hgl := h.lt
  have hgn : w.heap.size ≠ g := by omega
  have hC0 := h.below (Below.one w (.cells #[.int .i64 0, .int .i64 0] 36))
  have hF0 : Fr [g] w (w.alloc (.cells #[.int .i64 0, .int .i64 0] 36)) := Fr.of_below (Below.one _ _)
  have hB0 := Blk.new w 36 #[.int .i64 0, .int .i64 0]
  go_enter Try.func62, Try.ntmps62
  go_upto_region 1 with fail
  generalize (w.alloc (.cells #[.int .i64 0, .int .i64 0] 36)) = w0 at hC0 hF0 hB0 ⊢
  go_wp2_with fail
  refine (s_l1Below B g n c A b 6 _ hC0 (by decide)).mono ?_; rintro r w1 ⟨z1, rfl, hz1, hC1, hf1⟩
  obtain ⟨y1, v1⟩ := hz1.2 (by decide)
  clear hz1
  have hB1 := hB0.fr_' hf1 (by simpa using hgn)
  have hF1 := hF0.trans hf1
  clear hB0 hF0 hC0 hf1
  have hk : z1 = 0 ∨ z1 = 1 ∨ z1 = 2 ∨ z1 = 3 ∨ z1 = 4 ∨ z1 = 5 := by omega
  clear y1 v1
  rcases hk with rfl | rfl | rfl | rfl | rfl | rfl
  · go_wp2_with fail
    refine (s_l1Int B g n c A b (some ⟨w1.heap.size, 0, none⟩) 13 13 [-1, -32, -33, -128, -129, -32768, -32769, -2147483648, -2147483649, 127, 128, 255, 256] _ (hC1.below (Below.one _ _)) (by exact i64s_lit _ _ [-1, -32, -33, -128, -129, -32768, -32769, -2147483648, -2147483649, 127, 128, 255, 256] _ rfl (by exact Nat.le_of_ble_eq_true rfl)) (lit_ne hC1.lt) (by decide)).mono ?_; rintro r w2 ⟨z2, rfl, hz2, hC2, hf2⟩
    have hB2 := (hB1.alloc (.cells #[.int .i64 (-1), .int .i64 (-32), .int .i64 (-33), .int .i64 (-128), .int .i64 (-129), .int .i64 (-32768), .int .i64 (-32769), .int .i64 (-2147483648), .int .i64 (-2147483649), .int .i64 127, .int .i64 128, .int .i64 255, .int .i64 256] 3)).fr_' hf2 (by simpa using hgn)
    have hF2 := (hF1.trans (Fr.of_below (Below.one w1 (.cells #[.int .i64 (-1), .int .i64 (-32), .int .i64 (-33), .int .i64 (-128), .int .i64 (-129), .int .i64 (-32768), .int .i64 (-32769), .int .i64 (-2147483648), .int .i64 (-2147483649), .int .i64 127, .int .i64 128, .int .i64 255, .int .i64 256] 3)))).trans hf2
    have hm2 : -9223372036854775808 ≤ z2 ∧ z2 ≤ 9223372036854775807 := by simp only [List.mem_cons, List.not_mem_nil, or_false] at hz2; omega
    clear hz2
    have r0 := hB2.cell 0
    have r1 := hB2.cell 1
    have f0 := hB2.frozen 0
    have f1 := hB2.frozen 1
    go_wp2_with fail
    exact bodyPost_ret (results_blk Try.results62 Try.isAgg36 (by exact Try.sizeOf36) rfl (hB2.two _ _)) rfl ⟨3, z2, rfl, hm2, cur_two hC2 hgn hgl, (hF2.new_ (p := ⟨w.heap.size, 0, none⟩) (Nat.le_refl _) _).new_ (p := ⟨w.heap.size, 1, none⟩) (Nat.le_refl _) _⟩
  · go_wp2_with fail
    refine (s_l1SignedB B g n c A b _ hC1).mono ?_; rintro r w2 ⟨z, rfl, hz, hC2, hf2⟩
    have hB2 := hB1.fr_' hf2 (by simpa using hgn)
    have hF2 := hF1.trans hf2
    have r0 := hB2.cell 0
    have r1 := hB2.cell 1
    have f0 := hB2.frozen 0
    have f1 := hB2.frozen 1
    go_wp2_with fail
    exact bodyPost_ret (results_blk Try.results62 Try.isAgg36 (by exact Try.sizeOf36) rfl (hB2.two _ _)) rfl ⟨3, z, rfl, hz, cur_two hC2 hgn hgl, (hF2.new_ (p := ⟨w.heap.size, 0, none⟩) (Nat.le_refl _) _).new_ (p := ⟨w.heap.size, 1, none⟩) (Nat.le_refl _) _⟩
  · go_wp2_with fail
    refine (s_l1Int B g n c A b (some ⟨w1.heap.size, 0, none⟩) 4 4 [7, 8, 9, 10] _ (hC1.below (Below.one _ _)) (by exact i64s_lit _ _ [7, 8, 9, 10] _ rfl (by exact Nat.le_of_ble_eq_true rfl)) (lit_ne hC1.lt) (by decide)).mono ?_; rintro r w2 ⟨z2, rfl, hz2, hC2, hf2⟩
    have hB2 := (hB1.alloc (.cells #[.int .i64 7, .int .i64 8, .int .i64 9, .int .i64 10] 3)).fr_' hf2 (by simpa using hgn)
    have hF2 := (hF1.trans (Fr.of_below (Below.one w1 (.cells #[.int .i64 7, .int .i64 8, .int .i64 9, .int .i64 10] 3)))).trans hf2
    have hm2 : -9223372036854775808 ≤ z2 ∧ z2 ≤ 9223372036854775807 := by simp only [List.mem_cons, List.not_mem_nil, or_false] at hz2; omega
    clear hz2
    go_wp2_with fail
    refine (s_l1Int B g n c A b (some ⟨w2.heap.size, 0, none⟩) 9 9 [0, 1, 15, 16, 31, 32, 255, 256, 65535] _ (hC2.below (Below.one _ _)) (by exact i64s_lit _ _ [0, 1, 15, 16, 31, 32, 255, 256, 65535] _ rfl (by exact Nat.le_of_ble_eq_true rfl)) (lit_ne hC2.lt) (by decide)).mono ?_; rintro r w3 ⟨z3, rfl, hz3, hC3, hf3⟩
    have hB3 := (hB2.alloc (.cells #[.int .i64 0, .int .i64 1, .int .i64 15, .int .i64 16, .int .i64 31, .int .i64 32, .int .i64 255, .int .i64 256, .int .i64 65535] 3)).fr_' hf3 (by simpa using hgn)
    have hF3 := (hF2.trans (Fr.of_below (Below.one w2 (.cells #[.int .i64 0, .int .i64 1, .int .i64 15, .int .i64 16, .int .i64 31, .int .i64 32, .int .i64 255, .int .i64 256, .int .i64 65535] 3)))).trans hf3
    have hm3 : -9223372036854775808 ≤ z3 ∧ z3 ≤ 9223372036854775807 := by simp only [List.mem_cons, List.not_mem_nil, or_false] at hz3; omega
    clear hz3
    have r0 := hB3.cell 0
    have r1 := hB3.cell 1
    have f0 := hB3.frozen 0
    have f1 := hB3.frozen 1
    go_wp2_with fail
    exact bodyPost_ret (results_blk Try.results62 Try.isAgg36 (by exact Try.sizeOf36) rfl (hB3.two _ _)) rfl ⟨z2, z3, rfl, hm3, cur_two hC3 hgn hgl, (hF3.new_ (p := ⟨w.heap.size, 0, none⟩) (Nat.le_refl _) _).new_ (p := ⟨w.heap.size, 1, none⟩) (Nat.le_refl _) _⟩
  · go_wp2_with fail
    refine (s_l6DrawZ B g n c A b _ hC1).mono ?_; rintro r w2 ⟨u, rfl, hu, hC2, hf2⟩
    have hB2 := hB1.fr_' hf2 (by simpa using hgn)
    have hF2 := hF1.trans hf2
    go_wp2_with fail
    refine (s_MarkFor u.k u.n u.x u.s none 0 0 _ hu.2.2.1.2 (by decide)).mono ?_; rintro r w3 ⟨rfl, hb3⟩
    have hB3 := hB2.below hb3 hB2.lt
    have hC3 := hC2.below hb3
    have hF3 := hF2.onBelow (hb3.mono hF2.size)
    have hm := markFor_bd hu
    generalize markFor u.k u.n u.x u.s.size 0 = mf at hm ⊢
    clear hu
    have r0 := hB3.cell 0
    have r1 := hB3.cell 1
    have f0 := hB3.frozen 0
    have f1 := hB3.frozen 1
    go_wp2_with fail
    exact bodyPost_ret (results_blk Try.results62 Try.isAgg36 (by exact Try.sizeOf36) rfl (hB3.two _ _)) rfl ⟨mf.1, mf.2, rfl, hm, cur_two hC3 hgn hgl, (hF3.new_ (p := ⟨w.heap.size, 0, none⟩) (Nat.le_refl _) _).new_ (p := ⟨w.heap.size, 1, none⟩) (Nat.le_refl _) _⟩
  · go_wp2_with fail
    refine (s_l6DrawZ B g n c A b _ hC1).mono ?_; rintro r w2 ⟨u, rfl, hu, hC2, hf2⟩
    have hB2 := hB1.fr_' hf2 (by simpa using hgn)
    have hF2 := hF1.trans hf2
    go_wp2_with fail
    refine (s_MarkFor u.k u.n u.x u.s none 0 0 _ hu.2.2.1.2 (by decide)).mono ?_; rintro r w3 ⟨rfl, hb3⟩
    have hB3 := hB2.below hb3 hB2.lt
    have hC3 := hC2.below hb3
    have hF3 := hF2.onBelow (hb3.mono hF2.size)
    have hm := markFor_bd hu
    generalize markFor u.k u.n u.x u.s.size 0 = mf at hm ⊢
    clear hu
    have r0 := hB3.cell 0
    have r1 := hB3.cell 1
    have f0 := hB3.frozen 0
    have f1 := hB3.frozen 1
    go_wp2_with fail
    exact bodyPost_ret (results_blk Try.results62 Try.isAgg36 (by exact Try.sizeOf36) rfl (hB3.two _ _)) rfl ⟨mf.1, mf.2, rfl, hm, cur_two hC3 hgn hgl, (hF3.new_ (p := ⟨w.heap.size, 0, none⟩) (Nat.le_refl _) _).new_ (p := ⟨w.heap.size, 1, none⟩) (Nat.le_refl _) _⟩
  · go_wp2_with fail
    refine (s_l6DrawZ B g n c A b _ hC1).mono ?_; rintro r w2 ⟨u, rfl, hu, hC2, hf2⟩
    have hB2 := hB1.fr_' hf2 (by simpa using hgn)
    have hF2 := hF1.trans hf2
    go_wp2_with fail
    refine (s_MarkFor u.k u.n u.x u.s none 0 0 _ hu.2.2.1.2 (by decide)).mono ?_; rintro r w3 ⟨rfl, hb3⟩
    have hB3 := hB2.below hb3 hB2.lt
    have hC3 := hC2.below hb3
    have hF3 := hF2.onBelow (hb3.mono hF2.size)
    have hm := markFor_bd hu
    generalize markFor u.k u.n u.x u.s.size 0 = mf at hm ⊢
    clear hu
    have r0 := hB3.cell 0
    have r1 := hB3.cell 1
    have f0 := hB3.frozen 0
    have f1 := hB3.frozen 1
    go_wp2_with fail
    exact bodyPost_ret (results_blk Try.results62 Try.isAgg36 (by exact Try.sizeOf36) rfl (hB3.two _ _)) rfl ⟨mf.1, mf.2, rfl, hm, cur_two hC3 hgn hgl, (hF3.new_ (p := ⟨w.heap.size, 0, none⟩) (Nat.le_refl _) _).new_ (p := ⟨w.heap.size, 1, none⟩) (Nat.le_refl _) _⟩
set_option maxHeartbeats 8000000 in
theorem s_l15Any (B g n c : Nat) (A : Option Addr) (b : List UInt8) (w : World) (h : Cur w B g A n c b) :
    Calls Try.prog 41 #[.pointer (some ⟨g, 0, none⟩)] w fun r w' => ∃ k z : Int, r = .returned (.agg #[.int .i64 k, .int .i64 z]) ∧ (-9223372036854775808 ≤ z ∧ z ≤ 9223372036854775807) ∧ Cur w' B g A n c b ∧ Fr [g] w w' := by
  have hgl := h.lt
  have hgn : w.heap.size ≠ g := by omega
  have hC0 := h.below (Below.one w (.cells #[.int .i64 0, .int .i64 0] 36))
  have hF0 : Fr [g] w (w.alloc (.cells #[.int .i64 0, .int .i64 0] 36)) := Fr.of_below (Below.one _ _)
  have hB0 := Blk.new w 36 #[.int .i64 0, .int .i64 0]
  go_enter Try.func41, Try.ntmps41
  go_upto_region 1 with fail
  generalize (w.alloc (.cells #[.int .i64 0, .int .i64 0] 36)) = w0 at hC0 hF0 hB0 ⊢
  go_wp2_with fail
  refine (s_l15Mark B g n c A b _ hC0).mono ?_; rintro r wa ⟨k, z, rfl, hz, hCa, hfa⟩
  have hB1 := (hB0.fr_' hfa (by simpa using hgn)).alloc (.cells #[.int .i64 k, .int .i64 z] 36)
  have hC1 := hCa.below (Below.one wa (.cells #[.int .i64 k, .int .i64 z] 36))
  have hF1 := (hF0.trans hfa).trans (Fr.of_below (Below.one wa (.cells #[.int .i64 k, .int .i64 z] 36)))
  have hD1 := Blk.new wa 36 #[.int .i64 k, .int .i64 z]
  have hqg : g < wa.heap.size := hCa.lt
  have hqw : w.heap.size ≤ wa.heap.size := (hF0.trans hfa).size
  have hqn : w.heap.size ≠ wa.heap.size := by have := (hB0.fr_' hfa (by simpa using hgn)).lt; omega
  go_upto_region 2 with fail
  generalize hqe : wa.heap.size = q at hD1 hqg hqw hqn ⊢
  generalize (wa.alloc (.cells #[.int .i64 k, .int .i64 z] 36)) = w1 at hB1 hC1 hF1 hD1 ⊢
  clear hqe hB0 hF0 hC0 hCa hfa
  have hqg2 : q ≠ g := by omega
  go_wp2_with fail
  refine (s_l1Below B g n c A b 8 _ hC1 (by decide)).mono ?_; rintro r w2 ⟨z2, rfl, hz2, hC2, hf2⟩
  obtain ⟨y2, v2⟩ := hz2.2 (by decide)
  clear hz2
  have hB2 := hB1.fr_' hf2 (by simpa using hgn)
  have hF2 := hF1.trans hf2
  have hD2 := hD1.fr_' hf2 (by simpa using hqg2)
  clear hB1 hC1 hF1 hD1 hf2
  by_cases h0 : z2 = 0
  · subst h0
    go_wp2_with fail
    refine (s_l1Below B g n c A b 13 _ hC2 (by decide)).mono ?_; rintro r w3 ⟨z3, rfl, hz3, hC3, hf3⟩
    obtain ⟨y3, v3⟩ := hz3.2 (by decide)
    clear hz3
    have hB3 := hB2.fr_' hf3 (by simpa using hgn)
    have hF3 := hF2.trans hf3
    have hD3 := hD2.fr_' hf3 (by simpa using hqg2)
    have d0 := hD3.cell 0
    have e0 := hD3.frozen 0
    go_upto_region 7 with fail
    have hB6 := hB3.far (p := ⟨q, 0, none⟩) hqn (.int .i64 (z3 - 1))
    have hD6 : Blk (w3.setCell ⟨q, 0, none⟩ (.int .i64 (z3 - 1))) q 36 #[.int .i64 (z3 - 1), .int .i64 z] := by simpa using hD3.set_ 0 (.int .i64 (z3 - 1))
    have hC6 := hC3.set_ (o := 0) hqg (.int .i64 (z3 - 1))
    have hF6 := hF3.new_ (p := ⟨q, 0, none⟩) hqw (.int .i64 (z3 - 1))
    clear d0 e0 hB3 hD3 hC3 hF3
    generalize w3.setCell ⟨q, 0, none⟩ (.int .i64 (z3 - 1)) = w6 at hB6 hD6 hC6 hF6 ⊢
    have d0 := hD6.cell 0
    have d1 := hD6.cell 1
    have r0 := hB6.cell 0
    have r1 := hB6.cell 1
    have f0 := hB6.frozen 0
    have f1 := hB6.frozen 1
    go_wp2_with fail
    exact bodyPost_ret (results_blk Try.results41 Try.isAgg36 (by exact Try.sizeOf36) rfl (hB6.two _ _)) rfl ⟨z3 - 1, z, rfl, hz, cur_two hC6 hgn hgl, (hF6.new_ (p := ⟨w.heap.size, 0, none⟩) (Nat.le_refl _) _).new_ (p := ⟨w.heap.size, 1, none⟩) (Nat.le_refl _) _⟩
  by_cases h1 : z2 = 1
  · subst h1
    go_wp2_with fail
    refine (s_l1Int B g n c A b (some ⟨w2.heap.size, 0, none⟩) 6 6 [-1, 2, 3, 65536, 1000000000000001, 33554432] _ (hC2.below (Below.one _ _)) (by exact i64s_lit _ _ [-1, 2, 3, 65536, 1000000000000001, 33554432] _ rfl (by exact Nat.le_of_ble_eq_true rfl)) (lit_ne hC2.lt) (by decide)).mono ?_; rintro r w3 ⟨z3, rfl, hz3, hC3, hf3⟩
    have hB3 := (hB2.alloc (.cells #[.int .i64 (-1), .int .i64 2, .int .i64 3, .int .i64 65536, .int .i64 1000000000000001, .int .i64 33554432] 3)).fr_' hf3 (by simpa using hgn)
    have hF3 := (hF2.trans (Fr.of_below (Below.one w2 (.cells #[.int .i64 (-1), .int .i64 2, .int .i64 3, .int .i64 65536, .int .i64 1000000000000001, .int .i64 33554432] 3)))).trans hf3
    have hm3 : -9223372036854775808 ≤ z3 ∧ z3 ≤ 9223372036854775807 := by simp only [List.mem_cons, List.not_mem_nil, or_false] at hz3; omega
    clear hz3
    have hD3 := (hD2.alloc (.cells #[.int .i64 (-1), .int .i64 2, .int .i64 3, .int .i64 65536, .int .i64 1000000000000001, .int .i64 33554432] 3)).fr_' hf3 (by simpa using hqg2)
    have d0 := hD3.cell 1
    have e0 := hD3.frozen 1
    go_upto_region 7 with fail
    have hB6 := hB3.far (p := ⟨q, 1, none⟩) hqn (.int .i64 z3)
    have hD6 : Blk (w3.setCell ⟨q, 1, none⟩ (.int .i64 z3)) q 36 #[.int .i64 k, .int .i64 z3] := by simpa using hD3.set_ 1 (.int .i64 z3)
    have hC6 := hC3.set_ (o := 1) hqg (.int .i64 z3)
    have hF6 := hF3.new_ (p := ⟨q, 1, none⟩) hqw (.int .i64 z3)
    clear d0 e0 hB3 hD3 hC3 hF3
    generalize w3.setCell ⟨q, 1, none⟩ (.int .i64 z3) = w6 at hB6 hD6 hC6 hF6 ⊢
    have d0 := hD6.cell 0
    have d1 := hD6.cell 1
    have r0 := hB6.cell 0
    have r1 := hB6.cell 1
    have f0 := hB6.frozen 0
    have f1 := hB6.frozen 1
    go_wp2_with fail
    exact bodyPost_ret (results_blk Try.results41 Try.isAgg36 (by exact Try.sizeOf36) rfl (hB6.two _ _)) rfl ⟨k, z3, rfl, hm3, cur_two hC6 hgn hgl, (hF6.new_ (p := ⟨w.heap.size, 0, none⟩) (Nat.le_refl _) _).new_ (p := ⟨w.heap.size, 1, none⟩) (Nat.le_refl _) _⟩
  have e0 : (z2 == 0) = false := by simpa using h0
  have e1 : (z2 == 1) = false := by simpa using h1
  have hB6 := hB2
  have hD6 := hD2
  have hC6 := hC2
  have hF6 := hF2
  clear hB2 hD2 hC2 hF2 h0 h1
  have d0 := hD6.cell 0
  have d1 := hD6.cell 1
  have r0 := hB6.cell 0
  have r1 := hB6.cell 1
  have f0 := hB6.frozen 0
  have f1 := hB6.frozen 1
  go_wp2_with fail
  exact bodyPost_ret (results_blk Try.results41 Try.isAgg36 (by exact Try.sizeOf36) rfl (hB6.two _ _)) rfl ⟨k, z, rfl, hz, cur_two hC6 hgn hgl, (hF6.new_ (p := ⟨w.heap.size, 0, none⟩) (Nat.le_refl _) _).new_ (p := ⟨w.heap.size, 1, none⟩) (Nat.le_refl _) _⟩
set_option maxHeartbeats 2000000 in
theorem s_DrawSizeMark (A : Option Addr) (n c : Nat) (b : List UInt8) (w : World) (h : Sl w w.heap.size 1 A n c (u8s b)) (hn : n ≤ 1048576) :
    Calls Try.prog 30 #[.slice A n c] w fun r w' => ∃ k z : Int, r = .returned (.agg #[.int .i64 k, .int .i64 z]) ∧ (-9223372036854775808 ≤ z ∧ z ≤ 9223372036854775807) ∧ Below w.heap.size w w' := by
  have h0 : Sl (w.alloc (.cells #[.int .i64 0, .int .i64 0] 36)) (w.alloc (.cells #[.int .i64 0, .int .i64 0] 36)).heap.size 1 A n c (u8s b) := (h.alloc (Nat.le_refl _) _).more (by simp)
  have k0 := Below.one w (.cells #[.int .i64 0, .int .i64 0] 36)
  have hB := Blk.new w 36 #[.int .i64 0, .int .i64 0]
  have hz : (w.alloc (.cells #[.int .i64 0, .int .i64 0] 36)).heap.size = w.heap.size + 1 := by simp
  go_enter Try.func30, Try.ntmps30
  go_wp2_with fail
  refine (s_l1New A n c b _ h0 hn).mono ?_; rintro r w1 ⟨rfl, hC, hb1⟩
  rw [hz] at hC ⊢
  go_wp2_with fail
  refine (s_l15Any _ _ n c A b _ hC).mono ?_; rintro r w2 ⟨x, y, rfl, hyb, hC2, hf2⟩
  have hB2 := Blk.fr_' (hB.below hb1 hB.lt) hf2 (by simp)
  obtain ⟨r0, r1, q0, q1, ql⟩ := hB2.at2'
  go_wp2_with fail
  exact bodyPost_ret (results_blk Try.results30 Try.isAgg36 (by exact Try.sizeOf36) rfl (hB2.two _ _)) rfl ⟨x, y, rfl, hyb, (((k0.up hb1).trans (hf2.up (Nat.le_succ _) (k0.up hb1).size)).setCell (by exact Nat.le_refl _) _).setCell (by exact Nat.le_refl _) _⟩
end Go.Proofs.Ytihhedmehlemmaa
