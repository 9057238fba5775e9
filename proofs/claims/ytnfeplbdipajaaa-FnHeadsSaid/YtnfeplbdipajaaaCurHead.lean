/- The draws of heads. (Written by wip/gen/curhead.py.) -/
import Derived.Test.YtnfeplbdipajaaaCurBytes
import Derived.Test.YtnfeplbdipajaaaHeadFor
set_option linter.unusedVariables false
set_option maxRecDepth 100000
set_option linter.unusedSimpArgs false
namespace Go.Proofs.Ytnfeplbdipajaaa
open Go.RowKit

theorem Blk.at3 {w : World} {g : Nat} {T : TypeId} {a b c : Value} (h : Blk w g T #[a, b, c]) : (w.cell? ⟨g, 0, none⟩ = some a ∧ w.frozen? ⟨g, 0, none⟩ = false) ∧ (w.cell? ⟨g, 1, none⟩ = some b ∧ w.frozen? ⟨g, 1, none⟩ = false) ∧ w.cell? ⟨g, 2, none⟩ = some c ∧ w.frozen? ⟨g, 2, none⟩ = false := ⟨⟨h.cell 0, h.frozen 0⟩, ⟨h.cell 1, h.frozen 1⟩, h.cell 2, h.frozen 2⟩
/-- What a draw of a head gives. -/
def HeadDrawn (w w' : World) (B g n c : Nat) (A : Option Addr) (b : List UInt8) (r : Ending) : Prop :=
  ∃ x y z : Int, r = .returned (.agg #[.int .i64 x, .int .i64 y, .int .i64 z]) ∧ y ≤ 9223372036854775807 ∧ Cur w' B g A n c b ∧ Fr [g] w w'
theorem headForV_sh (mj n : Int) : ∃ x y z : Int, headForV mj n = .agg #[.int .i64 x, .int .i64 y, .int .i64 z] ∧ (y = n ∨ y = 0) := by
  unfold headForV headV
  split
  · exact ⟨_, _, _, rfl, .inl rfl⟩
  · exact ⟨_, _, _, rfl, .inr rfl⟩
set_option maxHeartbeats 4000000 in
theorem s_l12Head (B g n c : Nat) (A : Option Addr) (b : List UInt8) (w : World) (h : Cur w B g A n c b) :
    Calls Try.prog 68 #[.pointer (some ⟨g, 0, none⟩)] w fun r w' => HeadDrawn w w' B g n c A b r := by
  have hgl := h.lt
  have hgn : w.heap.size ≠ g := by omega
  have h0 := h.below (Below.one w (.cells #[.int .i64 0, .int .i64 0, .int .i64 0] 33))
  have hF0 : Fr [g] w (w.alloc (.cells #[.int .i64 0, .int .i64 0, .int .i64 0] 33)) := Fr.of_below (Below.one _ _)
  have hR : ∀ w', Fr [g] (w.alloc (.cells #[.int .i64 0, .int .i64 0, .int .i64 0] 33)) w' → Blk w' w.heap.size 33 #[.int .i64 0, .int .i64 0, .int .i64 0] := fun w' hf => Blk.fr_' (Blk.new w _ _) hf (by simpa using hgn)
  go_enter Try.func68, Try.ntmps68
  go_wp2_with fail
  refine (s_l1Below B g n c A b 8 _ h0 (by decide)).mono ?_; rintro r w1 ⟨x1, rfl, hx1, hC1, hf1⟩
  go_wp2_with fail
  refine (s_l1Num B g n c A b _ hC1).mono ?_; rintro r w2 ⟨x2, rfl, hx2, hC2, hf2⟩
  have hF2 := hf1.trans hf2
  go_wp2_with fail
  obtain ⟨x, y, z, hV, hyn⟩ := headForV_sh x1 x2
  have hHF := fun w => s_HeadFor x1 x2 w
  rw [hV] at hHF
  refine (hHF _).mono ?_; rintro r w3 ⟨rfl, hb3⟩
  have hy : y ≤ 9223372036854775807 := by rcases hyn with rfl | rfl <;> omega
  have hC3 := hC2.below hb3
  have hF3 := hF2.trans (Fr.of_below hb3)
  clear hV hHF hyn hx1 hx2 hC1 hC2 hf1 hf2 hF2 hb3 h h0
  have hCa := hC3.below (Below.one w3 (.cells #[.int .i64 x, .int .i64 y, .int .i64 z] 33))
  have hFa := hF3.trans (Fr.of_below (Below.one w3 (.cells #[.int .i64 x, .int .i64 y, .int .i64 z] 33)))
  have hg1 := hC3.lt
  have hw1 : w.heap.size < w3.heap.size := (hR _ hF3).lt
  go_wp2_with fail
  refine (s_l1Below B g n c A b 5 _ hCa (by decide)).mono ?_; rintro r w4 ⟨q, rfl, hq, hCw4, hfw4⟩
  have hFw4 := hFa.trans hfw4
  have hX2 : Blk w4 w3.heap.size 33 #[.int .i64 x, .int .i64 y, .int .i64 z] := Blk.fr_' (Blk.new w3 _ _) hfw4 (by simp; omega)
  have hR2 := hR w4 hFw4
  have hne : w.heap.size ≠ w3.heap.size := by omega
  have hne2 : w3.heap.size ≠ w.heap.size := by omega
  clear hCa hFa hC3 hF3 hfw4 hq
  by_cases q0 : q = 0
  · subst q0
    go_wp2_with fail
    refine (s_l1Int B g n c A b (some ⟨w4.heap.size, 0, none⟩) 4 4 [1, 2, 4, 8] _ (hCw4.below (Below.one _ _)) (by exact i64s_lit _ _ [1, 2, 4, 8] _ rfl (by exact Nat.le_of_ble_eq_true rfl)) (lit_ne hCw4.lt) (by decide)).mono ?_; rintro r w5 ⟨v, rfl, hv, hCw5, hfw5⟩
    have hFw5 := (hFw4.trans (Fr.of_below (Below.one _ _))).trans hfw5
    have hX3 := Blk.fr_' (hX2.below (Below.one w4 _) hX2.lt) hfw5 (by simp; omega)
    have hR3 := hR w5 hFw5
    obtain ⟨⟨r0, r3⟩, ⟨r1, r4⟩, r2, r5⟩ := Blk.at3 hX3
    obtain ⟨⟨s0, s3⟩, ⟨s1, s4⟩, s2, s5⟩ := Blk.at3 hR3
    go_wp2_with fail
    exact bodyPost_ret (results_blk Try.results68 Try.isAgg33 (by exact Try.sizeOf33) rfl ((hR3.far (by exact hne) _).three _ _ _)) rfl ⟨_, _, _, rfl, by omega, ((((hCw5.set_ hg1 _).set_ hgl _).set_ hgl _).set_ hgl _), (((((hF0.trans hFw5).new_ (by exact Nat.le_of_lt hw1) _).new_ (Nat.le_refl _) _).new_ (Nat.le_refl _) _).new_ (Nat.le_refl _) _)⟩
  have z0 : (q == 0) = false := by simp [q0]
  by_cases q1 : q = 1
  · subst q1
    go_wp2_with fail
    refine (s_l1Below B g n c A b 8 _ hCw4 (by decide)).mono ?_; rintro r w5 ⟨v, rfl, hv, hCw5, hfw5⟩
    have hFw5 := hFw4.trans hfw5
    have hX3 := Blk.fr_' hX2 hfw5 (by simp; omega)
    have hR3 := hR w5 hFw5
    obtain ⟨⟨r0, r3⟩, ⟨r1, r4⟩, r2, r5⟩ := Blk.at3 hX3
    obtain ⟨⟨s0, s3⟩, ⟨s1, s4⟩, s2, s5⟩ := Blk.at3 hR3
    go_wp2_with fail
    exact bodyPost_ret (results_blk Try.results68 Try.isAgg33 (by exact Try.sizeOf33) rfl ((((hR3.far (by exact hne) _).far (by exact hne) _).far (by exact hne) _).three _ _ _)) rfl ⟨_, _, _, rfl, by omega, ((((((hCw5.set_ hg1 _).set_ hg1 _).set_ hg1 _).set_ hgl _).set_ hgl _).set_ hgl _), (((((((hF0.trans hFw5).new_ (by exact Nat.le_of_lt hw1) _).new_ (by exact Nat.le_of_lt hw1) _).new_ (by exact Nat.le_of_lt hw1) _).new_ (Nat.le_refl _) _).new_ (Nat.le_refl _) _).new_ (Nat.le_refl _) _)⟩
  · have z1 : (q == 1) = false := by simp [q1]
    obtain ⟨⟨r0, r3⟩, ⟨r1, r4⟩, r2, r5⟩ := Blk.at3 hX2
    obtain ⟨⟨s0, s3⟩, ⟨s1, s4⟩, s2, s5⟩ := Blk.at3 hR2
    go_wp2_with fail
    exact bodyPost_ret (results_blk Try.results68 Try.isAgg33 (by exact Try.sizeOf33) rfl (hR2.three _ _ _)) rfl ⟨_, _, _, rfl, by omega, (((hCw4.set_ hgl _).set_ hgl _).set_ hgl _), ((((hF0.trans hFw4).new_ (Nat.le_refl _) _).new_ (Nat.le_refl _) _).new_ (Nat.le_refl _) _)⟩
set_option maxHeartbeats 4000000 in
theorem s_l12Any (B g n c : Nat) (A : Option Addr) (b : List UInt8) (w : World) (h : Cur w B g A n c b) :
    Calls Try.prog 63 #[.pointer (some ⟨g, 0, none⟩)] w fun r w' => HeadDrawn w w' B g n c A b r := by
  have hgl := h.lt
  have hgn : w.heap.size ≠ g := by omega
  have h0 := h.below (Below.one w (.cells #[.int .i64 0, .int .i64 0, .int .i64 0] 33))
  have hF0 : Fr [g] w (w.alloc (.cells #[.int .i64 0, .int .i64 0, .int .i64 0] 33)) := Fr.of_below (Below.one _ _)
  have hR : ∀ w', Fr [g] (w.alloc (.cells #[.int .i64 0, .int .i64 0, .int .i64 0] 33)) w' → Blk w' w.heap.size 33 #[.int .i64 0, .int .i64 0, .int .i64 0] := fun w' hf => Blk.fr_' (Blk.new w _ _) hf (by simpa using hgn)
  go_enter Try.func63, Try.ntmps63
  go_wp2_with fail
  refine (s_l12Head B g n c A b _ h0).mono ?_; rintro r w3 ⟨x, y, z, rfl, hy, hC3, hF3⟩
  clear h h0
  have hCa := hC3.below (Below.one w3 (.cells #[.int .i64 x, .int .i64 y, .int .i64 z] 33))
  have hFa := hF3.trans (Fr.of_below (Below.one w3 (.cells #[.int .i64 x, .int .i64 y, .int .i64 z] 33)))
  have hg1 := hC3.lt
  have hw1 : w.heap.size < w3.heap.size := (hR _ hF3).lt
  go_wp2_with fail
  refine (s_l1Below B g n c A b 8 _ hCa (by decide)).mono ?_; rintro r w4 ⟨q, rfl, hq, hCw4, hfw4⟩
  have hFw4 := hFa.trans hfw4
  have hX2 : Blk w4 w3.heap.size 33 #[.int .i64 x, .int .i64 y, .int .i64 z] := Blk.fr_' (Blk.new w3 _ _) hfw4 (by simp; omega)
  have hR2 := hR w4 hFw4
  have hne : w.heap.size ≠ w3.heap.size := by omega
  have hne2 : w3.heap.size ≠ w.heap.size := by omega
  clear hCa hFa hC3 hF3 hfw4 hq
  by_cases q0 : q = 0
  · subst q0
    go_wp2_with fail
    refine (s_l1Int B g n c A b (some ⟨w4.heap.size, 0, none⟩) 2 2 [-1, 8] _ (hCw4.below (Below.one _ _)) (by exact i64s_lit _ _ [-1, 8] _ rfl (by exact Nat.le_of_ble_eq_true rfl)) (lit_ne hCw4.lt) (by decide)).mono ?_; rintro r w5 ⟨v, rfl, hv, hCw5, hfw5⟩
    have hFw5 := (hFw4.trans (Fr.of_below (Below.one _ _))).trans hfw5
    have hX3 := Blk.fr_' (hX2.below (Below.one w4 _) hX2.lt) hfw5 (by simp; omega)
    have hR3 := hR w5 hFw5
    obtain ⟨⟨r0, r3⟩, ⟨r1, r4⟩, r2, r5⟩ := Blk.at3 hX3
    obtain ⟨⟨s0, s3⟩, ⟨s1, s4⟩, s2, s5⟩ := Blk.at3 hR3
    go_wp2_with fail
    exact bodyPost_ret (results_blk Try.results63 Try.isAgg33 (by exact Try.sizeOf33) rfl ((hR3.far (by exact hne) _).three _ _ _)) rfl ⟨_, _, _, rfl, by omega, ((((hCw5.set_ hg1 _).set_ hgl _).set_ hgl _).set_ hgl _), (((((hF0.trans hFw5).new_ (by exact Nat.le_of_lt hw1) _).new_ (Nat.le_refl _) _).new_ (Nat.le_refl _) _).new_ (Nat.le_refl _) _)⟩
  have z0 : (q == 0) = false := by simp [q0]
  by_cases q1 : q = 1
  · subst q1
    go_wp2_with fail
    refine (s_l1Int B g n c A b (some ⟨w4.heap.size, 0, none⟩) 3 3 [3, -2, 0] _ (hCw4.below (Below.one _ _)) (by exact i64s_lit _ _ [3, -2, 0] _ rfl (by exact Nat.le_of_ble_eq_true rfl)) (lit_ne hCw4.lt) (by decide)).mono ?_; rintro r w5 ⟨v, rfl, hv, hCw5, hfw5⟩
    have hFw5 := (hFw4.trans (Fr.of_below (Below.one _ _))).trans hfw5
    have hX3 := Blk.fr_' (hX2.below (Below.one w4 _) hX2.lt) hfw5 (by simp; omega)
    have hR3 := hR w5 hFw5
    obtain ⟨⟨r0, r3⟩, ⟨r1, r4⟩, r2, r5⟩ := Blk.at3 hX3
    obtain ⟨⟨s0, s3⟩, ⟨s1, s4⟩, s2, s5⟩ := Blk.at3 hR3
    go_wp2_with fail
    exact bodyPost_ret (results_blk Try.results63 Try.isAgg33 (by exact Try.sizeOf33) rfl ((hR3.far (by exact hne) _).three _ _ _)) rfl ⟨_, _, _, rfl, by omega, ((((hCw5.set_ hg1 _).set_ hgl _).set_ hgl _).set_ hgl _), (((((hF0.trans hFw5).new_ (by exact Nat.le_of_lt hw1) _).new_ (Nat.le_refl _) _).new_ (Nat.le_refl _) _).new_ (Nat.le_refl _) _)⟩
  have z1 : (q == 1) = false := by simp [q1]
  by_cases q2 : q = 2
  · subst q2
    go_wp2_with fail
    refine (s_l1Raw B g n c A b _ hCw4).mono ?_; rintro r w5 ⟨v, rfl, hv, hCw5, hfw5⟩
    have hFw5 := hFw4.trans hfw5
    have hX3 := Blk.fr_' hX2 hfw5 (by simp; omega)
    have hR3 := hR w5 hFw5
    obtain ⟨⟨r0, r3⟩, ⟨r1, r4⟩, r2, r5⟩ := Blk.at3 hX3
    obtain ⟨⟨s0, s3⟩, ⟨s1, s4⟩, s2, s5⟩ := Blk.at3 hR3
    go_wp2_with fail
    exact bodyPost_ret (results_blk Try.results63 Try.isAgg33 (by exact Try.sizeOf33) rfl ((hR3.far (by exact hne) _).three _ _ _)) rfl ⟨_, _, _, rfl, by omega, ((((hCw5.set_ hg1 _).set_ hgl _).set_ hgl _).set_ hgl _), (((((hF0.trans hFw5).new_ (by exact Nat.le_of_lt hw1) _).new_ (Nat.le_refl _) _).new_ (Nat.le_refl _) _).new_ (Nat.le_refl _) _)⟩
  · have z2 : (q == 2) = false := by simp [q2]
    obtain ⟨⟨r0, r3⟩, ⟨r1, r4⟩, r2, r5⟩ := Blk.at3 hX2
    obtain ⟨⟨s0, s3⟩, ⟨s1, s4⟩, s2, s5⟩ := Blk.at3 hR2
    go_wp2_with fail
    exact bodyPost_ret (results_blk Try.results63 Try.isAgg33 (by exact Try.sizeOf33) rfl (hR2.three _ _ _)) rfl ⟨_, _, _, rfl, by omega, (((hCw4.set_ hgl _).set_ hgl _).set_ hgl _), ((((hF0.trans hFw4).new_ (Nat.le_refl _) _).new_ (Nat.le_refl _) _).new_ (Nat.le_refl _) _)⟩
end Go.Proofs.Ytnfeplbdipajaaa
