/- DrawGetHead. -/
import Derived.Test.YtnfeplbdipajaaaBent
import Derived.Test.YtnfeplbdipajaaaPutHead
set_option linter.unusedVariables false
set_option maxRecDepth 100000
set_option linter.unusedSimpArgs false
namespace Go.Proofs.Ytnfeplbdipajaaa
open Go.RowKit

/-- Bytes and a place in them. -/
def GetDrawn (w w' : World) (r : Ending) : Prop := ∃ (A' : Option Addr) (k c' : Nat) (l : List UInt8) (x : Int), r = .returned (.tuple #[.slice A' k c', .int .i64 x]) ∧ Sl w' w'.heap.size 1 A' k c' (u8s l) ∧ k ≤ 1000 ∧ (-1 ≤ x ∧ x ≤ 9) ∧ Below w.heap.size w w'
set_option maxHeartbeats 2000000 in
theorem s_DrawGetHead (A : Option Addr) (n c : Nat) (b : List UInt8) (w : World) (h : Sl w w.heap.size 1 A n c (u8s b)) (hn : n ≤ 1048576) :
    Calls Try.prog 20 #[.slice A n c] w fun r w' => GetDrawn w w' r := by
  go_enter Try.func20, Try.ntmps20
  go_wp2_with fail
  refine (s_l1New A n c b _ h hn).mono ?_; rintro r w1 ⟨rfl, hC, hb1⟩
  have hz1 := hb1.size
  go_wp2_with fail
  refine (s_l1Once _ _ n c A b 3 _ hC (by decide)).mono ?_; rintro r w2 ⟨o2, rfl, hC2, hf2⟩
  cases o2
  · go_wp2_with fail
    refine (s_l12Head _ _ n c A b _ (hC2.below (Below.one _ _))).mono ?_; rintro r w3 ⟨x, y, z, rfl, hy, hC3, hf3⟩
    have hw2 : w.heap.size < w2.heap.size := hC2.lt
    have hz3 := hf3.size
    have hlit := (lit1 w2 1 (by decide)).heap_ (w' := w3) (fun k hk _ => hf3.block k (by simp [blkOf] at hk; subst hk; simp) (by simp [blkOf] at hk ⊢; omega))
    have hF3 := (hf2.trans (Fr.of_below (Below.one w2 (.cells #[.int .u8 1] 5)))).trans hf3
    go_wp2_with fail
    refine (s_PutHead _ 1 1 _ x y z w3 _ hlit (by simpa using hz3) (by decide) hy).mono ?_; rintro r w4 ⟨A4, n4, c4, rfl, hB4, hb4⟩
    have hl4 := hB4.sl.blen
    have hl5 := headB_len x y z
    rw [List.length_append] at hl4
    simp only [List.length_cons, List.length_nil] at hl4
    have hF4 := hF3.trans (Fr.of_below hb4)
    go_wp2_with fail
    refine (s_l1Bent _ _ n c A b A4 n4 c4 _ w4 (hC3.below hb4) hB4.sl (by omega)).mono ?_; rintro r w5 ⟨A5, k5, c5, l5, rfl, h5, hg5, hk5, hC5, hf5⟩
    have hF5 := hF4.trans hf5
    go_wp2_with fail
    refine (s_l1Int _ _ n c A b (some ⟨w5.heap.size, 0, none⟩) 6 6 [1, 1, 1, 0, 9, -1] _ (hC5.below (Below.one _ _)) (by exact i64s_lit _ _ [1, 1, 1, 0, 9, -1] _ rfl (by exact Nat.le_of_ble_eq_true rfl)) (lit_ne hC5.lt) (by decide)).mono ?_; rintro r w6 ⟨q, rfl, hq, hC6, hf6⟩
    have hqb : -1 ≤ q ∧ q ≤ 9 := by simp only [List.mem_cons, List.not_mem_nil, or_false] at hq; omega
    have hf56 := (Fr.of_below (fp := [w.heap.size]) (Below.one w5 (.cells #[.int .i64 1, .int .i64 1, .int .i64 1, .int .i64 0, .int .i64 9, .int .i64 (-1)] 3))).trans hf6
    have h6 := (h5.heap_ (w' := w6) (fun k hk hlt => hf56.block k hlt (by have := hg5 k hk; simp; omega))).more hf56.size
    go_wp2_with fail
    exact bodyPost_ret (results_tmp2 Try.results20 _ _ _) rfl ⟨A5, k5, c5, l5, q, rfl, h6, by omega, hqb, hb1.trans ((hF5.trans hf56).up (Nat.le_refl _) hz1)⟩
  · go_wp2_with fail
    refine (s_l1Below _ _ n c A b 9 _ hC2 (by decide)).mono ?_; rintro r w3 ⟨x, rfl, hx, hC3, hf3⟩
    have hxb := hx.2 (by decide)
    have hF3 := hf2.trans hf3
    go_wp2_with fail
    refine (s_l1Bytes _ _ n c A b (1 + x) _ hC3 (by omega)).mono ?_; rintro r w4 ⟨A4, k4, c4, l4, rfl, hB4, hk4, hC4, hf4⟩
    go_wp2_with fail
    exact bodyPost_ret (results_tmp2 Try.results20 _ _ _) rfl ⟨A4, k4, c4, l4, 0, rfl, hB4.sl, by omega, by decide, hb1.trans ((hF3.trans hf4).up (Nat.le_refl _) hz1)⟩
end Go.Proofs.Ytnfeplbdipajaaa
