/- The law on GetMark. -/
import Derived.Test.YtnfokfogmniehaaGetMarkW
import Derived.Test.YtnfokfogmniehaaMarkForLaw
set_option linter.unusedVariables false
set_option maxRecDepth 100000
set_option linter.unusedSimpArgs false
namespace Go.Proofs.Ytnfokfogmniehaa
open Go.RowKit

set_option maxHeartbeats 800000 in
theorem law_GetMark (A : Option Addr) (n c : Nat) (b : List UInt8) (i : Int) (w : World) (h : Sl w w.heap.size 1 A n c (u8s b)) (hi : -9223372036854775808 ≤ i ∧ i ≤ 9223372036854775807) :
    Calls Try.prog 10 #[.slice A n c, .int .i64 i] w fun e' w' => e' = .returned (.bool true) ∧ Below w.heap.size w w' := by
  by_cases hn : n ≤ 1048576
  · obtain ⟨⟨a1, a2, a3, a4⟩, hx⟩ : ∃ x, getMark b i = x := ⟨_, rfl⟩
    have hto := fun w1 hb => l_toB A n c b w w1 h hn hb
    have hS : ∀ A1 c1 lo w1, BS w1 lo A1 n c1 b → Calls Try.prog 51 #[.slice A1 n c1, .int .i64 i] w1 fun e w' => e = .returned (.tuple #[.agg #[.int .i64 a1, .int .i64 a2], .int .i64 a3, .int .i64 a4]) ∧ Below w1.heap.size w1 w' :=
      fun A1 c1 lo w1 h1 => (s_GetMark A1 n c1 b i w1 _ h1.sl (Nat.le_refl _) hn hi).mono fun e w' ⟨h2, h3⟩ => ⟨by rw [h2, hx]; rfl, h3⟩
    have hI : ∀ A1 c1 lo w1, BS w1 lo A1 n c1 b → Calls Try.prog 52 #[.slice A1 n c1, .int .i64 i] w1 fun e w' => e = .returned (.tuple #[.agg #[.int .i64 a1, .int .i64 a2], .int .i64 a3, .int .i64 a4]) ∧ Below w1.heap.size w1 w' :=
      fun A1 c1 lo w1 h1 => (i_GetMark A1 n c1 b i w1 _ h1.sl (Nat.le_refl _) hn hi).mono fun e w' ⟨h2, h3⟩ => ⟨by rw [h2, hx]; rfl, h3⟩
    go_enter Try.func10, Try.ntmps10
    go_wp2_with fail
    refine (hto _ (Below.refl _ _)).mono ?_; rintro e w1 ⟨A1, c1, rfl, h1, hb1⟩
    go_wp2_with fail
    refine (hS _ _ _ _ h1).mono ?_; rintro e w2 ⟨rfl, hb2⟩
    have k2 := hb1.up hb2
    clear h1
    go_wp2_with fail
    refine (hto _ (k2.up (Below.one _ _))).mono ?_; rintro e w3 ⟨A3, c3, rfl, h3, hb3⟩
    have k3 := (k2.up (Below.one _ _)).up hb3
    have B3 : Blk w3 w2.heap.size 67 #[.int .i64 a1, .int .i64 a2] := (Blk.new w2 _ _).below hb3 (by simp)
    go_wp2_with fail
    refine (hI _ _ _ _ h3).mono ?_; rintro e w4 ⟨rfl, hb4⟩
    have k4 := k3.up hb4
    have B4 := B3.below hb4 B3.lt
    have F4 := fun i => B4.cell i
    have hz4 : w2.heap.size < w4.heap.size := B4.lt
    have h4 := h3.below hb4
    go_wp2_with fail
    refine (l_eqMark _ _ _).mono ?_; rintro e w5 ⟨rfl, hb5⟩
    have k5 := (k4.up (Below.one _ _)).up hb5
    have h5 := (h4.alloc _).below hb5
    go_wp2_with fail
    refine (hto _ k5).mono ?_; rintro e w6 ⟨A6, c6, rfl, h6, hb6⟩
    have k6 := k5.up hb6
    go_wp2_with fail
    refine (l_eqByteS _ _ _ b _ _ _ b _ _ (h5.below hb6).sl h6.sl).mono ?_; rintro e w7 ⟨rfl, hd7⟩
    go_wp2_with fail
    go_ret
    exact ⟨rfl, k6.up (hd7.below _)⟩
  · go_enter Try.func10, Try.ntmps10
    go_wp2_with fail
    go_ret
    exact ⟨rfl, Below.refl _ _⟩
end Go.Proofs.Ytnfokfogmniehaa
