/- The draws of numbers. (Written by wip/gen/curnum.py.) -/
import Derived.Test.YtnfeplbdipajaaaCurNew
import Derived.Test.YtnfeplbdipajaaaFltNew
set_option linter.unusedVariables false
set_option maxRecDepth 100000
set_option linter.unusedSimpArgs false
namespace Go.Proofs.Ytnfeplbdipajaaa
open Go.RowKit

theorem wrap64_top (x : Int) : wrap64 x ≤ 9223372036854775807 := by unfold wrap64; omega
set_option maxHeartbeats 2000000 in
theorem s_l1Num (B g n c : Nat) (A : Option Addr) (b : List UInt8) (w : World) (h : Cur w B g A n c b) :
    Calls Try.prog 101 #[.pointer (some ⟨g, 0, none⟩)] w fun r w' => ∃ x : Int, r = .returned (.int .i64 x) ∧ x ≤ 9223372036854775807 ∧ Cur w' B g A n c b ∧ Fr [g] w w' := by
  have hF0 := Fr.refl [g] w
  go_enter Try.func101, Try.ntmps101
  go_wp2_with fail
  refine (s_l1Below B g n c A b 5 _ h (by decide)).mono ?_; rintro r w1 ⟨x, rfl, hx, hCw1, hfw1⟩
  have hFw1 := hF0.trans hfw1
  by_cases e0 : x = 0
  · subst e0
    go_wp2_with fail
    refine (s_l1Below B g n c A b 70000 _ hCw1 (by decide)).mono ?_; rintro r w2 ⟨y, rfl, hy, hCw2, hfw2⟩
    have hFw2 := hFw1.trans hfw2
    go_wp2_with fail
    go_ret
    refine ⟨_, rfl, ?_, hCw2, hFw2⟩
    have hyb := hy.2 (by decide)
    first | omega | exact wrap64_top _ | exact hy
  have z0 : (x == 0) = false := by simp [e0]
  by_cases e1 : x = 1
  · subst e1
    go_wp2_with fail
    refine (s_l1Int B g n c A b (some ⟨w1.heap.size, 0, none⟩) 9 9 [0, 1, 9, 10, 255, 256, 65535, 65536, 1000000000000000] _ (hCw1.below (Below.one _ _)) (by exact i64s_lit _ _ [0, 1, 9, 10, 255, 256, 65535, 65536, 1000000000000000] _ rfl (by exact Nat.le_of_ble_eq_true rfl)) (lit_ne hCw1.lt) (by decide)).mono ?_; rintro r w2 ⟨y, rfl, hy, hCw2, hfw2⟩
    have hFw2 := (hFw1.trans (Fr.of_below (Below.one _ _))).trans hfw2
    go_wp2_with fail
    go_ret
    refine ⟨_, rfl, ?_, hCw2, hFw2⟩
    simp only [List.mem_cons, List.not_mem_nil, or_false] at hy
    first | omega | exact wrap64_top _ | exact hy
  have z1 : (x == 1) = false := by simp [e1]
  by_cases e2 : x = 2
  · subst e2
    go_wp2_with fail
    refine (s_l1Below B g n c A b 1000000 _ hCw1 (by decide)).mono ?_; rintro r w2 ⟨y, rfl, hy, hCw2, hfw2⟩
    have hFw2 := hFw1.trans hfw2
    go_wp2_with fail
    refine (s_l1Below B g n c A b 1000000 _ hCw2 (by decide)).mono ?_; rintro r w3 ⟨y2, rfl, hy2, hCw3, hfw3⟩
    have hFw3 := hFw2.trans hfw3
    go_wp2_with fail
    go_ret
    refine ⟨_, rfl, ?_, hCw3, hFw3⟩
    first | omega | exact wrap64_top _ | exact hy
  have z2 : (x == 2) = false := by simp [e2]
  by_cases e3 : x = 3
  · subst e3
    go_wp2_with fail
    refine (s_l1Below B g n c A b 50 _ hCw1 (by decide)).mono ?_; rintro r w2 ⟨y, rfl, hy, hCw2, hfw2⟩
    have hFw2 := hFw1.trans hfw2
    obtain ⟨hy0, hy1⟩ := hy.2 (by decide)
    obtain ⟨k, rfl⟩ := Int.eq_ofNat_of_zero_le hy0
    go_wp2_with fail
    go_ret
    refine ⟨_, rfl, ?_, hCw2, hFw2⟩
    first | omega | exact wrap64_top _ | exact hy
  · have z3 : (x == 3) = false := by simp [e3]
    go_wp2_with fail
    refine (s_l1Below B g n c A b 30 _ hCw1 (by decide)).mono ?_; rintro r w2 ⟨y, rfl, hy, hCw2, hfw2⟩
    have hFw2 := hFw1.trans hfw2
    go_wp2_with fail
    go_ret
    refine ⟨_, rfl, ?_, hCw2, hFw2⟩
    have hyb := hy.2 (by decide)
    first | omega | exact wrap64_top _ | exact hy
set_option maxHeartbeats 2000000 in
theorem s_l1Odd (B g n c : Nat) (A : Option Addr) (b : List UInt8) (w : World) (h : Cur w B g A n c b) :
    Calls Try.prog 115 #[.pointer (some ⟨g, 0, none⟩)] w fun r w' => ∃ x : Int, r = .returned (.int .i64 x) ∧ x ≤ 9223372036854775807 ∧ Cur w' B g A n c b ∧ Fr [g] w w' := by
  have hF0 := Fr.refl [g] w
  go_enter Try.func115, Try.ntmps115
  go_wp2_with fail
  refine (s_l1Int B g n c A b (some ⟨w.heap.size, 0, none⟩) 14 14 [-1, 0, 1, 2, 255, 256, 65535, 2147483647, 2147483648, 4294967295, 4294967296, -2147483648, 9223372036854775807, -9223372036854775808] _ (h.below (Below.one _ _)) (by exact i64s_lit _ _ [-1, 0, 1, 2, 255, 256, 65535, 2147483647, 2147483648, 4294967295, 4294967296, -2147483648, 9223372036854775807, -9223372036854775808] _ rfl (by exact Nat.le_of_ble_eq_true rfl)) (lit_ne h.lt) (by decide)).mono ?_; rintro r w1 ⟨y, rfl, hy, hCw1, hfw1⟩
  have hFw1 := (hF0.trans (Fr.of_below (Below.one _ _))).trans hfw1
  go_wp2_with fail
  go_ret
  refine ⟨_, rfl, ?_, hCw1, hFw1⟩
  simp only [List.mem_cons, List.not_mem_nil, or_false] at hy
  first | omega | exact wrap64_top _ | exact hy
set_option maxHeartbeats 2000000 in
theorem s_l1Raw (B g n c : Nat) (A : Option Addr) (b : List UInt8) (w : World) (h : Cur w B g A n c b) :
    Calls Try.prog 98 #[.pointer (some ⟨g, 0, none⟩)] w fun r w' => ∃ x : Int, r = .returned (.int .i64 x) ∧ x ≤ 9223372036854775807 ∧ Cur w' B g A n c b ∧ Fr [g] w w' := by
  have hF0 := Fr.refl [g] w
  go_enter Try.func98, Try.ntmps98
  go_wp2_with fail
  refine (s_l1Once B g n c A b 2 _ h (by decide)).mono ?_; rintro r w1 ⟨o1, rfl, hCw1, hfw1⟩
  have hFw1 := hF0.trans hfw1
  cases o1
  · go_wp2_with fail
    refine (s_l1Int B g n c A b (some ⟨w1.heap.size, 0, none⟩) 3 3 [-1, 1000000000000001, -1000000000000001] _ (hCw1.below (Below.one _ _)) (by exact i64s_lit _ _ [-1, 1000000000000001, -1000000000000001] _ rfl (by exact Nat.le_of_ble_eq_true rfl)) (lit_ne hCw1.lt) (by decide)).mono ?_; rintro r w2 ⟨y, rfl, hy, hCw2, hfw2⟩
    have hFw2 := (hFw1.trans (Fr.of_below (Below.one _ _))).trans hfw2
    go_wp2_with fail
    go_ret
    refine ⟨_, rfl, ?_, hCw2, hFw2⟩
    simp only [List.mem_cons, List.not_mem_nil, or_false] at hy
    first | omega | exact wrap64_top _ | exact hy
  · go_wp2_with fail
    refine (s_l1Odd B g n c A b _ hCw1).mono ?_; rintro r w2 ⟨y, rfl, hy, hCw2, hfw2⟩
    have hFw2 := hFw1.trans hfw2
    go_wp2_with fail
    go_ret
    refine ⟨_, rfl, ?_, hCw2, hFw2⟩
    first | omega | exact wrap64_top _ | exact hy
set_option maxHeartbeats 2000000 in
theorem s_l1Signed (B g n c : Nat) (A : Option Addr) (b : List UInt8) (w : World) (h : Cur w B g A n c b) :
    Calls Try.prog 99 #[.pointer (some ⟨g, 0, none⟩)] w fun r w' => ∃ x : Int, r = .returned (.int .i64 x) ∧ x ≤ 9223372036854775807 ∧ Cur w' B g A n c b ∧ Fr [g] w w' := by
  have hF0 := Fr.refl [g] w
  go_enter Try.func99, Try.ntmps99
  go_wp2_with fail
  refine (s_l1Once B g n c A b 2 _ h (by decide)).mono ?_; rintro r w1 ⟨o1, rfl, hCw1, hfw1⟩
  have hFw1 := hF0.trans hfw1
  cases o1
  · go_wp2_with fail
    refine (s_l1Num B g n c A b _ hCw1).mono ?_; rintro r w2 ⟨y, rfl, hy, hCw2, hfw2⟩
    have hFw2 := hFw1.trans hfw2
    go_wp2_with fail
    go_ret
    refine ⟨_, rfl, ?_, hCw2, hFw2⟩
    first | omega | exact wrap64_top _ | exact hy
  · go_wp2_with fail
    refine (s_l1Num B g n c A b _ hCw1).mono ?_; rintro r w2 ⟨y, rfl, hy, hCw2, hfw2⟩
    have hFw2 := hFw1.trans hfw2
    go_wp2_with fail
    go_ret
    refine ⟨_, rfl, ?_, hCw2, hFw2⟩
    first | omega | exact wrap64_top _ | exact hy
set_option maxHeartbeats 2000000 in
theorem s_l1One (B g n c : Nat) (A : Option Addr) (b : List UInt8) (w : World) (h : Cur w B g A n c b) :
    Calls Try.prog 54 #[.pointer (some ⟨g, 0, none⟩)] w fun r w' => ∃ x : Int, r = .returned (.int .i64 x) ∧ x ≤ 9223372036854775807 ∧ Cur w' B g A n c b ∧ Fr [g] w w' := by
  have hF0 := Fr.refl [g] w
  go_enter Try.func54, Try.ntmps54
  go_wp2_with fail
  refine (s_l1Once B g n c A b 6 _ h (by decide)).mono ?_; rintro r w1 ⟨o1, rfl, hCw1, hfw1⟩
  have hFw1 := hF0.trans hfw1
  cases o1
  · go_wp2_with fail
    refine (s_l1Signed B g n c A b _ hCw1).mono ?_; rintro r w2 ⟨y, rfl, hy, hCw2, hfw2⟩
    have hFw2 := hFw1.trans hfw2
    go_wp2_with fail
    go_ret
    refine ⟨_, rfl, ?_, hCw2, hFw2⟩
    first | omega | exact wrap64_top _ | exact hy
  · go_wp2_with fail
    refine (s_l1Raw B g n c A b _ hCw1).mono ?_; rintro r w2 ⟨y, rfl, hy, hCw2, hfw2⟩
    have hFw2 := hFw1.trans hfw2
    go_wp2_with fail
    go_ret
    refine ⟨_, rfl, ?_, hCw2, hFw2⟩
    first | omega | exact wrap64_top _ | exact hy
theorem Fr.up {w w' : World} {lo g : Nat} (h : Fr [g] w w') (hg : lo ≤ g) (hl : lo ≤ w.heap.size) : Below lo w w' := h.below (by simpa using hg) hl
set_option maxHeartbeats 2000000 in
theorem s_DrawFltBits (A : Option Addr) (n c : Nat) (b : List UInt8) (w : World) (h : Sl w w.heap.size 1 A n c (u8s b)) (hn : n ≤ 1048576) :
    Calls Try.prog 9 #[.slice A n c] w fun r w' => ∃ x y : Int, r = .returned (.agg #[.int .i64 x, .int .i64 y]) ∧ y ≤ 9223372036854775807 ∧ Below w.heap.size w w' := by
  have h0 : Sl (w.alloc (.cells #[.int .i64 0, .int .i64 0] 25)) (w.alloc (.cells #[.int .i64 0, .int .i64 0] 25)).heap.size 1 A n c (u8s b) := (h.alloc (Nat.le_refl _) _).more (by simp)
  have k0 := Below.one w (.cells #[.int .i64 0, .int .i64 0] 25)
  have hB := Blk.new w 25 #[.int .i64 0, .int .i64 0]
  have hz : (w.alloc (.cells #[.int .i64 0, .int .i64 0] 25)).heap.size = w.heap.size + 1 := by simp
  go_enter Try.func9, Try.ntmps9
  go_wp2_with fail
  refine (s_l1New A n c b _ h0 hn).mono ?_; rintro r w1 ⟨rfl, hC, hb1⟩
  rw [hz] at hC ⊢
  go_wp2_with fail
  refine (s_l5Any _ _ n c A b _ hC).mono ?_; rintro r w2 ⟨x, y, rfl, hyb, hC2, hf2⟩
  have hB2 := Blk.fr_' (hB.below hb1 hB.lt) hf2 (by simp)
  obtain ⟨r0, r1, q0, q1, ql⟩ := hB2.at2'
  go_wp2_with fail
  exact bodyPost_ret (results_blk Try.results9 Try.isAgg25 (by exact Try.sizeOf25) rfl (hB2.two _ _)) rfl ⟨x, y, rfl, hyb, (((k0.up hb1).trans (hf2.up (Nat.le_succ _) (k0.up hb1).size)).setCell (by exact Nat.le_refl _) _).setCell (by exact Nat.le_refl _) _⟩
set_option maxHeartbeats 2000000 in
theorem s_DrawBitsFlt (A : Option Addr) (n c : Nat) (b : List UInt8) (w : World) (h : Sl w w.heap.size 1 A n c (u8s b)) (hn : n ≤ 1048576) :
    Calls Try.prog 10 #[.slice A n c] w fun r w' => ∃ x : Int, r = .returned (.int .i64 x) ∧ Below w.heap.size w w' := by
  go_enter Try.func10, Try.ntmps10
  go_wp2_with fail
  refine (s_l1New A n c b _ h hn).mono ?_; rintro r w1 ⟨rfl, hC, hb1⟩
  have hF := Fr.refl [w.heap.size] w1
  go_wp2_with fail
  refine (s_l1Once _ _ n c A b 3 _ hC (by decide)).mono ?_; rintro r w2 ⟨o2, rfl, hC2, hf2⟩
  cases o2
  · go_wp2_with fail
    refine (s_l5Draw _ _ n c A b _ hC2).mono ?_; rintro r w3 ⟨x, y, rfl, hyb, hC3, hf3⟩
    go_wp2_with fail
    refine (s_FltBits x y _ hyb).mono ?_; rintro r w4 ⟨rfl, hb4⟩
    have hC4 := hC3.below hb4
    have hF4 := (hf2.trans hf3).trans (Fr.of_below hb4)
    go_wp2_with fail
    refine (s_l1Once _ _ n c A b 3 _ hC4 (by decide)).mono ?_; rintro r w5 ⟨o5, rfl, hC5, hf5⟩
    have hF5 := hF4.trans hf5
    cases o5
    · go_wp2_with fail
      go_ret
      exact ⟨_, rfl, hb1.trans (hF5.up (Nat.le_refl _) hb1.size)⟩
    · go_wp2_with fail
      refine (s_l1Below _ _ n c A b 9 _ hC5 (by decide)).mono ?_; rintro r w6 ⟨x6, rfl, hx6, hC6, hf6⟩
      go_wp2_with fail
      refine (s_l1Below _ _ n c A b 9 _ hC6 (by decide)).mono ?_; rintro r w7 ⟨x7, rfl, hx7, hC7, hf7⟩
      go_wp2_with fail
      go_ret
      exact ⟨_, rfl, hb1.trans (((hF5.trans hf6).trans hf7).up (Nat.le_refl _) hb1.size)⟩
  · go_wp2_with fail
    refine (s_l1One _ _ n c A b _ hC2).mono ?_; rintro r w3 ⟨x, rfl, hxb, hC3, hf3⟩
    go_wp2_with fail
    go_ret
    exact ⟨_, rfl, hb1.trans ((hf2.trans hf3).up (Nat.le_refl _) hb1.size)⟩
end Go.Proofs.Ytnfeplbdipajaaa
