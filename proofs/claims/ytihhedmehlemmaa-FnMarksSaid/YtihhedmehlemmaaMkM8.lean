/- The draws of numbers. Numbers drawn, bounded on both sides. Written by gen/tokdraws.py. -/
import Derived.Test.YtihhedmehlemmaaMkCurNew
import Derived.Test.YtihhedmehlemmaaMkFltNew
set_option linter.unusedVariables false
set_option maxRecDepth 100000
set_option linter.unusedSimpArgs false
namespace Go.Proofs.Ytihhedmehlemmaa
open Go.RowKit

theorem wrap64_top (x : Int) : wrap64 x ≤ 9223372036854775807 := by unfold wrap64; omega
set_option maxHeartbeats 2000000 in
theorem s_l1Num (B g n c : Nat) (A : Option Addr) (b : List UInt8) (w : World) (h : Cur w B g A n c b) :
    Calls Try.prog 94 #[.pointer (some ⟨g, 0, none⟩)] w fun r w' => ∃ x : Int, r = .returned (.int .i64 x) ∧ x ≤ 9223372036854775807 ∧ Cur w' B g A n c b ∧ Fr [g] w w' := by
  have hF0 := Fr.refl [g] w
  go_enter Try.func94, Try.ntmps94
  go_wp2_with fail
  refine (s_l1Below B g n c A b 5 _ h (by decide)).mono ?_; rintro r w1 ⟨x, rfl, hx, hCw1, hfw1⟩
  have hFw1 := hF0.trans hfw1
  by_cases e0 : x = 0
  · subst e0
    go_wp2_with fail
    refine (s_l1Below B g n c A b 70000 _ hCw1 (by decide)).mono ?_; rintro r w2 ⟨y, rfl, hy, hCw2, hfw2⟩
    have hFw2 := hFw1.trans hfw2
    go_wp2_with fail
    go_ret
    refine ⟨_, rfl, ?_, hCw2, hFw2⟩
    have hyb := hy.2 (by decide)
    first | omega | exact wrap64_top _ | exact hy
  have z0 : (x == 0) = false := by simp [e0]
  by_cases e1 : x = 1
  · subst e1
    go_wp2_with fail
    refine (s_l1Int B g n c A b (some ⟨w1.heap.size, 0, none⟩) 9 9 [0, 1, 9, 10, 255, 256, 65535, 65536, 1000000000000000] _ (hCw1.below (Below.one _ _)) (by exact i64s_lit _ _ [0, 1, 9, 10, 255, 256, 65535, 65536, 1000000000000000] _ rfl (by exact Nat.le_of_ble_eq_true rfl)) (lit_ne hCw1.lt) (by decide)).mono ?_; rintro r w2 ⟨y, rfl, hy, hCw2, hfw2⟩
    have hFw2 := (hFw1.trans (Fr.of_below (Below.one _ _))).trans hfw2
    go_wp2_with fail
    go_ret
    refine ⟨_, rfl, ?_, hCw2, hFw2⟩
    simp only [List.mem_cons, List.not_mem_nil, or_false] at hy
    first | omega | exact wrap64_top _ | exact hy
  have z1 : (x == 1) = false := by simp [e1]
  by_cases e2 : x = 2
  · subst e2
    go_wp2_with fail
    refine (s_l1Below B g n c A b 1000000 _ hCw1 (by decide)).mono ?_; rintro r w2 ⟨y, rfl, hy, hCw2, hfw2⟩
    have hFw2 := hFw1.trans hfw2
    go_wp2_with fail
    refine (s_l1Below B g n c A b 1000000 _ hCw2 (by decide)).mono ?_; rintro r w3 ⟨y2, rfl, hy2, hCw3, hfw3⟩
    have hFw3 := hFw2.trans hfw3
    go_wp2_with fail
    go_ret
    refine ⟨_, rfl, ?_, hCw3, hFw3⟩
    first | omega | exact wrap64_top _ | exact hy
  have z2 : (x == 2) = false := by simp [e2]
  by_cases e3 : x = 3
  · subst e3
    go_wp2_with fail
    refine (s_l1Below B g n c A b 50 _ hCw1 (by decide)).mono ?_; rintro r w2 ⟨y, rfl, hy, hCw2, hfw2⟩
    have hFw2 := hFw1.trans hfw2
    obtain ⟨hy0, hy1⟩ := hy.2 (by decide)
    obtain ⟨k, rfl⟩ := Int.eq_ofNat_of_zero_le hy0
    go_wp2_with fail
    go_ret
    refine ⟨_, rfl, ?_, hCw2, hFw2⟩
    first | omega | exact wrap64_top _ | exact hy
  · have z3 : (x == 3) = false := by simp [e3]
    go_wp2_with fail
    refine (s_l1Below B g n c A b 30 _ hCw1 (by decide)).mono ?_; rintro r w2 ⟨y, rfl, hy, hCw2, hfw2⟩
    have hFw2 := hFw1.trans hfw2
    go_wp2_with fail
    go_ret
    refine ⟨_, rfl, ?_, hCw2, hFw2⟩
    have hyb := hy.2 (by decide)
    first | omega | exact wrap64_top _ | exact hy
set_option maxHeartbeats 2000000 in
theorem s_l1Odd (B g n c : Nat) (A : Option Addr) (b : List UInt8) (w : World) (h : Cur w B g A n c b) :
    Calls Try.prog 101 #[.pointer (some ⟨g, 0, none⟩)] w fun r w' => ∃ x : Int, r = .returned (.int .i64 x) ∧ x ≤ 9223372036854775807 ∧ Cur w' B g A n c b ∧ Fr [g] w w' := by
  have hF0 := Fr.refl [g] w
  go_enter Try.func101, Try.ntmps101
  go_wp2_with fail
  refine (s_l1Int B g n c A b (some ⟨w.heap.size, 0, none⟩) 14 14 [-1, 0, 1, 2, 255, 256, 65535, 2147483647, 2147483648, 4294967295, 4294967296, -2147483648, 9223372036854775807, -9223372036854775808] _ (h.below (Below.one _ _)) (by exact i64s_lit _ _ [-1, 0, 1, 2, 255, 256, 65535, 2147483647, 2147483648, 4294967295, 4294967296, -2147483648, 9223372036854775807, -9223372036854775808] _ rfl (by exact Nat.le_of_ble_eq_true rfl)) (lit_ne h.lt) (by decide)).mono ?_; rintro r w1 ⟨y, rfl, hy, hCw1, hfw1⟩
  have hFw1 := (hF0.trans (Fr.of_below (Below.one _ _))).trans hfw1
  go_wp2_with fail
  go_ret
  refine ⟨_, rfl, ?_, hCw1, hFw1⟩
  simp only [List.mem_cons, List.not_mem_nil, or_false] at hy
  first | omega | exact wrap64_top _ | exact hy
set_option maxHeartbeats 2000000 in
theorem s_l1Raw (B g n c : Nat) (A : Option Addr) (b : List UInt8) (w : World) (h : Cur w B g A n c b) :
    Calls Try.prog 83 #[.pointer (some ⟨g, 0, none⟩)] w fun r w' => ∃ x : Int, r = .returned (.int .i64 x) ∧ x ≤ 9223372036854775807 ∧ Cur w' B g A n c b ∧ Fr [g] w w' := by
  have hF0 := Fr.refl [g] w
  go_enter Try.func83, Try.ntmps83
  go_wp2_with fail
  refine (s_l1Once B g n c A b 2 _ h (by decide)).mono ?_; rintro r w1 ⟨o1, rfl, hCw1, hfw1⟩
  have hFw1 := hF0.trans hfw1
  cases o1
  · go_wp2_with fail
    refine (s_l1Int B g n c A b (some ⟨w1.heap.size, 0, none⟩) 3 3 [-1, 1000000000000001, -1000000000000001] _ (hCw1.below (Below.one _ _)) (by exact i64s_lit _ _ [-1, 1000000000000001, -1000000000000001] _ rfl (by exact Nat.le_of_ble_eq_true rfl)) (lit_ne hCw1.lt) (by decide)).mono ?_; rintro r w2 ⟨y, rfl, hy, hCw2, hfw2⟩
    have hFw2 := (hFw1.trans (Fr.of_below (Below.one _ _))).trans hfw2
    go_wp2_with fail
    go_ret
    refine ⟨_, rfl, ?_, hCw2, hFw2⟩
    simp only [List.mem_cons, List.not_mem_nil, or_false] at hy
    first | omega | exact wrap64_top _ | exact hy
  · go_wp2_with fail
    refine (s_l1Odd B g n c A b _ hCw1).mono ?_; rintro r w2 ⟨y, rfl, hy, hCw2, hfw2⟩
    have hFw2 := hFw1.trans hfw2
    go_wp2_with fail
    go_ret
    refine ⟨_, rfl, ?_, hCw2, hFw2⟩
    first | omega | exact wrap64_top _ | exact hy
set_option maxHeartbeats 2000000 in
theorem s_l1Signed (B g n c : Nat) (A : Option Addr) (b : List UInt8) (w : World) (h : Cur w B g A n c b) :
    Calls Try.prog 70 #[.pointer (some ⟨g, 0, none⟩)] w fun r w' => ∃ x : Int, r = .returned (.int .i64 x) ∧ x ≤ 9223372036854775807 ∧ Cur w' B g A n c b ∧ Fr [g] w w' := by
  have hF0 := Fr.refl [g] w
  go_enter Try.func70, Try.ntmps70
  go_wp2_with fail
  refine (s_l1Once B g n c A b 2 _ h (by decide)).mono ?_; rintro r w1 ⟨o1, rfl, hCw1, hfw1⟩
  have hFw1 := hF0.trans hfw1
  cases o1
  · go_wp2_with fail
    refine (s_l1Num B g n c A b _ hCw1).mono ?_; rintro r w2 ⟨y, rfl, hy, hCw2, hfw2⟩
    have hFw2 := hFw1.trans hfw2
    go_wp2_with fail
    go_ret
    refine ⟨_, rfl, ?_, hCw2, hFw2⟩
    first | omega | exact wrap64_top _ | exact hy
  · go_wp2_with fail
    refine (s_l1Num B g n c A b _ hCw1).mono ?_; rintro r w2 ⟨y, rfl, hy, hCw2, hfw2⟩
    have hFw2 := hFw1.trans hfw2
    go_wp2_with fail
    go_ret
    refine ⟨_, rfl, ?_, hCw2, hFw2⟩
    first | omega | exact wrap64_top _ | exact hy
theorem Fr.up {w w' : World} {lo g : Nat} (h : Fr [g] w w') (hg : lo ≤ g) (hl : lo ≤ w.heap.size) : Below lo w w' := h.below (by simpa using hg) hl
end Go.Proofs.Ytihhedmehlemmaa

namespace Go.Proofs.Ytihhedmehlemmaa
open Go.RowKit

theorem wrap64_two (x : Int) : -9223372036854775808 ≤ wrap64 x ∧ wrap64 x ≤ 9223372036854775807 := by unfold wrap64; omega
set_option maxHeartbeats 2000000 in
theorem s_l1NumB (B g n c : Nat) (A : Option Addr) (b : List UInt8) (w : World) (h : Cur w B g A n c b) :
    Calls Try.prog 94 #[.pointer (some ⟨g, 0, none⟩)] w fun r w' => ∃ x : Int, r = .returned (.int .i64 x) ∧ (-9223372036854775808 ≤ x ∧ x ≤ 9223372036854775807) ∧ Cur w' B g A n c b ∧ Fr [g] w w' := by
  have hF0 := Fr.refl [g] w
  go_enter Try.func94, Try.ntmps94
  go_wp2_with fail
  refine (s_l1Below B g n c A b 5 _ h (by decide)).mono ?_; rintro r w1 ⟨x, rfl, hx, hCw1, hfw1⟩
  have hFw1 := hF0.trans hfw1
  by_cases e0 : x = 0
  · subst e0
    go_wp2_with fail
    refine (s_l1Below B g n c A b 70000 _ hCw1 (by decide)).mono ?_; rintro r w2 ⟨y, rfl, hy, hCw2, hfw2⟩
    have hFw2 := hFw1.trans hfw2
    go_wp2_with fail
    go_ret
    refine ⟨_, rfl, ?_, hCw2, hFw2⟩
    have hyb := hy.2 (by decide)
    first | omega | exact wrap64_two _ | exact hy
  have z0 : (x == 0) = false := by simp [e0]
  by_cases e1 : x = 1
  · subst e1
    go_wp2_with fail
    refine (s_l1Int B g n c A b (some ⟨w1.heap.size, 0, none⟩) 9 9 [0, 1, 9, 10, 255, 256, 65535, 65536, 1000000000000000] _ (hCw1.below (Below.one _ _)) (by exact i64s_lit _ _ [0, 1, 9, 10, 255, 256, 65535, 65536, 1000000000000000] _ rfl (by exact Nat.le_of_ble_eq_true rfl)) (lit_ne hCw1.lt) (by decide)).mono ?_; rintro r w2 ⟨y, rfl, hy, hCw2, hfw2⟩
    have hFw2 := (hFw1.trans (Fr.of_below (Below.one _ _))).trans hfw2
    go_wp2_with fail
    go_ret
    refine ⟨_, rfl, ?_, hCw2, hFw2⟩
    simp only [List.mem_cons, List.not_mem_nil, or_false] at hy
    first | omega | exact wrap64_two _ | exact hy
  have z1 : (x == 1) = false := by simp [e1]
  by_cases e2 : x = 2
  · subst e2
    go_wp2_with fail
    refine (s_l1Below B g n c A b 1000000 _ hCw1 (by decide)).mono ?_; rintro r w2 ⟨y, rfl, hy, hCw2, hfw2⟩
    have hFw2 := hFw1.trans hfw2
    go_wp2_with fail
    refine (s_l1Below B g n c A b 1000000 _ hCw2 (by decide)).mono ?_; rintro r w3 ⟨y2, rfl, hy2, hCw3, hfw3⟩
    have hFw3 := hFw2.trans hfw3
    go_wp2_with fail
    go_ret
    refine ⟨_, rfl, ?_, hCw3, hFw3⟩
    first | omega | exact wrap64_two _ | exact hy
  have z2 : (x == 2) = false := by simp [e2]
  by_cases e3 : x = 3
  · subst e3
    go_wp2_with fail
    refine (s_l1Below B g n c A b 50 _ hCw1 (by decide)).mono ?_; rintro r w2 ⟨y, rfl, hy, hCw2, hfw2⟩
    have hFw2 := hFw1.trans hfw2
    obtain ⟨hy0, hy1⟩ := hy.2 (by decide)
    obtain ⟨k, rfl⟩ := Int.eq_ofNat_of_zero_le hy0
    go_wp2_with fail
    go_ret
    refine ⟨_, rfl, ?_, hCw2, hFw2⟩
    first | omega | exact wrap64_two _ | exact hy
  · have z3 : (x == 3) = false := by simp [e3]
    go_wp2_with fail
    refine (s_l1Below B g n c A b 30 _ hCw1 (by decide)).mono ?_; rintro r w2 ⟨y, rfl, hy, hCw2, hfw2⟩
    have hFw2 := hFw1.trans hfw2
    go_wp2_with fail
    go_ret
    refine ⟨_, rfl, ?_, hCw2, hFw2⟩
    have hyb := hy.2 (by decide)
    first | omega | exact wrap64_two _ | exact hy
set_option maxHeartbeats 2000000 in
theorem s_l1SignedB (B g n c : Nat) (A : Option Addr) (b : List UInt8) (w : World) (h : Cur w B g A n c b) :
    Calls Try.prog 70 #[.pointer (some ⟨g, 0, none⟩)] w fun r w' => ∃ x : Int, r = .returned (.int .i64 x) ∧ (-9223372036854775808 ≤ x ∧ x ≤ 9223372036854775807) ∧ Cur w' B g A n c b ∧ Fr [g] w w' := by
  have hF0 := Fr.refl [g] w
  go_enter Try.func70, Try.ntmps70
  go_wp2_with fail
  refine (s_l1Once B g n c A b 2 _ h (by decide)).mono ?_; rintro r w1 ⟨o1, rfl, hCw1, hfw1⟩
  have hFw1 := hF0.trans hfw1
  cases o1
  · go_wp2_with fail
    refine (s_l1NumB B g n c A b _ hCw1).mono ?_; rintro r w2 ⟨y, rfl, hy, hCw2, hfw2⟩
    have hFw2 := hFw1.trans hfw2
    go_wp2_with fail
    go_ret
    refine ⟨_, rfl, ?_, hCw2, hFw2⟩
    first | omega | exact wrap64_two _ | exact hy
  · go_wp2_with fail
    refine (s_l1NumB B g n c A b _ hCw1).mono ?_; rintro r w2 ⟨y, rfl, hy, hCw2, hfw2⟩
    have hFw2 := hFw1.trans hfw2
    go_wp2_with fail
    go_ret
    refine ⟨_, rfl, ?_, hCw2, hFw2⟩
    first | omega | exact wrap64_two _ | exact hy
end Go.Proofs.Ytihhedmehlemmaa
