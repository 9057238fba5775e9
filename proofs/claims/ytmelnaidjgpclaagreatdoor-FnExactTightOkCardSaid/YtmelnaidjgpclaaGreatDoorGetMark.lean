/- GetMark, of the program and of the reference. -/
import Derived.Test.YtmelnaidjgpclaaGreatDoorMarkArg
set_option linter.unusedVariables false
set_option maxRecDepth 100000
set_option linter.unusedSimpArgs false
namespace Go.Proofs.YtmelnaidjgpclaaGreatDoor
open Go.RowKit

theorem wrap64_shl (x : Int) : wrap64 (wrap64 x * 256) = wrap64 (x * 256) := by unfold wrap64; omega
set_option maxHeartbeats 1600000 in
theorem s_l15Below_8 (A : Option Addr) (m c : Nat) (b : List UInt8) (j : Nat) (w : World) (B : Nat) (h : Sl w B 1 A m c (u8s b)) (hm : m ≤ 1048576) (hj : j ≤ m) (hjv : j + 8 ≤ m) (v : Int) (hv : sgnN (bigN (part b j 8)) 8 = v) (r q : Int) (hrq : (inR v (-1000000000000000) 1000000000000000 = true ∧ r = v ∧ q = 0) ∨ (inR v (-1000000000000000) 1000000000000000 = false ∧ r = 0 ∧ q = 2)) :
    Calls Tryz.prog 95 #[.slice A m c, .int .i64 j, .int .i64 8] w fun e w' => e = .returned (.tuple #[.int .i64 r, .int .i64 q]) ∧ w = w' := by
  have HR := Lib.hid hrq
  clear hrq
  have hl := h.blen
  have hbn := bigN_lt (part b j 8)
  rw [part_len (by omega)] at hbn
  have hv8 := sgn_8 hbn
  rw [hv] at hv8
  obtain ⟨g, o, rfl, hg, hjl, hc⟩ := h.byte (k := j) (by omega)
  by_cases h128 : 128 ≤ (b[j]'(by omega)).toNat
  · skip
    go_enter Tryz.func95, Tryz.ntmps95
    go_wp2_with fail
    go_loop [10, 11] (fun x y => ∃ k : Nat, k ≤ 8 ∧ x = .int .i64 (wrap64 ((-1) * 256 ^ k + (bigN (part b j k) : Nat))) ∧ y = .int .i64 k) (fun x y => 8 - (intOf y).toNat)
    case atStart => exact ⟨0, Nat.zero_le _, by simp [part, bigN, wrap64], rfl⟩
    case round =>
      obtain ⟨k, hk, rfl, rfl⟩ := hrel
      by_cases hlt : k < 8
      · obtain ⟨g, o, eA, hg, hkl, hc⟩ := h.byte (k := j + k) (by omega)
        cases eA
        have hps := part_succ (b := b) (i := j) (k := k) (by omega)
        have hc8 := (b[j + k]).toNat_lt
        go_wp2
        go_round
        case rel => exact ⟨k + 1, by omega, by rw [wrap64_shl, i64_or_byte _ _ (by omega), hps, bigN_snoc]; simp [Int.pow_succ]; congr 1; omega, by go_num⟩
        case measure => simp [intOf]; omega
      · have hk8 : k = 8 := by omega
        subst hk8
        have e : wrap64 ((-1) * 256 ^ 8 + (bigN (part b j 8) : Nat)) = v := by rw [← hv8]; unfold wrap64; omega
        rw [e]
        rcases HR.out with ⟨hr, rfl, rfl⟩ | ⟨hr, rfl, rfl⟩
        all_goals
          have hr2 := hr
          go_wp2_with (go_at_call 40; refine (s_l1In _ _ _ _).mono ?_; rintro e w' ⟨rfl, rfl⟩; rw [hr2])
          exact bodyPost_ret (results_tmp2 Tryz.results95 _ _ _) rfl ⟨rfl, rfl⟩
  · skip
    go_enter Tryz.func95, Tryz.ntmps95
    go_wp2_with fail
    go_loop [10, 11] (fun x y => ∃ k : Nat, k ≤ 8 ∧ x = .int .i64 (wrap64 (0 * 256 ^ k + (bigN (part b j k) : Nat))) ∧ y = .int .i64 k) (fun x y => 8 - (intOf y).toNat)
    case atStart => exact ⟨0, Nat.zero_le _, by simp [part, bigN, wrap64], rfl⟩
    case round =>
      obtain ⟨k, hk, rfl, rfl⟩ := hrel
      by_cases hlt : k < 8
      · obtain ⟨g, o, eA, hg, hkl, hc⟩ := h.byte (k := j + k) (by omega)
        cases eA
        have hps := part_succ (b := b) (i := j) (k := k) (by omega)
        have hc8 := (b[j + k]).toNat_lt
        go_wp2
        go_round
        case rel => exact ⟨k + 1, by omega, by rw [wrap64_shl, i64_or_byte _ _ (by omega), hps, bigN_snoc]; simp [Int.pow_succ]; congr 1; omega, by go_num⟩
        case measure => simp [intOf]; omega
      · have hk8 : k = 8 := by omega
        subst hk8
        have e : wrap64 (0 * 256 ^ 8 + (bigN (part b j 8) : Nat)) = v := by rw [← hv8]; unfold wrap64; omega
        rw [e]
        rcases HR.out with ⟨hr, rfl, rfl⟩ | ⟨hr, rfl, rfl⟩
        all_goals
          have hr2 := hr
          go_wp2_with (go_at_call 40; refine (s_l1In _ _ _ _).mono ?_; rintro e w' ⟨rfl, rfl⟩; rw [hr2])
          exact bodyPost_ret (results_tmp2 Tryz.results95 _ _ _) rfl ⟨rfl, rfl⟩
end Go.Proofs.YtmelnaidjgpclaaGreatDoor
