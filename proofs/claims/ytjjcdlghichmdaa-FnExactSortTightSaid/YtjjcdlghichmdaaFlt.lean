/- impl.Flt and spec.Flt: valid numbers, bits. -/
import Derived.Test.YtjjcdlghichmdaaNum
set_option linter.unusedVariables false
set_option maxRecDepth 100000
set_option linter.unusedSimpArgs false
namespace Go.Proofs.Ytjjcdlghichmdaa
open Go.RowKit

/-- A floating-point number is valid. -/
def fltOk (m e : Int) : Bool :=
  if m = 0 then decide (e = 0) else decide (m % 2 ≠ 0 ∧ -65535 ≤ m ∧ m ≤ 65535 ∧ -16 ≤ e ∧ (e ≤ 30 ∨ (e ≤ 45 ∧ -65535 ≤ m * 2 ^ (e - 30).toNat ∧ m * 2 ^ (e - 30).toNat ≤ 65535)))

theorem tmod2 (m : Int) : m.tmod 2 = 0 ↔ m % 2 = 0 := by
  rw [← Int.dvd_iff_tmod_eq_zero, Int.dvd_iff_emod_eq_zero]
theorem tmod2_yes {m : Int} (h : m % 2 = 0) : (m.tmod 2 == 0) = true := by rw [beq_iff_eq]; exact (tmod2 m).2 h
theorem tmod2_no {m : Int} (h : ¬ m % 2 = 0) : (m.tmod 2 == 0) = false := by rw [beq_eq_false_iff_ne]; exact fun e => h ((tmod2 m).1 e)
theorem pow_bd {k : Nat} (h : k ≤ 16) : (1 : Int) ≤ 2 ^ k ∧ (2 : Int) ^ k ≤ 65536 := by
  have : k = 0 ∨ k = 1 ∨ k = 2 ∨ k = 3 ∨ k = 4 ∨ k = 5 ∨ k = 6 ∨ k = 7 ∨ k = 8 ∨ k = 9 ∨ k = 10 ∨ k = 11 ∨ k = 12 ∨ k = 13 ∨ k = 14 ∨ k = 15 ∨ k = 16 := by omega
  rcases this with rfl | rfl | rfl | rfl | rfl | rfl | rfl | rfl | rfl | rfl | rfl | rfl | rfl | rfl | rfl | rfl | rfl <;> decide
theorem mul_bd {m p : Int} (h1 : -65535 ≤ m) (h2 : m ≤ 65535) (h3 : 1 ≤ p) (h4 : p ≤ 65536) : -4294967296 ≤ m * p ∧ m * p ≤ 4294967296 := by
  have a1 : m * p ≤ 65535 * p := Int.mul_le_mul_of_nonneg_right h2 (by omega)
  have a2 : -65535 * p ≤ m * p := Int.mul_le_mul_of_nonneg_right h1 (by omega)
  omega
theorem shl_in {m e : Int} (h1 : -65535 ≤ m) (h2 : m ≤ 65535) (he : e ≤ 46) : wrap64 (m * 2 ^ (e - 30).toNat) = m * 2 ^ (e - 30).toNat := by
  have hp := pow_bd (k := (e - 30).toNat) (by omega)
  have hb := mul_bd h1 h2 hp.1 hp.2
  exact IntWalk.wrap64_in _ ⟨by omega, by omega⟩
theorem fltOk_zero (e : Int) : fltOk 0 e = decide (e = 0) := by simp [fltOk]
theorem fltOk_even {m e : Int} (h0 : m ≠ 0) (h : m % 2 = 0) : fltOk m e = false := by simp [fltOk, h0, h]
theorem fltOk_far {m e : Int} (h0 : m ≠ 0) (h : m < -65535 ∨ 65535 < m) : fltOk m e = false := by
  unfold fltOk; rw [if_neg h0, decide_eq_false_iff_not]; omega
theorem fltOk_low {m e : Int} (h0 : m ≠ 0) (h : e < -16) : fltOk m e = false := by
  unfold fltOk; rw [if_neg h0, decide_eq_false_iff_not]; omega
theorem fltOk_mid {m e : Int} (h0 : m % 2 ≠ 0) (h1 : -65535 ≤ m) (h2 : m ≤ 65535) (h3 : -16 ≤ e) (h4 : e ≤ 30) : fltOk m e = true := by
  unfold fltOk; rw [if_neg (by omega), decide_eq_true_eq]; exact ⟨h0, h1, h2, h3, Or.inl h4⟩
theorem fltOk_high {m e : Int} (h0 : m ≠ 0) (h : 45 < e) : fltOk m e = false := by
  unfold fltOk; rw [if_neg h0, decide_eq_false_iff_not]; omega
theorem fltOk_up {m e : Int} (h0 : m % 2 ≠ 0) (h1 : -65535 ≤ m) (h2 : m ≤ 65535) (h3 : 30 < e) (h4 : e ≤ 46) : fltOk m e = inR (wrap64 (m * 2 ^ (e - 30).toNat)) (-65535) 65535 := by
  rw [shl_in h1 h2 h4]
  unfold fltOk inR; rw [if_neg (by omega)]
  by_cases h : e ≤ 45
  · rw [decide_eq_decide]
    constructor
    · rintro ⟨_, _, _, _, hx⟩
      rcases hx with hx | hx
      · omega
      · exact hx.2
    · intro hx
      exact ⟨h0, h1, h2, by omega, Or.inr ⟨h, hx⟩⟩
  · obtain rfl : e = 46 := by omega
    have e16 : (46 - 30 : Int).toNat = 16 := by decide
    rw [e16, decide_eq_decide]
    constructor
    · rintro ⟨_, _, _, _, hx⟩; omega
    · intro hx; exfalso
      have : (2 : Int) ^ 16 = 65536 := by decide
      omega
set_option maxHeartbeats 1000000 in
theorem i_FltOk (m e : Int) (w : World) (hwe : e ≤ 9223372036854775807) :
    Calls Try.prog 51 #[.agg #[.int .i64 m, .int .i64 e]] w fun e' w' => e' = .returned (.bool (fltOk m e)) ∧ Below w.heap.size w w' := by
  by_cases hm0 : m = 0
  · subst hm0
    go_enter Try.func51, Try.ntmps51
    go_wp2_with fail
    go_ret
    exact ⟨ret_bool (by rw [fltOk_zero]; first | rfl | (rw [Bool.eq_iff_iff]; simp)), (Below.refl _ _).alloc (Nat.le_refl _) _⟩
  have h0 : (m == 0) = false := by simpa using hm0
  by_cases ho : m % 2 = 0
  · have h5 : (m.tmod 2 == 0) = true := tmod2_yes ho
    go_enter Try.func51, Try.ntmps51
    go_wp2_with fail
    go_ret
    exact ⟨ret_bool (fltOk_even hm0 ho).symm, (Below.refl _ _).alloc (Nat.le_refl _) _⟩
  have h5 : (m.tmod 2 == 0) = false := tmod2_no ho
  by_cases hm : -65535 ≤ m ∧ m ≤ 65535
  · have hb := inR_yes hm.1 hm.2
    obtain ⟨h1, h2⟩ := hm
    have HO := Lib.hid ho; have HM := Lib.hid hm0; clear ho hm0
    by_cases h3 : e < -16
    · go_enter Try.func51, Try.ntmps51
      go_wp2_with (go_at_call 40; refine (i_within _ _ _ _).mono ?_; rintro e w' ⟨rfl, rfl⟩)
      go_ret
      exact ⟨ret_bool (fltOk_low HM.out h3).symm, (Below.refl _ _).alloc (Nat.le_refl _) _⟩
    by_cases h4 : e ≤ 30
    · go_enter Try.func51, Try.ntmps51
      go_wp2_with (go_at_call 40; refine (i_within _ _ _ _).mono ?_; rintro e w' ⟨rfl, rfl⟩)
      go_ret
      exact ⟨ret_bool (fltOk_mid HO.out h1 h2 (by omega) h4).symm, (Below.refl _ _).alloc (Nat.le_refl _) _⟩
    by_cases h6 : e ≤ 46
    · go_enter Try.func51, Try.ntmps51
      go_wp2_with (go_at_call 40; refine (i_within _ _ _ _).mono ?_; rintro e w' ⟨rfl, rfl⟩)
      go_ret
      exact ⟨ret_bool (fltOk_up HO.out h1 h2 (by omega) h6).symm, (Below.refl _ _).alloc (Nat.le_refl _) _⟩
    · go_enter Try.func51, Try.ntmps51
      go_wp2_with (go_at_call 40; refine (i_within _ _ _ _).mono ?_; rintro e w' ⟨rfl, rfl⟩)
      go_ret
      exact ⟨ret_bool (fltOk_high HM.out (by omega)).symm, (Below.refl _ _).alloc (Nat.le_refl _) _⟩
  · have hb : inR m (-65535) 65535 = false := inR_no (by omega)
    go_enter Try.func51, Try.ntmps51
    go_wp2_with (go_at_call 40; refine (i_within _ _ _ _).mono ?_; rintro e w' ⟨rfl, rfl⟩)
    go_ret
    exact ⟨ret_bool (fltOk_far hm0 (by omega)).symm, (Below.refl _ _).alloc (Nat.le_refl _) _⟩
set_option maxHeartbeats 1000000 in
theorem s_FltOk (m e : Int) (w : World) (hwe : e ≤ 9223372036854775807) :
    Calls Try.prog 38 #[.agg #[.int .i64 m, .int .i64 e]] w fun e' w' => e' = .returned (.bool (fltOk m e)) ∧ Below w.heap.size w w' := by
  by_cases hm0 : m = 0
  · subst hm0
    go_enter Try.func38, Try.ntmps38
    go_wp2_with fail
    go_ret
    exact ⟨ret_bool (by rw [fltOk_zero]; first | rfl | (rw [Bool.eq_iff_iff]; simp)), (Below.refl _ _).alloc (Nat.le_refl _) _⟩
  have h0 : (m == 0) = false := by simpa using hm0
  by_cases hm : -65535 ≤ m ∧ m ≤ 65535
  · have hb := inR_yes hm.1 hm.2
    obtain ⟨h1, h2⟩ := hm
    by_cases ho : m % 2 = 0
    · have h5 : (m.tmod 2 == 0) = true := tmod2_yes ho
      go_enter Try.func38, Try.ntmps38
      go_wp2_with (go_at_call 29; refine (s_l1In _ _ _ _).mono ?_; rintro e w' ⟨rfl, rfl⟩)
      go_ret
      exact ⟨ret_bool (fltOk_even hm0 ho).symm, (Below.refl _ _).alloc (Nat.le_refl _) _⟩
    have h5 : (m.tmod 2 == 0) = false := tmod2_no ho
    have HO := Lib.hid ho; have HM := Lib.hid hm0; clear ho hm0
    by_cases h3 : -16 ≤ e ∧ e ≤ 45
    · have hb2 := inR_yes h3.1 h3.2
      obtain ⟨h3a, h3b⟩ := h3
      by_cases h4 : e ≤ 30
      · go_enter Try.func38, Try.ntmps38
        go_wp2_with (go_at_call 29; refine (s_l1In _ _ _ _).mono ?_; rintro e w' ⟨rfl, rfl⟩)
        go_ret
        exact ⟨ret_bool (fltOk_mid HO.out h1 h2 (by omega) h4).symm, (Below.refl _ _).alloc (Nat.le_refl _) _⟩
      · go_enter Try.func38, Try.ntmps38
        go_wp2_with (go_at_call 29; refine (s_l1In _ _ _ _).mono ?_; rintro e w' ⟨rfl, rfl⟩)
        go_ret
        exact ⟨ret_bool (by rw [fltOk_up HO.out h1 h2 (by omega) (by omega), decide_eq_false (show ¬ e ≤ 30 by omega)]; rfl), (Below.refl _ _).alloc (Nat.le_refl _) _⟩
    · have hb2 : inR e (-16) 45 = false := inR_no (by omega)
      go_enter Try.func38, Try.ntmps38
      go_wp2_with (go_at_call 29; refine (s_l1In _ _ _ _).mono ?_; rintro e w' ⟨rfl, rfl⟩)
      go_ret
      refine ⟨ret_bool ?_, (Below.refl _ _).alloc (Nat.le_refl _) _⟩
      by_cases h6 : e < -16
      · exact (fltOk_low HM.out h6).symm
      · exact (fltOk_high HM.out (by omega)).symm
  · have hb : inR m (-65535) 65535 = false := inR_no (by omega)
    go_enter Try.func38, Try.ntmps38
    go_wp2_with (go_at_call 29; refine (s_l1In _ _ _ _).mono ?_; rintro e w' ⟨rfl, rfl⟩)
    go_ret
    exact ⟨ret_bool (fltOk_far hm0 (by omega)).symm, (Below.refl _ _).alloc (Nat.le_refl _) _⟩
def fltBits (m e : Int) : Int := if fltOk m e = true then 65536 * (e + 16) + (if m < 0 then 16777216 - m else m) else -1
theorem fltBits_no {m e : Int} (h : fltOk m e = false) : fltBits m e = -1 := by unfold fltBits; rw [h]; rfl
theorem fltBits_neg {m e : Int} (h : fltOk m e = true) (hm : m < 0) : fltBits m e = 65536 * (e + 16) + (16777216 - m) := by unfold fltBits; rw [if_pos h, if_pos hm]
theorem fltBits_pos {m e : Int} (h : fltOk m e = true) (hm : ¬ m < 0) : fltBits m e = 65536 * (e + 16) + m := by unfold fltBits; rw [if_pos h, if_neg hm]
theorem fltOk_bounds {m e : Int} (h : fltOk m e = true) : -65535 ≤ m ∧ m ≤ 65535 ∧ -16 ≤ e ∧ e ≤ 45 := by
  unfold fltOk at h
  split at h
  · simp at h; omega
  · simp at h; omega
set_option maxHeartbeats 1000000 in
theorem i_FltBits (m e : Int) (w : World) (hwe : e ≤ 9223372036854775807) :
    Calls Try.prog 46 #[.agg #[.int .i64 m, .int .i64 e]] w fun e' w' => e' = .returned (.int .i64 (fltBits m e)) ∧ Below w.heap.size w w' := by
  cases hf : fltOk m e with
  | false =>
    go_enter Try.func46, Try.ntmps46
    go_wp2_with (go_at_call 51; refine (i_FltOk _ _ _ hwe).mono ?_; rintro e w' ⟨rfl, hb⟩)
    go_ret
    exact ⟨ret_int (fltBits_no hf).symm, hb.boxed⟩
  | true =>
    obtain ⟨h1, h2, h3, h4⟩ := fltOk_bounds hf
    by_cases hm : m < 0
    · go_enter Try.func46, Try.ntmps46
      go_wp2_with (go_at_call 51; refine (i_FltOk _ _ _ hwe).mono ?_; rintro e w1 ⟨rfl, hb⟩; obtain ⟨hc, hf'⟩ := bcell hb)
      go_ret
      exact ⟨ret_int (by rw [fltBits_neg hf hm]; omega), hb.boxed⟩
    · go_enter Try.func46, Try.ntmps46
      go_wp2_with (go_at_call 51; refine (i_FltOk _ _ _ hwe).mono ?_; rintro e w1 ⟨rfl, hb⟩; obtain ⟨hc, hf'⟩ := bcell hb)
      go_ret
      exact ⟨ret_int (by rw [fltBits_pos hf (by omega)]; first | done | omega), hb.boxed⟩
set_option maxHeartbeats 1000000 in
theorem s_FltBits (m e : Int) (w : World) (hwe : e ≤ 9223372036854775807) :
    Calls Try.prog 31 #[.agg #[.int .i64 m, .int .i64 e]] w fun e' w' => e' = .returned (.int .i64 (fltBits m e)) ∧ Below w.heap.size w w' := by
  cases hf : fltOk m e with
  | false =>
    go_enter Try.func31, Try.ntmps31
    go_wp2_with (go_at_call 38; refine (s_FltOk _ _ _ hwe).mono ?_; rintro e w' ⟨rfl, hb⟩)
    go_ret
    exact ⟨ret_int (fltBits_no hf).symm, hb.boxed⟩
  | true =>
    obtain ⟨h1, h2, h3, h4⟩ := fltOk_bounds hf
    by_cases hm : m < 0
    · go_enter Try.func31, Try.ntmps31
      go_wp2_with (go_at_call 38; refine (s_FltOk _ _ _ hwe).mono ?_; rintro e w1 ⟨rfl, hb⟩; obtain ⟨hc, hf'⟩ := bcell hb)
      go_ret
      exact ⟨ret_int (by rw [fltBits_neg hf hm]; omega), hb.boxed⟩
    · go_enter Try.func31, Try.ntmps31
      go_wp2_with (go_at_call 38; refine (s_FltOk _ _ _ hwe).mono ?_; rintro e w1 ⟨rfl, hb⟩; obtain ⟨hc, hf'⟩ := bcell hb)
      go_ret
      exact ⟨ret_int (by rw [fltBits_pos hf (by omega)]; first | done | omega), hb.boxed⟩
end Go.Proofs.Ytjjcdlghichmdaa
