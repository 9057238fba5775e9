/- impl.Flt and spec.Flt: valid numbers, bits. The packer: number, text, elements, value. -/
import Derived.Test.YtmnlkedacnemcaaGreatDoorTwM0
import Derived.Test.YtmnlkedacnemcaaGreatDoorTwM13
import Derived.Test.YtmnlkedacnemcaaGreatDoorTwVal
import Derived.Deep.LoopGhost
set_option linter.unusedVariables false
set_option maxRecDepth 100000
set_option linter.unusedSimpArgs false
namespace Go.Proofs.YtmnlkedacnemcaaGreatDoor
open Go.RowKit

/-- A floating-point number is valid. -/
def fltOk (m e : Int) : Bool :=
  if m = 0 then decide (e = 0) else decide (m % 2 ≠ 0 ∧ -65535 ≤ m ∧ m ≤ 65535 ∧ -16 ≤ e ∧ (e ≤ 30 ∨ (e ≤ 45 ∧ -65535 ≤ m * 2 ^ (e - 30).toNat ∧ m * 2 ^ (e - 30).toNat ≤ 65535)))

theorem tmod2 (m : Int) : m.tmod 2 = 0 ↔ m % 2 = 0 := by
  rw [← Int.dvd_iff_tmod_eq_zero, Int.dvd_iff_emod_eq_zero]
theorem tmod2_yes {m : Int} (h : m % 2 = 0) : (m.tmod 2 == 0) = true := by rw [beq_iff_eq]; exact (tmod2 m).2 h
theorem tmod2_no {m : Int} (h : ¬ m % 2 = 0) : (m.tmod 2 == 0) = false := by rw [beq_eq_false_iff_ne]; exact fun e => h ((tmod2 m).1 e)
theorem pow_bd {k : Nat} (h : k ≤ 16) : (1 : Int) ≤ 2 ^ k ∧ (2 : Int) ^ k ≤ 65536 := by
  have : k = 0 ∨ k = 1 ∨ k = 2 ∨ k = 3 ∨ k = 4 ∨ k = 5 ∨ k = 6 ∨ k = 7 ∨ k = 8 ∨ k = 9 ∨ k = 10 ∨ k = 11 ∨ k = 12 ∨ k = 13 ∨ k = 14 ∨ k = 15 ∨ k = 16 := by omega
  rcases this with rfl | rfl | rfl | rfl | rfl | rfl | rfl | rfl | rfl | rfl | rfl | rfl | rfl | rfl | rfl | rfl | rfl <;> decide
theorem mul_bd {m p : Int} (h1 : -65535 ≤ m) (h2 : m ≤ 65535) (h3 : 1 ≤ p) (h4 : p ≤ 65536) : -4294967296 ≤ m * p ∧ m * p ≤ 4294967296 := by
  have a1 : m * p ≤ 65535 * p := Int.mul_le_mul_of_nonneg_right h2 (by omega)
  have a2 : -65535 * p ≤ m * p := Int.mul_le_mul_of_nonneg_right h1 (by omega)
  omega
theorem shl_in {m e : Int} (h1 : -65535 ≤ m) (h2 : m ≤ 65535) (he : e ≤ 46) : wrap64 (m * 2 ^ (e - 30).toNat) = m * 2 ^ (e - 30).toNat := by
  have hp := pow_bd (k := (e - 30).toNat) (by omega)
  have hb := mul_bd h1 h2 hp.1 hp.2
  exact IntWalk.wrap64_in _ ⟨by omega, by omega⟩
theorem fltOk_zero (e : Int) : fltOk 0 e = decide (e = 0) := by simp [fltOk]
theorem fltOk_even {m e : Int} (h0 : m ≠ 0) (h : m % 2 = 0) : fltOk m e = false := by simp [fltOk, h0, h]
theorem fltOk_far {m e : Int} (h0 : m ≠ 0) (h : m < -65535 ∨ 65535 < m) : fltOk m e = false := by
  unfold fltOk; rw [if_neg h0, decide_eq_false_iff_not]; omega
theorem fltOk_low {m e : Int} (h0 : m ≠ 0) (h : e < -16) : fltOk m e = false := by
  unfold fltOk; rw [if_neg h0, decide_eq_false_iff_not]; omega
theorem fltOk_mid {m e : Int} (h0 : m % 2 ≠ 0) (h1 : -65535 ≤ m) (h2 : m ≤ 65535) (h3 : -16 ≤ e) (h4 : e ≤ 30) : fltOk m e = true := by
  unfold fltOk; rw [if_neg (by omega), decide_eq_true_eq]; exact ⟨h0, h1, h2, h3, Or.inl h4⟩
theorem fltOk_high {m e : Int} (h0 : m ≠ 0) (h : 45 < e) : fltOk m e = false := by
  unfold fltOk; rw [if_neg h0, decide_eq_false_iff_not]; omega
theorem fltOk_up {m e : Int} (h0 : m % 2 ≠ 0) (h1 : -65535 ≤ m) (h2 : m ≤ 65535) (h3 : 30 < e) (h4 : e ≤ 46) : fltOk m e = inR (wrap64 (m * 2 ^ (e - 30).toNat)) (-65535) 65535 := by
  rw [shl_in h1 h2 h4]
  unfold fltOk inR; rw [if_neg (by omega)]
  by_cases h : e ≤ 45
  · rw [decide_eq_decide]
    constructor
    · rintro ⟨_, _, _, _, hx⟩
      rcases hx with hx | hx
      · omega
      · exact hx.2
    · intro hx
      exact ⟨h0, h1, h2, by omega, Or.inr ⟨h, hx⟩⟩
  · obtain rfl : e = 46 := by omega
    have e16 : (46 - 30 : Int).toNat = 16 := by decide
    rw [e16, decide_eq_decide]
    constructor
    · rintro ⟨_, _, _, _, hx⟩; omega
    · intro hx; exfalso
      have : (2 : Int) ^ 16 = 65536 := by decide
      omega
set_option maxHeartbeats 1000000 in
theorem i_FltOk (m e : Int) (w : World) (hwe : e ≤ 9223372036854775807) :
    Calls Tryz.prog 81 #[.agg #[.int .i64 m, .int .i64 e]] w fun e' w' => e' = .returned (.bool (fltOk m e)) ∧ Below w.heap.size w w' := by
  by_cases hm0 : m = 0
  · subst hm0
    go_enter Tryz.func81, Tryz.ntmps81
    go_wp2_with fail
    go_ret
    exact ⟨ret_bool (by rw [fltOk_zero]; first | rfl | (rw [Bool.eq_iff_iff]; simp)), (Below.refl _ _).alloc (Nat.le_refl _) _⟩
  have h0 : (m == 0) = false := by simpa using hm0
  by_cases ho : m % 2 = 0
  · have h5 : (m.tmod 2 == 0) = true := tmod2_yes ho
    go_enter Tryz.func81, Tryz.ntmps81
    go_wp2_with fail
    go_ret
    exact ⟨ret_bool (fltOk_even hm0 ho).symm, (Below.refl _ _).alloc (Nat.le_refl _) _⟩
  have h5 : (m.tmod 2 == 0) = false := tmod2_no ho
  by_cases hm : -65535 ≤ m ∧ m ≤ 65535
  · have hb := inR_yes hm.1 hm.2
    obtain ⟨h1, h2⟩ := hm
    have HO := Lib.hid ho; have HM := Lib.hid hm0; clear ho hm0
    by_cases h3 : e < -16
    · go_enter Tryz.func81, Tryz.ntmps81
      go_wp2_with (go_at_call 56; refine (i_within _ _ _ _).mono ?_; rintro e w' ⟨rfl, rfl⟩)
      go_ret
      exact ⟨ret_bool (fltOk_low HM.out h3).symm, (Below.refl _ _).alloc (Nat.le_refl _) _⟩
    by_cases h4 : e ≤ 30
    · go_enter Tryz.func81, Tryz.ntmps81
      go_wp2_with (go_at_call 56; refine (i_within _ _ _ _).mono ?_; rintro e w' ⟨rfl, rfl⟩)
      go_ret
      exact ⟨ret_bool (fltOk_mid HO.out h1 h2 (by omega) h4).symm, (Below.refl _ _).alloc (Nat.le_refl _) _⟩
    by_cases h6 : e ≤ 46
    · go_enter Tryz.func81, Tryz.ntmps81
      go_wp2_with (go_at_call 56; refine (i_within _ _ _ _).mono ?_; rintro e w' ⟨rfl, rfl⟩)
      go_ret
      exact ⟨ret_bool (fltOk_up HO.out h1 h2 (by omega) h6).symm, (Below.refl _ _).alloc (Nat.le_refl _) _⟩
    · go_enter Tryz.func81, Tryz.ntmps81
      go_wp2_with (go_at_call 56; refine (i_within _ _ _ _).mono ?_; rintro e w' ⟨rfl, rfl⟩)
      go_ret
      exact ⟨ret_bool (fltOk_high HM.out (by omega)).symm, (Below.refl _ _).alloc (Nat.le_refl _) _⟩
  · have hb : inR m (-65535) 65535 = false := inR_no (by omega)
    go_enter Tryz.func81, Tryz.ntmps81
    go_wp2_with (go_at_call 56; refine (i_within _ _ _ _).mono ?_; rintro e w' ⟨rfl, rfl⟩)
    go_ret
    exact ⟨ret_bool (fltOk_far hm0 (by omega)).symm, (Below.refl _ _).alloc (Nat.le_refl _) _⟩
set_option maxHeartbeats 1000000 in
theorem s_FltOk (m e : Int) (w : World) (hwe : e ≤ 9223372036854775807) :
    Calls Tryz.prog 66 #[.agg #[.int .i64 m, .int .i64 e]] w fun e' w' => e' = .returned (.bool (fltOk m e)) ∧ Below w.heap.size w w' := by
  by_cases hm0 : m = 0
  · subst hm0
    go_enter Tryz.func66, Tryz.ntmps66
    go_wp2_with fail
    go_ret
    exact ⟨ret_bool (by rw [fltOk_zero]; first | rfl | (rw [Bool.eq_iff_iff]; simp)), (Below.refl _ _).alloc (Nat.le_refl _) _⟩
  have h0 : (m == 0) = false := by simpa using hm0
  by_cases hm : -65535 ≤ m ∧ m ≤ 65535
  · have hb := inR_yes hm.1 hm.2
    obtain ⟨h1, h2⟩ := hm
    by_cases ho : m % 2 = 0
    · have h5 : (m.tmod 2 == 0) = true := tmod2_yes ho
      go_enter Tryz.func66, Tryz.ntmps66
      go_wp2_with (go_at_call 42; refine (s_l1In _ _ _ _).mono ?_; rintro e w' ⟨rfl, rfl⟩)
      go_ret
      exact ⟨ret_bool (fltOk_even hm0 ho).symm, (Below.refl _ _).alloc (Nat.le_refl _) _⟩
    have h5 : (m.tmod 2 == 0) = false := tmod2_no ho
    have HO := Lib.hid ho; have HM := Lib.hid hm0; clear ho hm0
    by_cases h3 : -16 ≤ e ∧ e ≤ 45
    · have hb2 := inR_yes h3.1 h3.2
      obtain ⟨h3a, h3b⟩ := h3
      by_cases h4 : e ≤ 30
      · go_enter Tryz.func66, Tryz.ntmps66
        go_wp2_with (go_at_call 42; refine (s_l1In _ _ _ _).mono ?_; rintro e w' ⟨rfl, rfl⟩)
        go_ret
        exact ⟨ret_bool (fltOk_mid HO.out h1 h2 (by omega) h4).symm, (Below.refl _ _).alloc (Nat.le_refl _) _⟩
      · go_enter Tryz.func66, Tryz.ntmps66
        go_wp2_with (go_at_call 42; refine (s_l1In _ _ _ _).mono ?_; rintro e w' ⟨rfl, rfl⟩)
        go_ret
        exact ⟨ret_bool (by rw [fltOk_up HO.out h1 h2 (by omega) (by omega), decide_eq_false (show ¬ e ≤ 30 by omega)]; rfl), (Below.refl _ _).alloc (Nat.le_refl _) _⟩
    · have hb2 : inR e (-16) 45 = false := inR_no (by omega)
      go_enter Tryz.func66, Tryz.ntmps66
      go_wp2_with (go_at_call 42; refine (s_l1In _ _ _ _).mono ?_; rintro e w' ⟨rfl, rfl⟩)
      go_ret
      refine ⟨ret_bool ?_, (Below.refl _ _).alloc (Nat.le_refl _) _⟩
      by_cases h6 : e < -16
      · exact (fltOk_low HM.out h6).symm
      · exact (fltOk_high HM.out (by omega)).symm
  · have hb : inR m (-65535) 65535 = false := inR_no (by omega)
    go_enter Tryz.func66, Tryz.ntmps66
    go_wp2_with (go_at_call 42; refine (s_l1In _ _ _ _).mono ?_; rintro e w' ⟨rfl, rfl⟩)
    go_ret
    exact ⟨ret_bool (fltOk_far hm0 (by omega)).symm, (Below.refl _ _).alloc (Nat.le_refl _) _⟩
def fltBits (m e : Int) : Int := if fltOk m e = true then 65536 * (e + 16) + (if m < 0 then 16777216 - m else m) else -1
theorem fltBits_no {m e : Int} (h : fltOk m e = false) : fltBits m e = -1 := by unfold fltBits; rw [h]; rfl
theorem fltBits_neg {m e : Int} (h : fltOk m e = true) (hm : m < 0) : fltBits m e = 65536 * (e + 16) + (16777216 - m) := by unfold fltBits; rw [if_pos h, if_pos hm]
theorem fltBits_pos {m e : Int} (h : fltOk m e = true) (hm : ¬ m < 0) : fltBits m e = 65536 * (e + 16) + m := by unfold fltBits; rw [if_pos h, if_neg hm]
theorem fltOk_bounds {m e : Int} (h : fltOk m e = true) : -65535 ≤ m ∧ m ≤ 65535 ∧ -16 ≤ e ∧ e ≤ 45 := by
  unfold fltOk at h
  split at h
  · simp at h; omega
  · simp at h; omega
set_option maxHeartbeats 1000000 in
theorem i_FltBits (m e : Int) (w : World) (hwe : e ≤ 9223372036854775807) :
    Calls Tryz.prog 62 #[.agg #[.int .i64 m, .int .i64 e]] w fun e' w' => e' = .returned (.int .i64 (fltBits m e)) ∧ Below w.heap.size w w' := by
  cases hf : fltOk m e with
  | false =>
    go_enter Tryz.func62, Tryz.ntmps62
    go_wp2_with (go_at_call 81; refine (i_FltOk _ _ _ hwe).mono ?_; rintro e w' ⟨rfl, hb⟩)
    go_ret
    exact ⟨ret_int (fltBits_no hf).symm, hb.boxed⟩
  | true =>
    obtain ⟨h1, h2, h3, h4⟩ := fltOk_bounds hf
    by_cases hm : m < 0
    · go_enter Tryz.func62, Tryz.ntmps62
      go_wp2_with (go_at_call 81; refine (i_FltOk _ _ _ hwe).mono ?_; rintro e w1 ⟨rfl, hb⟩; obtain ⟨hc, hf'⟩ := bcell hb)
      go_ret
      exact ⟨ret_int (by rw [fltBits_neg hf hm]; omega), hb.boxed⟩
    · go_enter Tryz.func62, Tryz.ntmps62
      go_wp2_with (go_at_call 81; refine (i_FltOk _ _ _ hwe).mono ?_; rintro e w1 ⟨rfl, hb⟩; obtain ⟨hc, hf'⟩ := bcell hb)
      go_ret
      exact ⟨ret_int (by rw [fltBits_pos hf (by omega)]; first | done | omega), hb.boxed⟩
set_option maxHeartbeats 1000000 in
theorem s_FltBits (m e : Int) (w : World) (hwe : e ≤ 9223372036854775807) :
    Calls Tryz.prog 44 #[.agg #[.int .i64 m, .int .i64 e]] w fun e' w' => e' = .returned (.int .i64 (fltBits m e)) ∧ Below w.heap.size w w' := by
  cases hf : fltOk m e with
  | false =>
    go_enter Tryz.func44, Tryz.ntmps44
    go_wp2_with (go_at_call 66; refine (s_FltOk _ _ _ hwe).mono ?_; rintro e w' ⟨rfl, hb⟩)
    go_ret
    exact ⟨ret_int (fltBits_no hf).symm, hb.boxed⟩
  | true =>
    obtain ⟨h1, h2, h3, h4⟩ := fltOk_bounds hf
    by_cases hm : m < 0
    · go_enter Tryz.func44, Tryz.ntmps44
      go_wp2_with (go_at_call 66; refine (s_FltOk _ _ _ hwe).mono ?_; rintro e w1 ⟨rfl, hb⟩; obtain ⟨hc, hf'⟩ := bcell hb)
      go_ret
      exact ⟨ret_int (by rw [fltBits_neg hf hm]; omega), hb.boxed⟩
    · go_enter Tryz.func44, Tryz.ntmps44
      go_wp2_with (go_at_call 66; refine (s_FltOk _ _ _ hwe).mono ?_; rintro e w1 ⟨rfl, hb⟩; obtain ⟨hc, hf'⟩ := bcell hb)
      go_ret
      exact ⟨ret_int (by rw [fltBits_pos hf (by omega)]; first | done | omega), hb.boxed⟩
end Go.Proofs.YtmnlkedacnemcaaGreatDoor

namespace Go.Proofs.YtmnlkedacnemcaaGreatDoor
open Go.RowKit

theorem ba_len (s : ByteArray) : s.data.toList.length = s.size := by simp
theorem lit1g (w : World) (g : Nat) (hg : w.heap.size = g) (x : Int) (h : 0 ≤ x ∧ x < 256) : Sl (w.alloc (.cells #[.int .u8 x] 5)) (g + 1) 1 (some ⟨g, 0, none⟩) 1 1 (u8s [UInt8.ofNat x.toNat]) := by subst hg; exact lit1 w x h
theorem numP_len (wd : Bool) (mj n : Int) : (numP wd mj n).length ≤ 9 := headP_len _ _ _ _
theorem Pk.put2 {w w1 : World} {g : Nat} {A A' : Option Addr} {n' c' : Nat} {b' : List UInt8} {v0 : Value} {wd op : Bool} (hb : Blk w g 56 #[v0, .bool wd, .bool op]) (h1 : BS w (g + 1) A' n' c' b') (hw : GP g A A' w1 w) :
    Pk (w.setCell ⟨g, 0, none⟩ (.slice A' n' c')) g A' n' c' b' wd op ∧ GP g A A' w1 (w.setCell ⟨g, 0, none⟩ (.slice A' n' c')) := by
  have hf := (Fr.refl [g] w).setCell (p := ⟨g, 0, none⟩) (by simp) (.slice A' n' c')
  refine ⟨⟨by simpa using hb.set_ 0 (.slice A' n' c'), h1.fr hf fun x hx h2 => ?_⟩, ⟨hw.fr.trans (hf.mono fun x hx => by rw [List.mem_singleton] at hx; subst hx; exact List.mem_cons_self), hw.own⟩⟩
  rw [List.mem_singleton] at h2
  subst h2
  exact Nat.lt_irrefl _ (Nat.lt_of_lt_of_le (Nat.lt_succ_self _) (h1.from_ x hx))
theorem pk_cells {w : World} {g : Nat} {v0 v1 v2 : Value} (h : Blk w g 56 #[v0, v1, v2]) : w.cell? ⟨g, 0, none⟩ = some v0 ∧ w.cell? ⟨g, 1, none⟩ = some v1 ∧ w.cell? ⟨g, 2, none⟩ = some v2 ∧ w.frozen? ⟨g, 0, none⟩ = false := ⟨h.cell 0, h.cell 1, h.cell 2, h.frozen 0⟩
set_option maxHeartbeats 800000 in
theorem i_number (g : Nat) (A : Option Addr) (m c : Nat) (b : List UInt8) (wd op : Bool) (mj n : Int) (w : World) (h : Pk w g A m c b wd op) (hm : m ≤ 137438953472) (hn : n ≤ 9223372036854775807) :
    Calls Tryz.prog 57 #[.pointer (some ⟨g, 0, none⟩), .int .i64 mj, .int .i64 n] w fun r w' => ∃ A' n' c', r = .returned (.tuple #[]) ∧ Pk w' g A' n' c' (b ++ numP wd mj n) wd op ∧ GP g A A' w w' := by
  cases hk : headOk mj n (headWide n)
  · have hF : ∀ w1, Calls Tryz.prog 78 #[.int .i64 mj, .int .i64 n] w1 fun r w' => r = .returned (.agg #[.int .i64 0, .int .i64 0, .int .i64 0]) ∧ Below w1.heap.size w1 w' := fun w1 =>
      (i_HeadFor mj n w1 hn).mono fun r w' ⟨h1, h2⟩ => ⟨by rw [h1, headForV_no rfl hk], h2⟩
    have HP := Lib.hid (show numP wd mj n = [] from by unfold numP headP; rw [hk]; rfl)
    have hne : ((0 : Int) == mj) = false ∨ (((0 : Int) == mj) = true ∧ ((0 : Int) == n) = false) := by
      by_cases h0 : mj = 0
      · right
        refine ⟨by rw [h0]; rfl, ?_⟩
        cases hn0 : ((0 : Int) == n)
        · rfl
        · have hn1 : (0 : Int) = n := eq_of_beq hn0
          exact absurd hk (by rw [h0, ← hn1]; decide)
      · left
        cases hq : ((0 : Int) == mj)
        · rfl
        · exact absurd (eq_of_beq hq).symm h0
    clear hk
    rcases hne with hne | ⟨hne, hne2⟩
    all_goals
      go_enter Tryz.func57, Tryz.ntmps57
      go_wp2_with (go_at_call 78; refine (hF _).mono ?_; rintro r w1 ⟨rfl, hb1⟩)
      refine bodyPost_end (results_none Tryz.results57 _ _ _) rfl ?_
      have hk := hb1.up (Below.one w1 (.cells #[.int .i64 0, .int .i64 0, .int .i64 0] 60))
      exact ⟨_, _, _, rfl, by rw [HP.out, List.append_nil]; exact h.below hk, GP.of_below hk⟩
  · have hF : ∀ w1, Calls Tryz.prog 78 #[.int .i64 mj, .int .i64 n] w1 fun r w' => r = .returned (.agg #[.int .i64 mj, .int .i64 n, .int .i64 (headWide n)]) ∧ Below w1.heap.size w1 w' := fun w1 =>
      (i_HeadFor mj n w1 hn).mono fun r w' ⟨h1, h2⟩ => ⟨by rw [h1, headForV_yes rfl hk], h2⟩
    clear hk
    go_enter Tryz.func57, Tryz.ntmps57
    go_wp2_with (first
      | (go_at_call 78; refine (hF _).mono ?_; rintro r w1 ⟨rfl, hb1⟩; have hk := hb1.up (Below.one w1 (.cells #[.int .i64 mj, .int .i64 n, .int .i64 (headWide n)] 60)))
      | (go_at_call 60; refine (i_head g A m c b wd op mj n _ _ (h.below hk) hm hn).mono ?_; rintro r w2 ⟨A2, n2, c2, rfl, h2, hg2⟩))
    refine bodyPost_end (results_none Tryz.results57 _ _ _) rfl ?_
    exact ⟨_, _, _, rfl, h2, (GP.of_below hk).trans hg2⟩
def textP (wd op : Bool) (mj : Int) (s : ByteArray) : List UInt8 :=
  if op = true then (if s.size = 0 then headP wd mj 0 (-1) ++ [255] else headP wd mj 0 (-1) ++ (numP wd mj s.size ++ s.data.toList) ++ [255]) else numP wd mj s.size ++ s.data.toList
set_option maxHeartbeats 1600000 in
theorem i_text (g : Nat) (A : Option Addr) (m c : Nat) (b : List UInt8) (wd op : Bool) (mj : Int) (s : ByteArray) (w : World) (h : Pk w g A m c b wd op) (hm : m ≤ 68719476736) (hs : s.size ≤ 68719476736) :
    Calls Tryz.prog 58 #[.pointer (some ⟨g, 0, none⟩), .int .i64 mj, .string s] w fun r w' => ∃ A' n' c', r = .returned (.tuple #[]) ∧ Pk w' g A' n' c' (b ++ textP wd op mj s) wd op ∧ GP g A A' w w' := by
  have hlen := h.own.len
  have hl9 := numP_len wd mj s.size
  have hh9 := headP_len wd mj 0 (-1)
  have g0 := GP.refl g A w
  obtain ⟨q0, q1, q2, q3⟩ := h.cells
  cases op
  · have HP := Lib.hid (show textP wd false mj s = numP wd mj s.size ++ s.data.toList from if_neg (by simp))
    go_enter Tryz.func58, Tryz.ntmps58
    go_wp2_with (first
      | (go_at_call 57; refine (i_number g _ _ _ _ _ _ mj (s.size : Nat) _ h (by omega) (by omega)).mono ?_; rintro r w1 ⟨A1, n1, c1, rfl, h1, hg1⟩; have g1 := g0.trans hg1; have l1 := h1.own.len; simp only [List.length_append] at l1; obtain ⟨q0, q1, q2, q3⟩ := h1.cells)
      | (at_builtin; refine app_strg rfl _ _ rfl h1.own rfl rfl (by omega) h1.lt ?_; intro A2 c2 w2 h2 hg2; have B2 := hg2.blk h1.blk h1.notin; have g2 := g1.trans (GP.of_gr hg2); obtain ⟨q0, q1, q2, q3⟩ := pk_cells B2))
    refine bodyPost_ret (results_none Tryz.results58 _ _ _) rfl ?_
    obtain ⟨r1, r2⟩ := Pk.put2 B2 h2 g2
    exact ⟨_, _, _, rfl, by rw [HP.out, ← List.append_assoc]; exact r1, r2⟩
  · by_cases h0 : s.size = 0
    · have HP := Lib.hid (show textP wd true mj s = headP wd mj 0 (-1) ++ [255] from by unfold textP; rw [if_pos rfl, if_pos h0])
      have hs0 : s = ⟨#[]⟩ := by
        apply ByteArray.ext
        exact Array.eq_empty_of_size_eq_zero h0
      subst hs0
      go_enter Tryz.func58, Tryz.ntmps58
      go_wp2_with (first
        | (go_at_call 60; refine (i_head g _ _ _ _ _ _ mj 0 (-1) _ h (by omega) (by omega)).mono ?_; rintro r w1 ⟨A1, n1, c1, rfl, h1, hg1⟩; have g1 := g0.trans hg1; have l1 := h1.own.len; simp only [List.length_append] at l1; obtain ⟨q0, q1, q2, q3⟩ := h1.cells)
        | (at_builtin; refine app_u8g rfl _ _ rfl (h1.own.alloc _) rfl (lit1g _ _ (by first | rfl | exact size_setCell _ _ _) _ (by decide)) rfl (by omega) (Nat.le_trans h1.lt (Below.one _ _).size) ?_; intro A2 c2 w2 h2 hg2; have B2 := hg2.blk (h1.blk.alloc _) h1.notin; have g2 := (g1.trans (GP.of_below (Below.one _ _))).trans (GP.of_gr hg2); obtain ⟨q0, q1, q2, q3⟩ := pk_cells B2))
      refine bodyPost_end (results_none Tryz.results58 _ _ _) rfl ?_
      obtain ⟨r1, r2⟩ := Pk.put2 B2 h2 g2
      exact ⟨_, _, _, rfl, by rw [HP.out, ← List.append_assoc]; exact r1, r2⟩
    · have HP := Lib.hid (show textP wd true mj s = headP wd mj 0 (-1) ++ (numP wd mj s.size ++ s.data.toList) ++ [255] from by unfold textP; rw [if_pos rfl, if_neg h0])
      have hne : s.toList.isEmpty = false := by
        rw [ByteArray.toList_eq]
        cases hx : s.data.toList.isEmpty
        · rfl
        · exact absurd (by rw [← ba_len, List.isEmpty_iff.1 hx]; rfl) h0
      go_enter Tryz.func58, Tryz.ntmps58
      go_wp2_with (first
        | (go_at_call 60; refine (i_head g _ _ _ _ _ _ mj 0 (-1) _ h (by omega) (by omega)).mono ?_; rintro r w1 ⟨A1, n1, c1, rfl, h1, hg1⟩; have g1 := g0.trans hg1; have l1 := h1.own.len; simp only [List.length_append] at l1; obtain ⟨q0, q1, q2, q3⟩ := h1.cells)
        | (go_at_call 57; refine (i_number g _ _ _ _ _ _ mj (s.size : Nat) _ h1 (by omega) (by omega)).mono ?_; rintro r w2 ⟨A2, n2, c2, rfl, h2, hg2⟩; have g2 := g1.trans hg2; have l2 := h2.own.len; simp only [List.length_append] at l2; obtain ⟨q0, q1, q2, q3⟩ := h2.cells)
        | (at_builtin; refine app_strg rfl _ _ rfl h2.own rfl rfl (by omega) h2.lt ?_; intro A3 c3 w3 h3 hg3; have B3 := hg3.blk h2.blk h2.notin; have g3 := g2.trans (GP.of_gr hg3); obtain ⟨q0, q1, q2, q3⟩ := pk_cells B3; have hx := Pk.put2 B3 h3 g3; have h4 := hx.1; have g4 := hx.2; have l4 := h4.own.len; simp only [List.length_append, ba_len] at l4; obtain ⟨q0, q1, q2, q3⟩ := h4.cells)
        | (at_builtin; refine app_u8g rfl _ _ rfl (h4.own.alloc _) rfl (lit1g _ _ (by first | rfl | exact size_setCell _ _ _) _ (by decide)) rfl (by omega) (Nat.le_trans h4.lt (Below.one _ _).size) ?_; intro A5 c5 w5 h5 hg5; have B5 := hg5.blk (h4.blk.alloc _) h4.notin; have g5 := (g4.trans (GP.of_below (Below.one _ _))).trans (GP.of_gr hg5); obtain ⟨q0, q1, q2, q3⟩ := pk_cells B5))
      refine bodyPost_end (results_none Tryz.results58 _ _ _) rfl ?_
      obtain ⟨r1, r2⟩ := Pk.put2 B5 h5 g5
      have r3 : Pk _ g _ _ _ (b ++ headP wd mj 0 (-1) ++ numP wd mj s.size ++ s.data.toList ++ [255]) wd true := r1
      exact ⟨_, _, _, rfl, by rw [HP.out]; simpa only [List.append_assoc] using r3, r2⟩
end Go.Proofs.YtmnlkedacnemcaaGreatDoor
