/- The law on the bits of halves: FnBits. -/
import Derived.Test.YtpafgmlkbbbmhaaMuM18
set_option linter.unusedVariables false
set_option maxRecDepth 100000
set_option linter.unusedSimpArgs false
namespace Go.Proofs.Ytpafgmlkbbbmhaa
open Go.RowKit

theorem fltV_inj {a b a2 b2 : Int} {o o2 : Bool} (h : fltV a b o = fltV a2 b2 o2) : a = a2 ∧ b = b2 ∧ o = o2 := by
  simp [fltV] at h; exact ⟨h.1.1, h.1.2, h.2⟩
theorem fltNewV_ok {m e a b : Int} (h : fltNewV m e = fltV a b true) : fltOk a b = true := by
  unfold fltNewV fltNewIn at h
  split at h
  · split at h
    · obtain ⟨rfl, rfl, _⟩ := fltV_inj h; rfl
    · split at h
      · rename_i hk; obtain ⟨rfl, rfl, _⟩ := fltV_inj h; exact hk
      · exact absurd (fltV_inj h).2.2 (by decide)
  · exact absurd (fltV_inj h).2.2 (by decide)
theorem bitsFltV_ok {n a b : Int} (h : bitsFltV n = fltV a b true) : fltOk a b = true := by
  unfold bitsFltV at h
  split at h
  · exact fltNewV_ok h
  · exact absurd (fltV_inj h).2.2 (by decide)
theorem flt_odd {a e : Int} (h : fltOk a e = true) (h0 : a ≠ 0) : (a.tmod 2 == 0) = false := by
  unfold fltOk at h
  rw [if_neg h0, decide_eq_true_eq] at h
  have := tmod2 a
  simp only [beq_eq_false_iff_ne, ne_eq]
  intro h2
  exact h.1 (this.1 h2)
theorem bits_back {a e : Int} (h : fltOk a e = true) : bitsFltV (fltBits a e) = fltV a e true ∧ 0 ≤ fltBits a e ∧ fltBits a e < 33554432 := by
  obtain ⟨h1, h2, h3, h4⟩ := fltOk_bounds h
  rcases Int.lt_trichotomy a 0 with ha | ha | ha
  · rw [fltBits_neg h ha]
    refine ⟨?_, by omega, by omega⟩
    rw [bitsFltV_neg (by omega) (by omega), show -((65536 * (e + 16) + (16777216 - a)) % 65536) = a by omega, show (65536 * (e + 16) + (16777216 - a)) / 65536 % 256 - 16 = e by omega]
    exact fltNewV_yes ⟨by omega, by omega⟩ (by omega) (strip_odd (flt_odd h (by omega))) h
  · subst ha
    have he : e = 0 := by simpa [fltOk] using h
    subst he
    have hb : fltBits 0 0 = 1048576 := by decide
    rw [hb]
    refine ⟨?_, by decide, by decide⟩
    rw [bitsFltV_pos (by decide) (by decide)]
    exact fltNewV_zero (by decide)
  · rw [fltBits_pos h (by omega)]
    refine ⟨?_, by omega, by omega⟩
    rw [bitsFltV_pos (by omega) (by omega), show (65536 * (e + 16) + a) % 65536 = a by omega, show (65536 * (e + 16) + a) / 65536 % 256 - 16 = e by omega]
    exact fltNewV_yes ⟨by omega, by omega⟩ (by omega) (strip_odd (flt_odd h (by omega))) h
theorem l_big (A : Option Addr) (n c : Nat) (w : World) (hn : n ≤ 9223372036854775807) :
    Calls Try.prog 4 #[.slice A n c] w fun e w' => e = .returned (.bool (decide (1048576 < n))) ∧ w = w' := by
  by_cases h : 1048576 < n
  · have hi : (1048576 : Int) < (n : Int) := by omega
    go_enter Try.func4, Try.ntmps4
    go_wp2_with fail
    go_ret
    exact ⟨by simp [h], rfl⟩
  · have hi : ¬ (1048576 : Int) < (n : Int) := by omega
    go_enter Try.func4, Try.ntmps4
    go_wp2_with fail
    go_ret
    exact ⟨by simp [h], rfl⟩
end Go.Proofs.Ytpafgmlkbbbmhaa
