/- The law on the bits of halves: FnBits. -/
import Derived.Test.YtnfeplbdipajaaaCurNum
set_option linter.unusedVariables false
set_option maxRecDepth 100000
set_option linter.unusedSimpArgs false
namespace Go.Proofs.Ytnfeplbdipajaaa
open Go.RowKit

theorem fltV_inj {a b a2 b2 : Int} {o o2 : Bool} (h : fltV a b o = fltV a2 b2 o2) : a = a2 ∧ b = b2 ∧ o = o2 := by
  simp [fltV] at h; exact ⟨h.1.1, h.1.2, h.2⟩
theorem fltNewV_ok {m e a b : Int} (h : fltNewV m e = fltV a b true) : fltOk a b = true := by
  unfold fltNewV fltNewIn at h
  split at h
  · split at h
    · obtain ⟨rfl, rfl, _⟩ := fltV_inj h; rfl
    · split at h
      · rename_i hk; obtain ⟨rfl, rfl, _⟩ := fltV_inj h; exact hk
      · exact absurd (fltV_inj h).2.2 (by decide)
  · exact absurd (fltV_inj h).2.2 (by decide)
theorem bitsFltV_ok {n a b : Int} (h : bitsFltV n = fltV a b true) : fltOk a b = true := by
  unfold bitsFltV at h
  split at h
  · exact fltNewV_ok h
  · exact absurd (fltV_inj h).2.2 (by decide)
theorem flt_odd {a e : Int} (h : fltOk a e = true) (h0 : a ≠ 0) : (a.tmod 2 == 0) = false := by
  unfold fltOk at h
  rw [if_neg h0, decide_eq_true_eq] at h
  have := tmod2 a
  simp only [beq_eq_false_iff_ne, ne_eq]
  intro h2
  exact h.1 (this.1 h2)
theorem bits_back {a e : Int} (h : fltOk a e = true) : bitsFltV (fltBits a e) = fltV a e true ∧ 0 ≤ fltBits a e ∧ fltBits a e < 33554432 := by
  obtain ⟨h1, h2, h3, h4⟩ := fltOk_bounds h
  rcases Int.lt_trichotomy a 0 with ha | ha | ha
  · rw [fltBits_neg h ha]
    refine ⟨?_, by omega, by omega⟩
    rw [bitsFltV_neg (by omega) (by omega), show -((65536 * (e + 16) + (16777216 - a)) % 65536) = a by omega, show (65536 * (e + 16) + (16777216 - a)) / 65536 % 256 - 16 = e by omega]
    exact fltNewV_yes ⟨by omega, by omega⟩ (by omega) (strip_odd (flt_odd h (by omega))) h
  · subst ha
    have he : e = 0 := by simpa [fltOk] using h
    subst he
    have hb : fltBits 0 0 = 1048576 := by decide
    rw [hb]
    refine ⟨?_, by decide, by decide⟩
    rw [bitsFltV_pos (by decide) (by decide)]
    exact fltNewV_zero (by decide)
  · rw [fltBits_pos h (by omega)]
    refine ⟨?_, by omega, by omega⟩
    rw [bitsFltV_pos (by omega) (by omega), show (65536 * (e + 16) + a) % 65536 = a by omega, show (65536 * (e + 16) + a) / 65536 % 256 - 16 = e by omega]
    exact fltNewV_yes ⟨by omega, by omega⟩ (by omega) (strip_odd (flt_odd h (by omega))) h
theorem l_big (A : Option Addr) (n c : Nat) (w : World) (hn : n ≤ 9223372036854775807) :
    Calls Try.prog 8 #[.slice A n c] w fun e w' => e = .returned (.bool (decide (1048576 < n))) ∧ w = w' := by
  by_cases h : 1048576 < n
  · have hi : (1048576 : Int) < (n : Int) := by omega
    go_enter Try.func8, Try.ntmps8
    go_wp2_with fail
    go_ret
    exact ⟨by simp [h], rfl⟩
  · have hi : ¬ (1048576 : Int) < (n : Int) := by omega
    go_enter Try.func8, Try.ntmps8
    go_wp2_with fail
    go_ret
    exact ⟨by simp [h], rfl⟩
set_option maxHeartbeats 2000000 in
theorem law_FnBits (A : Option Addr) (n c : Nat) (b : List UInt8) (w : World) (h : Sl w w.heap.size 1 A n c (u8s b)) :
    Calls Try.prog 3 #[.slice A n c] w fun e' w' => e' = .returned (.bool true) ∧ Below w.heap.size w w' := by
  have hn9 : n ≤ 9223372036854775807 := by have := h.cap; have := h.max; unfold maxLen at *; omega
  have hbig := fun w1 => l_big A n c w1 hn9
  by_cases hn : 1048576 < n
  · rw [decide_eq_true hn] at hbig
    go_enter Try.func3, Try.ntmps3
    go_wp2_with (go_at_call 8; refine (hbig _).mono ?_; rintro e w1 ⟨rfl, rfl⟩)
    go_ret
    exact ⟨rfl, Below.refl _ _⟩
  · rw [decide_eq_false hn] at hbig
    go_enter Try.func3, Try.ntmps3
    go_wp2_with (go_at_call 8; refine (hbig _).mono ?_; rintro e w1 ⟨rfl, rfl⟩)
    refine (s_DrawFltBits A n c b _ h (by omega)).mono ?_; rintro e w1 ⟨m, e0, rfl, he, hb1⟩
    have k1 := hb1.up (Below.one w1 (.cells #[.int .i64 m, .int .i64 e0] 25))
    have B1 := Blk.new w1 25 #[.int .i64 m, .int .i64 e0]
    go_wp2_with fail
    refine (s_DrawBitsFlt A n c b _ ((h.below k1).more k1.size) (by omega)).mono ?_; rintro e w2 ⟨n0, rfl, hb2⟩
    have k2 := k1.up hb2
    have B2 := B1.below hb2 B1.lt
    obtain ⟨a1, e1, ok, hv⟩ := bitsFltV_shape n0
    have hI := fun w => i_BitsFlt n0 w
    have hS := fun w => s_BitsFlt n0 w
    simp only [hv, fltV] at hI hS
    go_wp2_with fail
    refine (hI _).mono ?_; rintro e w3 ⟨rfl, hb3⟩
    have k3 := (k2.up hb3).up (Below.one w3 (.cells #[.int .i64 a1, .int .i64 e1] 25))
    have B3 := (B2.below hb3 B2.lt).alloc (.cells #[.int .i64 a1, .int .i64 e1] 25)
    have G3 := Blk.new w3 25 #[.int .i64 a1, .int .i64 e1]
    go_wp2_with fail
    refine (hS _).mono ?_; rintro e w4 ⟨rfl, hb4⟩
    have k4 := (k3.up hb4).up (Below.one w4 (.cells #[.int .i64 a1, .int .i64 e1] 25))
    have B4 := (B3.below hb4 B3.lt).alloc (.cells #[.int .i64 a1, .int .i64 e1] 25)
    have G4 := (G3.below hb4 G3.lt).alloc (.cells #[.int .i64 a1, .int .i64 e1] 25)
    have H4 := Blk.new w4 25 #[.int .i64 a1, .int .i64 e1]
    have hc := fun (w' : World) (hb : Below (w4.alloc (.cells #[.int .i64 a1, .int .i64 e1] 25)).heap.size (w4.alloc (.cells #[.int .i64 a1, .int .i64 e1] 25)) w') => (show (w'.cell? ⟨w1.heap.size, 0, none⟩ = some (.int .i64 m) ∧ w'.cell? ⟨w1.heap.size, 1, none⟩ = some (.int .i64 e0)) ∧ (w'.cell? ⟨w3.heap.size, 0, none⟩ = some (.int .i64 a1) ∧ w'.cell? ⟨w3.heap.size, 1, none⟩ = some (.int .i64 e1)) ∧ w'.cell? ⟨w4.heap.size, 0, none⟩ = some (.int .i64 a1) ∧ w'.cell? ⟨w4.heap.size, 1, none⟩ = some (.int .i64 e1)
      from ⟨⟨(B4.below hb B4.lt).cell 0, (B4.below hb B4.lt).cell 1⟩, ⟨(G4.below hb G4.lt).cell 0, (G4.below hb G4.lt).cell 1⟩, (H4.below hb H4.lt).cell 0, (H4.below hb H4.lt).cell 1⟩)
    obtain ⟨⟨c0, c1⟩, ⟨d0, d1⟩, f0, f1⟩ := hc _ (Below.refl _ _)
    clear hb1 hb2 hb3 hb4 B1 B2 B3 G3 hI hS k1 k2 k3 h
    go_wp2_with fail
    refine (i_FltBits m e0 _ he).mono ?_; rintro e w5 ⟨rfl, hb5⟩
    obtain ⟨⟨c0, c1⟩, ⟨d0, d1⟩, f0, f1⟩ := hc _ hb5
    go_wp2_with fail
    refine (s_FltBits m e0 _ he).mono ?_; rintro e w6 ⟨rfl, hb6⟩
    have k6 := hb5.up hb6
    obtain ⟨⟨c0, c1⟩, ⟨d0, d1⟩, f0, f1⟩ := hc _ k6
    have hF := fun w => i_FltOk m e0 w he
    cases ok
    · go_wp2_with fail
      cases hfo : fltOk m e0
      · rw [hfo] at hF
        have hbn := fltBits_no hfo
        refine (hF _).mono ?_; rintro e w7 ⟨rfl, hb7⟩
        have k7 := k6.up hb7
        go_wp2_with fail
        go_ret
        exact ⟨rfl, k4.up k7⟩
      · rw [hfo] at hF
        obtain ⟨hbk, hb0, hb1⟩ := bits_back hfo
        have hI := fun w => i_BitsFlt (fltBits m e0) w
        simp only [hbk, fltV] at hI
        refine (hF _).mono ?_; rintro e w7 ⟨rfl, hb7⟩
        have k7 := k6.up hb7
        go_wp2_with fail
        refine (hI _).mono ?_; rintro e w8 ⟨rfl, hb8⟩
        have k8 := (k7.up hb8).up (Below.one w8 (.cells #[.int .i64 m, .int .i64 e0] 25))
        obtain ⟨⟨c0, c1⟩, ⟨d0, d1⟩, f0, f1⟩ := hc _ k8
        clear hbk
        go_wp2_with fail
        go_ret
        exact ⟨rfl, k4.up k8⟩
    · have hko := bitsFltV_ok hv
      have hke := (fltOk_bounds hko).2.2.2
      have hG := fun w => i_FltOk a1 e1 w (by omega)
      rw [hko] at hG
      go_wp2_with fail
      refine (hG _).mono ?_; rintro e w6a ⟨rfl, hb6a⟩
      have k6a := k6.up hb6a
      obtain ⟨⟨c0, c1⟩, ⟨d0, d1⟩, f0, f1⟩ := hc _ k6a
      go_wp2_with fail
      cases hfo : fltOk m e0
      · rw [hfo] at hF
        have hbn := fltBits_no hfo
        refine (hF _).mono ?_; rintro e w7 ⟨rfl, hb7⟩
        have k7 := k6a.up hb7
        go_wp2_with fail
        go_ret
        exact ⟨rfl, k4.up k7⟩
      · rw [hfo] at hF
        obtain ⟨hbk, hb0, hb1⟩ := bits_back hfo
        have hI := fun w => i_BitsFlt (fltBits m e0) w
        simp only [hbk, fltV] at hI
        refine (hF _).mono ?_; rintro e w7 ⟨rfl, hb7⟩
        have k7 := k6a.up hb7
        go_wp2_with fail
        refine (hI _).mono ?_; rintro e w8 ⟨rfl, hb8⟩
        have k8 := (k7.up hb8).up (Below.one w8 (.cells #[.int .i64 m, .int .i64 e0] 25))
        obtain ⟨⟨c0, c1⟩, ⟨d0, d1⟩, f0, f1⟩ := hc _ k8
        clear hbk
        go_wp2_with fail
        go_ret
        exact ⟨rfl, k4.up k8⟩
end Go.Proofs.Ytnfeplbdipajaaa
