/- The cursor over a code: what it draws lies in bounds. impl.Flt and spec.Flt: valid numbers, bits. -/
import Derived.Test.YtihhedmehlemmaaMkM4
import Derived.Deep.QuietTactic
import Derived.BigQuiet
import Derived.Test.YtihhedmehlemmaaMkM0
set_option linter.unusedVariables false
set_option maxRecDepth 100000
set_option linter.unusedSimpArgs false
namespace Go.Proofs.Ytihhedmehlemmaa
open Go.RowKit

theorem and_255 (y : Int) : 0 ≤ bits .and .i64 y 255 ∧ bits .and .i64 y 255 ≤ 255 := by
  have h : bits .and .i64 y 255 = IntKind.i64.wrap ((BitVec.ofInt 64 y &&& BitVec.ofInt 64 255).toNat : Int) := rfl
  have h2 : (BitVec.ofInt 64 y &&& BitVec.ofInt 64 255).toNat ≤ 255 := by
    rw [BitVec.toNat_and]
    exact Nat.le_trans Nat.and_le_right (by decide)
  rw [h, IntKind.wrap_i64]
  omega
/-- A cursor in block g over the bytes b, which lie below B. -/
def Cur (w : World) (B g : Nat) (A : Option Addr) (n c : Nat) (b : List UInt8) : Prop :=
  B ≤ g ∧ n ≤ 1048576 ∧ Sl w B 1 A n c (u8s b) ∧ ∃ (i : Nat) (h : Int), i ≤ n ∧ Blk w g 88 #[.slice A n c, .int .i64 i, .int .i64 h]
section
variable {w w' : World} {B g n c : Nat} {A : Option Addr} {b : List UInt8}
theorem Cur.lt (h : Cur w B g A n c b) : g < w.heap.size := by
  obtain ⟨_, _, _, i, x, _, hb⟩ := h
  exact hb.lt
theorem Cur.below (h : Cur w B g A n c b) (hb : Below w.heap.size w w') : Cur w' B g A n c b := by
  have hl := h.lt
  obtain ⟨h1, h2, h3, i, x, h4, h5⟩ := h
  exact ⟨h1, h2, h3.below (hb.mono (by omega)), i, x, h4, h5.below hb hl⟩
end
set_option maxHeartbeats 1000000 in
theorem s_l1Byte (B g n c : Nat) (A : Option Addr) (b : List UInt8) (w : World) (h : Cur w B g A n c b) :
    Calls Try.prog 78 #[.pointer (some ⟨g, 0, none⟩)] w fun r w' => ∃ x : Int, r = .returned (.int .i64 x) ∧ (0 ≤ x ∧ x ≤ 255) ∧ Cur w' B g A n c b ∧ Fr [g] w w' := by
  obtain ⟨h1, h2, h3, i, y, h4, h5⟩ := h
  obtain ⟨c0, c1, c2⟩ : w.cell? ⟨g, 0, none⟩ = some (.slice A n c) ∧ w.cell? ⟨g, 1, none⟩ = some (.int .i64 i) ∧ w.cell? ⟨g, 2, none⟩ = some (.int .i64 y) := ⟨h5.cell 0, h5.cell 1, h5.cell 2⟩
  have f0 := h5.frozen 0
  have f1 := h5.frozen 1
  have f2 := h5.frozen 2
  have hlt := h5.lt
  have H1 : ∀ v : Int, Blk (w.setCell ⟨g, 2, none⟩ (.int .i64 v)) g 88 #[.slice A n c, .int .i64 i, .int .i64 v] := fun v => by simpa using h5.set_ 2 (.int .i64 v)
  have F1 : ∀ v : Int, Fr [g] w (w.setCell ⟨g, 2, none⟩ (.int .i64 v)) := fun v => (Fr.refl _ _).setCell (by simp) _
  have S1 : ∀ v : Int, Sl (w.setCell ⟨g, 2, none⟩ (.int .i64 v)) B 1 A n c (u8s b) := fun v => h3.setCell h1 _
  by_cases hi : i < n
  · obtain ⟨g2, o, rfl, hg2, hb, hc⟩ := h3.byte hi
    have hne : g2 ≠ g := by omega
    have hne2 : g ≠ g2 := by omega
    have H2 : ∀ v u : Int, Blk ((w.setCell ⟨g, 2, none⟩ (.int .i64 v)).setCell ⟨g, 1, none⟩ (.int .i64 u)) g 88 #[.slice (some ⟨g2, o, none⟩) n c, .int .i64 u, .int .i64 v] := fun v u => by simpa using (H1 v).set_ 1 (.int .i64 u)
    go_enter Try.func78, Try.ntmps78
    go_wp2_with fail
    go_quiet (fail)
    go_wp2_with fail
    go_quiet (fail)
    go_wp2_with fail
    go_quiet (fail)
    go_wp2_with fail
    go_ret
    exact ⟨_, rfl, and_255 _, ⟨h1, h2, ((S1 _).drewN _).setCell h1 _, i + 1, wrap64 (wrap64 (y * 6364136223846793005) + 1442695040888963407), by omega, by simpa using ((H1 _).drewN _).set_ 1 (.int .i64 ((i : Int) + 1))⟩, ((F1 _).drewN _).setCell (by simp) _⟩
  · go_enter Try.func78, Try.ntmps78
    go_wp2_with fail
    go_quiet (fail)
    go_wp2_with fail
    go_quiet (fail)
    go_wp2_with fail
    go_ret
    exact ⟨_, rfl, and_255 _, ⟨h1, h2, ((S1 _).drewN _).drewN _, i, wrap64 (wrap64 (y * 6364136223846793005) + 1442695040888963407), h4, ((H1 _).drewN _).drewN _⟩, ((F1 _).drewN _).drewN _⟩
/-- What is drawn below m. -/
def InBelow (x m : Int) : Prop := (m ≤ 0 → x = 0) ∧ (0 < m → 0 ≤ x ∧ x < m)
set_option maxHeartbeats 1000000 in
theorem s_l1Below (B g n c : Nat) (A : Option Addr) (b : List UInt8) (m : Int) (w : World) (h : Cur w B g A n c b) (hm : m ≤ 9223372036854775807) :
    Calls Try.prog 40 #[.pointer (some ⟨g, 0, none⟩), .int .i64 m] w fun r w' => ∃ x : Int, r = .returned (.int .i64 x) ∧ InBelow x m ∧ Cur w' B g A n c b ∧ Fr [g] w w' := by
  by_cases h0 : m ≤ 0
  · go_enter Try.func40, Try.ntmps40
    go_wp2_with fail
    go_ret
    exact ⟨0, rfl, ⟨fun _ => rfl, fun h => by omega⟩, h, Fr.refl _ _⟩
  · have hm0 : ¬ m = 0 := by omega
    have hmz : (m == 0) = false := by simp; omega
    by_cases h1 : m ≤ 256
    · go_enter Try.func40, Try.ntmps40
      go_wp2_with (go_at_call 78; refine (s_l1Byte B g n c A b _ h).mono ?_; rintro r w1 ⟨x, rfl, hx, hC, hf⟩)
      go_ret
      exact ⟨_, rfl, ⟨fun h => by omega, fun h => ⟨Int.emod_nonneg _ (by omega), Int.emod_lt_of_pos _ h⟩⟩, hC, hf⟩
    · go_enter Try.func40, Try.ntmps40
      go_wp2_with fail
      refine (s_l1Byte B g n c A b _ h).mono ?_; rintro r w1 ⟨x, rfl, hx, hC1, hf1⟩
      go_wp2_with fail
      refine (s_l1Byte B g n c A b _ hC1).mono ?_; rintro r w2 ⟨y, rfl, hy, hC2, hf2⟩
      go_wp2_with fail
      refine (s_l1Byte B g n c A b _ hC2).mono ?_; rintro r w3 ⟨z, rfl, hz, hC3, hf3⟩
      go_wp2_with fail
      go_ret
      exact ⟨_, rfl, ⟨fun h => by omega, fun h => ⟨Int.emod_nonneg _ (by omega), Int.emod_lt_of_pos _ h⟩⟩, hC3, (hf1.trans hf2).trans hf3⟩
theorem s_l1Once (B g n c : Nat) (A : Option Addr) (b : List UInt8) (m : Int) (w : World) (h : Cur w B g A n c b) (hm : m ≤ 9223372036854775807) :
    Calls Try.prog 60 #[.pointer (some ⟨g, 0, none⟩), .int .i64 m] w fun r w' => ∃ x : Bool, r = .returned (.bool x) ∧ Cur w' B g A n c b ∧ Fr [g] w w' := by
  go_enter Try.func60, Try.ntmps60
  go_wp2_with (go_at_call 40; refine (s_l1Below B g n c A b m _ h hm).mono ?_; rintro r w1 ⟨x, rfl, hx, hC, hf⟩)
  go_ret
  exact ⟨_, rfl, hC, hf⟩
/-- One of the numbers of a list; the list lies in memory of its own, below the world's end. -/
theorem s_l1Int (B g n c : Nat) (A : Option Addr) (b : List UInt8) (A2 : Option Addr) (m c2 : Nat) (l : List Int) (w : World) (h : Cur w B g A n c b) (hl : Sl w w.heap.size 1 A2 m c2 (i64s l)) (hg : ∀ x ∈ blkOf A2, x ≠ g) (hm : 0 < m) :
    Calls Try.prog 46 #[.pointer (some ⟨g, 0, none⟩), .slice A2 m c2] w fun r w' => ∃ x : Int, r = .returned (.int .i64 x) ∧ x ∈ l ∧ Cur w' B g A n c b ∧ Fr [g] w w' := by
  have hm9 : (m : Int) ≤ 9223372036854775807 := by have := hl.cap; have := hl.max; unfold maxLen at *; omega
  have hll : l.length = m := by have := hl.len; simp [i64s] at this; omega
  go_enter Try.func46, Try.ntmps46
  go_wp2_with (go_at_call 40; refine (s_l1Below B g n c A b m _ h hm9).mono ?_; rintro r w1 ⟨x, rfl, hx, hC, hf⟩; obtain ⟨hx0, hx1⟩ := hx.2 (by omega); obtain ⟨k, rfl⟩ := Int.eq_ofNat_of_zero_le hx0; obtain ⟨g2, o, rfl, hg2, hb2, hc⟩ := hl.int (k := k) (by omega); have hc1 := (World.cell?_of_block (w := w) (w' := w1) (a := ⟨g2, o + k, none⟩) (hf.block g2 hg2 (by simpa using hg g2 (by simp [blkOf])))).trans hc)
  go_ret
  exact ⟨_, rfl, List.getElem_mem _, hC, hf⟩
end Go.Proofs.Ytihhedmehlemmaa

namespace Go.Proofs.Ytihhedmehlemmaa
open Go.RowKit

/-- A floating-point number is valid. -/
def fltOk (m e : Int) : Bool :=
  if m = 0 then decide (e = 0) else decide (m % 2 ≠ 0 ∧ -65535 ≤ m ∧ m ≤ 65535 ∧ -16 ≤ e ∧ (e ≤ 30 ∨ (e ≤ 45 ∧ -65535 ≤ m * 2 ^ (e - 30).toNat ∧ m * 2 ^ (e - 30).toNat ≤ 65535)))

theorem tmod2 (m : Int) : m.tmod 2 = 0 ↔ m % 2 = 0 := by
  rw [← Int.dvd_iff_tmod_eq_zero, Int.dvd_iff_emod_eq_zero]
theorem tmod2_yes {m : Int} (h : m % 2 = 0) : (m.tmod 2 == 0) = true := by rw [beq_iff_eq]; exact (tmod2 m).2 h
theorem tmod2_no {m : Int} (h : ¬ m % 2 = 0) : (m.tmod 2 == 0) = false := by rw [beq_eq_false_iff_ne]; exact fun e => h ((tmod2 m).1 e)
theorem pow_bd {k : Nat} (h : k ≤ 16) : (1 : Int) ≤ 2 ^ k ∧ (2 : Int) ^ k ≤ 65536 := by
  have : k = 0 ∨ k = 1 ∨ k = 2 ∨ k = 3 ∨ k = 4 ∨ k = 5 ∨ k = 6 ∨ k = 7 ∨ k = 8 ∨ k = 9 ∨ k = 10 ∨ k = 11 ∨ k = 12 ∨ k = 13 ∨ k = 14 ∨ k = 15 ∨ k = 16 := by omega
  rcases this with rfl | rfl | rfl | rfl | rfl | rfl | rfl | rfl | rfl | rfl | rfl | rfl | rfl | rfl | rfl | rfl | rfl <;> decide
theorem mul_bd {m p : Int} (h1 : -65535 ≤ m) (h2 : m ≤ 65535) (h3 : 1 ≤ p) (h4 : p ≤ 65536) : -4294967296 ≤ m * p ∧ m * p ≤ 4294967296 := by
  have a1 : m * p ≤ 65535 * p := Int.mul_le_mul_of_nonneg_right h2 (by omega)
  have a2 : -65535 * p ≤ m * p := Int.mul_le_mul_of_nonneg_right h1 (by omega)
  omega
theorem shl_in {m e : Int} (h1 : -65535 ≤ m) (h2 : m ≤ 65535) (he : e ≤ 46) : wrap64 (m * 2 ^ (e - 30).toNat) = m * 2 ^ (e - 30).toNat := by
  have hp := pow_bd (k := (e - 30).toNat) (by omega)
  have hb := mul_bd h1 h2 hp.1 hp.2
  exact IntWalk.wrap64_in _ ⟨by omega, by omega⟩
theorem fltOk_zero (e : Int) : fltOk 0 e = decide (e = 0) := by simp [fltOk]
theorem fltOk_even {m e : Int} (h0 : m ≠ 0) (h : m % 2 = 0) : fltOk m e = false := by simp [fltOk, h0, h]
theorem fltOk_far {m e : Int} (h0 : m ≠ 0) (h : m < -65535 ∨ 65535 < m) : fltOk m e = false := by
  unfold fltOk; rw [if_neg h0, decide_eq_false_iff_not]; omega
theorem fltOk_low {m e : Int} (h0 : m ≠ 0) (h : e < -16) : fltOk m e = false := by
  unfold fltOk; rw [if_neg h0, decide_eq_false_iff_not]; omega
theorem fltOk_mid {m e : Int} (h0 : m % 2 ≠ 0) (h1 : -65535 ≤ m) (h2 : m ≤ 65535) (h3 : -16 ≤ e) (h4 : e ≤ 30) : fltOk m e = true := by
  unfold fltOk; rw [if_neg (by omega), decide_eq_true_eq]; exact ⟨h0, h1, h2, h3, Or.inl h4⟩
theorem fltOk_high {m e : Int} (h0 : m ≠ 0) (h : 45 < e) : fltOk m e = false := by
  unfold fltOk; rw [if_neg h0, decide_eq_false_iff_not]; omega
theorem fltOk_up {m e : Int} (h0 : m % 2 ≠ 0) (h1 : -65535 ≤ m) (h2 : m ≤ 65535) (h3 : 30 < e) (h4 : e ≤ 46) : fltOk m e = inR (wrap64 (m * 2 ^ (e - 30).toNat)) (-65535) 65535 := by
  rw [shl_in h1 h2 h4]
  unfold fltOk inR; rw [if_neg (by omega)]
  by_cases h : e ≤ 45
  · rw [decide_eq_decide]
    constructor
    · rintro ⟨_, _, _, _, hx⟩
      rcases hx with hx | hx
      · omega
      · exact hx.2
    · intro hx
      exact ⟨h0, h1, h2, by omega, Or.inr ⟨h, hx⟩⟩
  · obtain rfl : e = 46 := by omega
    have e16 : (46 - 30 : Int).toNat = 16 := by decide
    rw [e16, decide_eq_decide]
    constructor
    · rintro ⟨_, _, _, _, hx⟩; omega
    · intro hx; exfalso
      have : (2 : Int) ^ 16 = 65536 := by decide
      omega
set_option maxHeartbeats 1000000 in
theorem i_FltOk (m e : Int) (w : World) (hwe : e ≤ 9223372036854775807) :
    Calls Try.prog 89 #[.agg #[.int .i64 m, .int .i64 e]] w fun e' w' => e' = .returned (.bool (fltOk m e)) ∧ Below w.heap.size w w' := by
  by_cases hm0 : m = 0
  · subst hm0
    go_enter Try.func89, Try.ntmps89
    go_wp2_with fail
    go_ret
    exact ⟨ret_bool (by rw [fltOk_zero]; first | rfl | (rw [Bool.eq_iff_iff]; simp)), (Below.refl _ _).alloc (Nat.le_refl _) _⟩
  have h0 : (m == 0) = false := by simpa using hm0
  by_cases ho : m % 2 = 0
  · have h5 : (m.tmod 2 == 0) = true := tmod2_yes ho
    go_enter Try.func89, Try.ntmps89
    go_wp2_with fail
    go_ret
    exact ⟨ret_bool (fltOk_even hm0 ho).symm, (Below.refl _ _).alloc (Nat.le_refl _) _⟩
  have h5 : (m.tmod 2 == 0) = false := tmod2_no ho
  by_cases hm : -65535 ≤ m ∧ m ≤ 65535
  · have hb := inR_yes hm.1 hm.2
    obtain ⟨h1, h2⟩ := hm
    have HO := Lib.hid ho; have HM := Lib.hid hm0; clear ho hm0
    by_cases h3 : e < -16
    · go_enter Try.func89, Try.ntmps89
      go_wp2_with (go_at_call 50; refine (i_within _ _ _ _).mono ?_; rintro e w' ⟨rfl, rfl⟩)
      go_ret
      exact ⟨ret_bool (fltOk_low HM.out h3).symm, (Below.refl _ _).alloc (Nat.le_refl _) _⟩
    by_cases h4 : e ≤ 30
    · go_enter Try.func89, Try.ntmps89
      go_wp2_with (go_at_call 50; refine (i_within _ _ _ _).mono ?_; rintro e w' ⟨rfl, rfl⟩)
      go_ret
      exact ⟨ret_bool (fltOk_mid HO.out h1 h2 (by omega) h4).symm, (Below.refl _ _).alloc (Nat.le_refl _) _⟩
    by_cases h6 : e ≤ 46
    · go_enter Try.func89, Try.ntmps89
      go_wp2_with (go_at_call 50; refine (i_within _ _ _ _).mono ?_; rintro e w' ⟨rfl, rfl⟩)
      go_ret
      exact ⟨ret_bool (fltOk_up HO.out h1 h2 (by omega) h6).symm, (Below.refl _ _).alloc (Nat.le_refl _) _⟩
    · go_enter Try.func89, Try.ntmps89
      go_wp2_with (go_at_call 50; refine (i_within _ _ _ _).mono ?_; rintro e w' ⟨rfl, rfl⟩)
      go_ret
      exact ⟨ret_bool (fltOk_high HM.out (by omega)).symm, (Below.refl _ _).alloc (Nat.le_refl _) _⟩
  · have hb : inR m (-65535) 65535 = false := inR_no (by omega)
    go_enter Try.func89, Try.ntmps89
    go_wp2_with (go_at_call 50; refine (i_within _ _ _ _).mono ?_; rintro e w' ⟨rfl, rfl⟩)
    go_ret
    exact ⟨ret_bool (fltOk_far hm0 (by omega)).symm, (Below.refl _ _).alloc (Nat.le_refl _) _⟩
set_option maxHeartbeats 1000000 in
theorem s_FltOk (m e : Int) (w : World) (hwe : e ≤ 9223372036854775807) :
    Calls Try.prog 91 #[.agg #[.int .i64 m, .int .i64 e]] w fun e' w' => e' = .returned (.bool (fltOk m e)) ∧ Below w.heap.size w w' := by
  by_cases hm0 : m = 0
  · subst hm0
    go_enter Try.func91, Try.ntmps91
    go_wp2_with fail
    go_ret
    exact ⟨ret_bool (by rw [fltOk_zero]; first | rfl | (rw [Bool.eq_iff_iff]; simp)), (Below.refl _ _).alloc (Nat.le_refl _) _⟩
  have h0 : (m == 0) = false := by simpa using hm0
  by_cases hm : -65535 ≤ m ∧ m ≤ 65535
  · have hb := inR_yes hm.1 hm.2
    obtain ⟨h1, h2⟩ := hm
    by_cases ho : m % 2 = 0
    · have h5 : (m.tmod 2 == 0) = true := tmod2_yes ho
      go_enter Try.func91, Try.ntmps91
      go_wp2_with (go_at_call 53; refine (s_l1In _ _ _ _).mono ?_; rintro e w' ⟨rfl, rfl⟩)
      go_ret
      exact ⟨ret_bool (fltOk_even hm0 ho).symm, (Below.refl _ _).alloc (Nat.le_refl _) _⟩
    have h5 : (m.tmod 2 == 0) = false := tmod2_no ho
    have HO := Lib.hid ho; have HM := Lib.hid hm0; clear ho hm0
    by_cases h3 : -16 ≤ e ∧ e ≤ 45
    · have hb2 := inR_yes h3.1 h3.2
      obtain ⟨h3a, h3b⟩ := h3
      by_cases h4 : e ≤ 30
      · go_enter Try.func91, Try.ntmps91
        go_wp2_with (go_at_call 53; refine (s_l1In _ _ _ _).mono ?_; rintro e w' ⟨rfl, rfl⟩)
        go_ret
        exact ⟨ret_bool (fltOk_mid HO.out h1 h2 (by omega) h4).symm, (Below.refl _ _).alloc (Nat.le_refl _) _⟩
      · go_enter Try.func91, Try.ntmps91
        go_wp2_with (go_at_call 53; refine (s_l1In _ _ _ _).mono ?_; rintro e w' ⟨rfl, rfl⟩)
        go_ret
        exact ⟨ret_bool (by rw [fltOk_up HO.out h1 h2 (by omega) (by omega), decide_eq_false (show ¬ e ≤ 30 by omega)]; rfl), (Below.refl _ _).alloc (Nat.le_refl _) _⟩
    · have hb2 : inR e (-16) 45 = false := inR_no (by omega)
      go_enter Try.func91, Try.ntmps91
      go_wp2_with (go_at_call 53; refine (s_l1In _ _ _ _).mono ?_; rintro e w' ⟨rfl, rfl⟩)
      go_ret
      refine ⟨ret_bool ?_, (Below.refl _ _).alloc (Nat.le_refl _) _⟩
      by_cases h6 : e < -16
      · exact (fltOk_low HM.out h6).symm
      · exact (fltOk_high HM.out (by omega)).symm
  · have hb : inR m (-65535) 65535 = false := inR_no (by omega)
    go_enter Try.func91, Try.ntmps91
    go_wp2_with (go_at_call 53; refine (s_l1In _ _ _ _).mono ?_; rintro e w' ⟨rfl, rfl⟩)
    go_ret
    exact ⟨ret_bool (fltOk_far hm0 (by omega)).symm, (Below.refl _ _).alloc (Nat.le_refl _) _⟩
def fltBits (m e : Int) : Int := if fltOk m e = true then 65536 * (e + 16) + (if m < 0 then 16777216 - m else m) else -1
theorem fltBits_no {m e : Int} (h : fltOk m e = false) : fltBits m e = -1 := by unfold fltBits; rw [h]; rfl
theorem fltBits_neg {m e : Int} (h : fltOk m e = true) (hm : m < 0) : fltBits m e = 65536 * (e + 16) + (16777216 - m) := by unfold fltBits; rw [if_pos h, if_pos hm]
theorem fltBits_pos {m e : Int} (h : fltOk m e = true) (hm : ¬ m < 0) : fltBits m e = 65536 * (e + 16) + m := by unfold fltBits; rw [if_pos h, if_neg hm]
theorem fltOk_bounds {m e : Int} (h : fltOk m e = true) : -65535 ≤ m ∧ m ≤ 65535 ∧ -16 ≤ e ∧ e ≤ 45 := by
  unfold fltOk at h
  split at h
  · simp at h; omega
  · simp at h; omega
set_option maxHeartbeats 1000000 in
theorem i_FltBits (m e : Int) (w : World) (hwe : e ≤ 9223372036854775807) :
    Calls Try.prog 52 #[.agg #[.int .i64 m, .int .i64 e]] w fun e' w' => e' = .returned (.int .i64 (fltBits m e)) ∧ Below w.heap.size w w' := by
  cases hf : fltOk m e with
  | false =>
    go_enter Try.func52, Try.ntmps52
    go_wp2_with (go_at_call 89; refine (i_FltOk _ _ _ hwe).mono ?_; rintro e w' ⟨rfl, hb⟩)
    go_ret
    exact ⟨ret_int (fltBits_no hf).symm, hb.boxed⟩
  | true =>
    obtain ⟨h1, h2, h3, h4⟩ := fltOk_bounds hf
    by_cases hm : m < 0
    · go_enter Try.func52, Try.ntmps52
      go_wp2_with (go_at_call 89; refine (i_FltOk _ _ _ hwe).mono ?_; rintro e w1 ⟨rfl, hb⟩; obtain ⟨hc, hf'⟩ := bcell hb)
      go_ret
      exact ⟨ret_int (by rw [fltBits_neg hf hm]; omega), hb.boxed⟩
    · go_enter Try.func52, Try.ntmps52
      go_wp2_with (go_at_call 89; refine (i_FltOk _ _ _ hwe).mono ?_; rintro e w1 ⟨rfl, hb⟩; obtain ⟨hc, hf'⟩ := bcell hb)
      go_ret
      exact ⟨ret_int (by rw [fltBits_pos hf (by omega)]; first | done | omega), hb.boxed⟩
set_option maxHeartbeats 1000000 in
theorem s_FltBits (m e : Int) (w : World) (hwe : e ≤ 9223372036854775807) :
    Calls Try.prog 55 #[.agg #[.int .i64 m, .int .i64 e]] w fun e' w' => e' = .returned (.int .i64 (fltBits m e)) ∧ Below w.heap.size w w' := by
  cases hf : fltOk m e with
  | false =>
    go_enter Try.func55, Try.ntmps55
    go_wp2_with (go_at_call 91; refine (s_FltOk _ _ _ hwe).mono ?_; rintro e w' ⟨rfl, hb⟩)
    go_ret
    exact ⟨ret_int (fltBits_no hf).symm, hb.boxed⟩
  | true =>
    obtain ⟨h1, h2, h3, h4⟩ := fltOk_bounds hf
    by_cases hm : m < 0
    · go_enter Try.func55, Try.ntmps55
      go_wp2_with (go_at_call 91; refine (s_FltOk _ _ _ hwe).mono ?_; rintro e w1 ⟨rfl, hb⟩; obtain ⟨hc, hf'⟩ := bcell hb)
      go_ret
      exact ⟨ret_int (by rw [fltBits_neg hf hm]; omega), hb.boxed⟩
    · go_enter Try.func55, Try.ntmps55
      go_wp2_with (go_at_call 91; refine (s_FltOk _ _ _ hwe).mono ?_; rintro e w1 ⟨rfl, hb⟩; obtain ⟨hc, hf'⟩ := bcell hb)
      go_ret
      exact ⟨ret_int (by rw [fltBits_pos hf (by omega)]; first | done | omega), hb.boxed⟩
end Go.Proofs.Ytihhedmehlemmaa
