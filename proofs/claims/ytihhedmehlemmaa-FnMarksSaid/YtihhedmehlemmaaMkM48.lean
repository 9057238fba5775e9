/- The law on the bits of halves: FnBits. Marks that are read are right, and never written longer: plain. The law FnMarksBent. -/
import Derived.Test.YtihhedmehlemmaaMkM8
import Derived.Test.YtihhedmehlemmaaMkGetMarkW
import Derived.Test.YtihhedmehlemmaaMkPutMark
import Derived.Test.YtihhedmehlemmaaMkM41
import Derived.Test.YtihhedmehlemmaaMkM31
import Derived.Deep.RegionHeld3
set_option linter.unusedVariables false
set_option maxRecDepth 100000
set_option linter.unusedSimpArgs false
namespace Go.Proofs.Ytihhedmehlemmaa
open Go.RowKit

theorem fltV_inj {a b a2 b2 : Int} {o o2 : Bool} (h : fltV a b o = fltV a2 b2 o2) : a = a2 ∧ b = b2 ∧ o = o2 := by
  simp [fltV] at h; exact ⟨h.1.1, h.1.2, h.2⟩
theorem fltNewV_ok {m e a b : Int} (h : fltNewV m e = fltV a b true) : fltOk a b = true := by
  unfold fltNewV fltNewIn at h
  split at h
  · split at h
    · obtain ⟨rfl, rfl, _⟩ := fltV_inj h; rfl
    · split at h
      · rename_i hk; obtain ⟨rfl, rfl, _⟩ := fltV_inj h; exact hk
      · exact absurd (fltV_inj h).2.2 (by decide)
  · exact absurd (fltV_inj h).2.2 (by decide)
theorem bitsFltV_ok {n a b : Int} (h : bitsFltV n = fltV a b true) : fltOk a b = true := by
  unfold bitsFltV at h
  split at h
  · exact fltNewV_ok h
  · exact absurd (fltV_inj h).2.2 (by decide)
theorem flt_odd {a e : Int} (h : fltOk a e = true) (h0 : a ≠ 0) : (a.tmod 2 == 0) = false := by
  unfold fltOk at h
  rw [if_neg h0, decide_eq_true_eq] at h
  have := tmod2 a
  simp only [beq_eq_false_iff_ne, ne_eq]
  intro h2
  exact h.1 (this.1 h2)
theorem bits_back {a e : Int} (h : fltOk a e = true) : bitsFltV (fltBits a e) = fltV a e true ∧ 0 ≤ fltBits a e ∧ fltBits a e < 33554432 := by
  obtain ⟨h1, h2, h3, h4⟩ := fltOk_bounds h
  rcases Int.lt_trichotomy a 0 with ha | ha | ha
  · rw [fltBits_neg h ha]
    refine ⟨?_, by omega, by omega⟩
    rw [bitsFltV_neg (by omega) (by omega), show -((65536 * (e + 16) + (16777216 - a)) % 65536) = a by omega, show (65536 * (e + 16) + (16777216 - a)) / 65536 % 256 - 16 = e by omega]
    exact fltNewV_yes ⟨by omega, by omega⟩ (by omega) (strip_odd (flt_odd h (by omega))) h
  · subst ha
    have he : e = 0 := by simpa [fltOk] using h
    subst he
    have hb : fltBits 0 0 = 1048576 := by decide
    rw [hb]
    refine ⟨?_, by decide, by decide⟩
    rw [bitsFltV_pos (by decide) (by decide)]
    exact fltNewV_zero (by decide)
  · rw [fltBits_pos h (by omega)]
    refine ⟨?_, by omega, by omega⟩
    rw [bitsFltV_pos (by omega) (by omega), show (65536 * (e + 16) + a) % 65536 = a by omega, show (65536 * (e + 16) + a) / 65536 % 256 - 16 = e by omega]
    exact fltNewV_yes ⟨by omega, by omega⟩ (by omega) (strip_odd (flt_odd h (by omega))) h
theorem l_big (A : Option Addr) (n c : Nat) (w : World) (hn : n ≤ 9223372036854775807) :
    Calls Try.prog 6 #[.slice A n c] w fun e w' => e = .returned (.bool (decide (1048576 < n))) ∧ w = w' := by
  by_cases h : 1048576 < n
  · have hi : (1048576 : Int) < (n : Int) := by omega
    go_enter Try.func6, Try.ntmps6
    go_wp2_with fail
    go_ret
    exact ⟨by simp [h], rfl⟩
  · have hi : ¬ (1048576 : Int) < (n : Int) := by omega
    go_enter Try.func6, Try.ntmps6
    go_wp2_with fail
    go_ret
    exact ⟨by simp [h], rfl⟩
end Go.Proofs.Ytihhedmehlemmaa

namespace Go.Proofs.Ytihhedmehlemmaa
open Go.RowKit

theorem putBig_leW (n w : Int) (hw : 0 ≤ w) : ((putBig n w).length : Int) ≤ w := by
  unfold putBig
  split
  · rw [beI_len]; omega
  · simp; exact hw
theorem manyB_le3 (few base short long n : Int) : (manyB few base short long n).length ≤ 3 := by
  have h1 := putBig_leW n 1 (by decide)
  have h2 := putBig_leW n 2 (by decide)
  unfold manyB
  (repeat' split) <;> simp <;> omega
theorem manyB_le2 {few base short long n : Int} (h : n < 256) (hs : short ≠ 0) : (manyB few base short long n).length ≤ 2 := by
  have h1 := putBig_leW n 1 (by decide)
  unfold manyB
  split
  · simp
  · rw [if_pos ⟨h, hs⟩]; simp; omega
/-- The number of an int fits where it was read. -/
theorem intB_leU {n : Int} {v : Nat} (h0 : 0 ≤ n) (hv : v = 1 ∨ v = 2 ∨ v = 4 ∨ v = 8) (h : n < 256 ^ v) : (intB n).length ≤ 1 + v := by
  have hw : widthFor n ≤ v := by
    unfold widthFor
    rcases hv with rfl | rfl | rfl | rfl
    all_goals (simp at h; (repeat' split) <;> omega)
  have hw0 : 0 ≤ widthFor n := by unfold widthFor; (repeat' split) <;> omega
  have hp := putBig_leW n (widthFor n) hw0
  unfold intB
  split
  · simp
  · simp only [h0, if_true, List.length_cons]; omega
theorem intB_leS {n : Int} {v : Nat} (hv : v = 1 ∨ v = 2 ∨ v = 4 ∨ v = 8) (h1 : -(2 ^ (8 * v - 1) : Int) ≤ n) (h2 : n < 2 ^ (8 * v - 1)) : (intB n).length ≤ 1 + v := by
  by_cases h0 : 0 ≤ n
  · refine intB_leU h0 hv ?_
    rcases hv with rfl | rfl | rfl | rfl
    all_goals (simp at h2 ⊢; omega)
  · unfold intB
    rw [if_neg h0]
    rcases hv with rfl | rfl | rfl | rfl
    all_goals (simp at h1; (repeat' split) <;> simp [beI_len] <;> omega)
theorem sgn_bd {n v : Nat} (hv : v = 1 ∨ v = 2 ∨ v = 4 ∨ v = 8) (h : n < 256 ^ v) : -(2 ^ (8 * v - 1) : Int) ≤ sgnN n v ∧ sgnN n v < 2 ^ (8 * v - 1) := by
  unfold sgnN
  rcases hv with rfl | rfl | rfl | rfl
  all_goals (simp at h ⊢; split <;> omega)
theorem short_good : ∀ k : Fin 256, (shortM (k.val : Int)).2.2 = true → markOk (shortM (k.val : Int)).1 (shortM (k.val : Int)).2.1 = true ∧ (markB (shortM (k.val : Int)).1 (shortM (k.val : Int)).2.1).length = 1 := by decide +kernel
/-- The forms of a byte that is no mark by itself. -/
theorem form_cases : ∀ k : Fin 256, (shortM (k.val : Int)).2.2 = false → formM (k.val : Int) = (0, 0) ∨
    (208 ≤ k.val ∧ k.val ≤ 211 ∧ (formM (k.val : Int) = (3, 1) ∨ formM (k.val : Int) = (3, 2) ∨ formM (k.val : Int) = (3, 4) ∨ formM (k.val : Int) = (3, 8))) ∨
    (¬ (208 ≤ k.val ∧ k.val ≤ 211) ∧ (formM (k.val : Int) = (3, 1) ∨ formM (k.val : Int) = (3, 2) ∨ formM (k.val : Int) = (3, 4) ∨ formM (k.val : Int) = (3, 8) ∨ formM (k.val : Int) = (5, 2) ∨ formM (k.val : Int) = (4, 4) ∨
      formM (k.val : Int) = (7, 1) ∨ formM (k.val : Int) = (7, 2) ∨ formM (k.val : Int) = (7, 4) ∨ formM (k.val : Int) = (8, 1) ∨ formM (k.val : Int) = (8, 2) ∨ formM (k.val : Int) = (8, 4) ∨
      formM (k.val : Int) = (9, 2) ∨ formM (k.val : Int) = (9, 4) ∨ formM (k.val : Int) = (10, 2) ∨ formM (k.val : Int) = (10, 4))) := by decide +kernel
def GoodM (K N x : Int) (j : Nat) : Prop := markOk K N = true ∧ (j : Int) < x ∧ ((markB K N).length : Int) ≤ x - (j : Int)
theorem part_bd {b : List UInt8} {j v : Nat} (h : ¬ b.length < j + 1 + v) : bigN (part b (j + 1) v) < 256 ^ v := by
  have := bigN_lt (part b (j + 1) v)
  rwa [part_len (by omega)] at this
theorem good_int {n : Int} {j v : Nat} (h : inR n (-1000000000000000) 1000000000000000 = true) (hl : (intB n).length ≤ 1 + v) : GoodM 3 n ((j + 1 + v : Nat) : Int) j := by
  have ho : markOk 3 n = true := h
  refine ⟨ho, by omega, ?_⟩
  rw [markB_yes ho (x := intB n) rfl]
  omega
theorem getMarkB_good {b : List UInt8} {j : Nat} {k : Nat} (hk : k < 256) {K N x : Int} (h : getMarkB b j k = (K, N, x, 0)) : GoodM K N x j := by
  have hs := short_good ⟨k, hk⟩
  have hf := form_cases ⟨k, hk⟩
  simp only at hs hf
  unfold getMarkB at h
  cases hsh : (shortM (k : Int)).2.2 with
  | true =>
    rw [if_pos hsh] at h
    simp only [Prod.mk.injEq] at h
    obtain ⟨rfl, rfl, rfl, _⟩ := h
    obtain ⟨h1, h2⟩ := hs hsh
    exact ⟨h1, by omega, by rw [h2]; omega⟩
  | false =>
    rw [if_neg (by rw [hsh]; decide)] at h
    have bad : ∀ c : Int, ¬ c = 0 → ((0 : Int), (0 : Int), (0 : Int), c) = (K, N, x, 0) → False := fun c hc e => by
      simp only [Prod.mk.injEq] at e; exact hc e.2.2.2
    have many : ∀ (few base short long : Int) (v : Nat) (Kk : Int), ¬ b.length < j + 1 + v → bigN (part b (j + 1) v) ≤ 65535 → (7 ≤ Kk ∧ Kk ≤ 10) → (v = 2 ∨ v = 4 ∨ (v = 1 ∧ short ≠ 0)) →
        (∀ n : Int, inR n 0 65535 = true → markB Kk n = manyB few base short long n) → GoodM Kk (bigN (part b (j + 1) v)) ((j + 1 + v : Nat) : Int) j := by
      intro few base short long v Kk h1 h2 hK hv hm
      have hin : inR ((bigN (part b (j + 1) v) : Nat) : Int) 0 65535 = true := inR_yes (by omega) (by omega)
      have ho : markOk Kk (bigN (part b (j + 1) v)) = true := by
        unfold markOk
        rw [if_neg (by omega), if_neg (by omega), if_neg (by omega), if_neg (by omega), if_neg (by omega), if_pos hK]
        exact hin
      refine ⟨ho, by omega, ?_⟩
      rw [hm _ hin]
      have h3 := manyB_le3 few base short long (bigN (part b (j + 1) v))
      rcases hv with rfl | rfl | ⟨rfl, hs0⟩
      · omega
      · omega
      · have hb := part_bd h1
        have h4 := manyB_le2 (few := few) (base := base) (long := long) (n := ((bigN (part b (j + 1) 1) : Nat) : Int)) (by have : (256 : Nat) ^ 1 = 256 := rfl; omega) hs0
        omega
    have m7 : ∀ n : Int, inR n 0 65535 = true → markB 7 n = manyB 32 160 217 218 n := fun n hn => markB_yes (by exact hn) rfl
    have m8 : ∀ n : Int, inR n 0 65535 = true → markB 8 n = manyB 0 0 196 197 n := fun n hn => markB_yes (by exact hn) rfl
    have m9 : ∀ n : Int, inR n 0 65535 = true → markB 9 n = manyB 16 144 0 220 n := fun n hn => markB_yes (by exact hn) rfl
    have m10 : ∀ n : Int, inR n 0 65535 = true → markB 10 n = manyB 16 128 0 222 n := fun n hn => markB_yes (by exact hn) rfl
    have sint : ∀ v : Nat, (v = 1 ∨ v = 2 ∨ v = 4 ∨ v = 8) → formM (k : Int) = (3, (v : Int)) → (208 ≤ k ∧ k ≤ 211) → GoodM K N x j := by
      intro v hv hfm hk2
      rw [hfm] at h
      simp only [Int.toNat_natCast] at h
      by_cases h5 : b.length < j + 1 + v
      · rw [if_pos (.inr h5)] at h; exact (bad 1 (by decide) h).elim
      rw [if_neg (by intro e; rcases e with e | e; exact absurd e (by decide); exact h5 e), if_pos hk2] at h
      split at h
      · rename_i hin
        simp only [Prod.mk.injEq] at h
        obtain ⟨rfl, rfl, rfl, _⟩ := h
        have hb := sgn_bd hv (part_bd h5)
        exact good_int hin (intB_leS hv hb.1 hb.2)
      · exact (bad 2 (by decide) h).elim
    have uint : ∀ v : Nat, (v = 1 ∨ v = 2 ∨ v = 4 ∨ v = 8) → formM (k : Int) = (3, (v : Int)) → ¬ (208 ≤ k ∧ k ≤ 211) → GoodM K N x j := by
      intro v hv hfm hk2
      rw [hfm] at h
      simp only [Int.toNat_natCast] at h
      by_cases h5 : b.length < j + 1 + v
      · rw [if_pos (.inr h5)] at h; exact (bad 1 (by decide) h).elim
      rw [if_neg (by intro e; rcases e with e | e; exact absurd e (by decide); exact h5 e), if_neg hk2, if_pos True.intro] at h
      split at h
      · rename_i hin
        simp only [Prod.mk.injEq] at h
        obtain ⟨rfl, rfl, rfl, _⟩ := h
        have hb := part_bd h5
        refine good_int (inR_yes (by omega) (by omega)) (intB_leU (by omega) hv ?_)
        exact_mod_cast hb
      · exact (bad 2 (by decide) h).elim
    have mny : ∀ (Kk : Int) (v : Nat) (few base short long : Int), formM (k : Int) = (Kk, (v : Int)) → ¬ (208 ≤ k ∧ k ≤ 211) → (7 ≤ Kk ∧ Kk ≤ 10) → (v = 2 ∨ v = 4 ∨ (v = 1 ∧ short ≠ 0)) →
        (∀ n : Int, inR n 0 65535 = true → markB Kk n = manyB few base short long n) → GoodM K N x j := by
      intro Kk v few base short long hfm hk2 hK hv hm
      rw [hfm] at h
      simp only [Int.toNat_natCast] at h
      by_cases h5 : b.length < j + 1 + v
      · rw [if_pos (.inr h5)] at h; exact (bad 1 (by decide) h).elim
      rw [if_neg (by intro e; rcases e with e | e; omega; exact h5 e), if_neg hk2, if_neg (by omega), if_neg (by omega), if_neg (by omega)] at h
      split at h
      · rename_i hin
        simp only [Prod.mk.injEq] at h
        obtain ⟨rfl, rfl, rfl, _⟩ := h
        exact many few base short long v Kk h5 hin hK hv hm
      · exact (bad 2 (by decide) h).elim
    rcases hf hsh with hf | ⟨ha, hb, hf⟩ | ⟨hn, hf⟩
    · rw [hf, if_pos (.inl rfl)] at h; exact (bad 1 (by decide) h).elim
    · rcases hf with hf | hf | hf | hf
      · exact sint 1 (by decide) hf ⟨ha, hb⟩
      · exact sint 2 (by decide) hf ⟨ha, hb⟩
      · exact sint 4 (by decide) hf ⟨ha, hb⟩
      · exact sint 8 (by decide) hf ⟨ha, hb⟩
    · rcases hf with hf | hf | hf | hf | hf | hf | hf | hf | hf | hf | hf | hf | hf | hf | hf | hf
      · exact uint 1 (by decide) hf hn
      · exact uint 2 (by decide) hf hn
      · exact uint 4 (by decide) hf hn
      · exact uint 8 (by decide) hf hn
      · rw [hf] at h
        simp only [show (2 : Int).toNat = 2 from rfl] at h
        by_cases h5 : b.length < j + 1 + 2
        · rw [if_pos (.inr h5)] at h; exact (bad 1 (by decide) h).elim
        rw [if_neg (by intro e; rcases e with e | e; exact absurd e (by decide); exact h5 e), if_neg hn, if_neg (by decide), if_pos True.intro] at h
        split at h
        · rename_i hin
          simp only [Prod.mk.injEq] at h
          obtain ⟨rfl, rfl, rfl, _⟩ := h
          have ho : markOk 5 ((bigN (part b (j + 1) 2) : Int) - 256) = true := by
            show inR _ 0 2 = true
            exact inR_yes (by omega) (by omega)
          refine ⟨ho, by omega, ?_⟩
          rw [markB_yes ho (x := [212, 1, UInt8.ofNat ((bigN (part b (j + 1) 2) : Int) - 256).toNat]) rfl]
          simp only [List.length_cons, List.length_nil]
          omega
        · exact (bad 1 (by decide) h).elim
      · rw [hf] at h
        simp only [show (4 : Int).toNat = 4 from rfl] at h
        by_cases h5 : b.length < j + 1 + 4
        · rw [if_pos (.inr h5)] at h; exact (bad 1 (by decide) h).elim
        rw [if_neg (by intro e; rcases e with e | e; exact absurd e (by decide); exact h5 e), if_neg hn, if_neg (by decide), if_neg (by decide), if_pos True.intro] at h
        split at h
        · rename_i hin
          simp only [Prod.mk.injEq] at h
          obtain ⟨rfl, rfl, rfl, _⟩ := h
          obtain ⟨a, e, ok, hv⟩ : ∃ a e ok, bitsFltV (bigN (part b (j + 1) 4)) = fltV a e ok := bitsFltV_shape _
          rw [hv, fltOf_fltV] at hin ⊢
          simp only at hin ⊢
          subst hin
          have hfo := bitsFltV_ok hv
          obtain ⟨hb1, _, _⟩ := bits_back hfo
          have ho : markOk 4 (fltBits a e) = true := by
            show markFlt (fltBits a e) = true
            rw [markFlt_yes hb1]; simp
          refine ⟨ho, by omega, ?_⟩
          rw [markB_yes ho (x := 202 :: putBig (fltBits a e) 4) rfl]
          have := putBig_leW (fltBits a e) 4 (by decide)
          simp only [List.length_cons]
          omega
        · exact (bad 1 (by decide) h).elim
      · exact mny 7 1 32 160 217 218 hf hn (by decide) (.inr (.inr ⟨rfl, by decide⟩)) m7
      · exact mny 7 2 32 160 217 218 hf hn (by decide) (.inl rfl) m7
      · exact mny 7 4 32 160 217 218 hf hn (by decide) (.inr (.inl rfl)) m7
      · exact mny 8 1 0 0 196 197 hf hn (by decide) (.inr (.inr ⟨rfl, by decide⟩)) m8
      · exact mny 8 2 0 0 196 197 hf hn (by decide) (.inl rfl) m8
      · exact mny 8 4 0 0 196 197 hf hn (by decide) (.inr (.inl rfl)) m8
      · exact mny 9 2 16 144 0 220 hf hn (by decide) (.inl rfl) m9
      · exact mny 9 4 16 144 0 220 hf hn (by decide) (.inr (.inl rfl)) m9
      · exact mny 10 2 16 128 0 222 hf hn (by decide) (.inl rfl) m10
      · exact mny 10 4 16 128 0 222 hf hn (by decide) (.inr (.inl rfl)) m10
theorem getMark_good {b : List UInt8} {i K N x : Int} (h : getMark b i = (K, N, x, 0)) : markOk K N = true ∧ i < x ∧ ((markB K N).length : Int) ≤ x - i := by
  unfold getMark at h
  split at h
  · rename_i hi
    have := getMarkB_good (UInt8.toNat_lt _) h
    obtain ⟨h1, h2, h3⟩ := this
    exact ⟨h1, by omega, by omega⟩
  · simp only [Prod.mk.injEq] at h; exact absurd h.2.2.2 (by decide)
theorem getMark_bad {b : List UInt8} {i K N x c : Int} (h : getMark b i = (K, N, x, c)) (hc : ¬ c = 0) : K = 0 ∧ N = 0 ∧ x = 0 := by
  unfold getMark getMarkB at h
  (repeat' split at h) <;> (simp only [Prod.mk.injEq] at h; first | exact ⟨h.1.symm, h.2.1.symm, h.2.2.1.symm⟩ | exact absurd h.2.2.2.symm hc)
end Go.Proofs.Ytihhedmehlemmaa

namespace Go.Proofs.Ytihhedmehlemmaa
open Go.RowKit

theorem getMark_next {b : List UInt8} {i K N x c : Int} (h : getMark b i = (K, N, x, c)) : 0 ≤ x ∧ x ≤ b.length + 8 := by
  unfold getMark getMarkB at h
  (repeat' split at h) <;> (simp only [Prod.mk.injEq] at h; obtain ⟨-, -, rfl, -⟩ := h; omega)
theorem markFlt_le {n : Int} (h : markFlt n = true) : n ≤ 9223372036854775807 := by
  obtain ⟨a, e, ok, hv⟩ := bitsFltV_shape n
  cases ok with
  | false => rw [markFlt_no hv] at h; cases h
  | true =>
    rw [markFlt_yes hv] at h
    have := fltBits_bd a e
    have := of_decide_eq_true h
    omega
theorem markOk_le {k n : Int} (h : markOk k n = true) : n ≤ 9223372036854775807 := by
  unfold markOk at h
  (repeat' split at h) <;> first | (have := inR_iff.1 h; omega) | (have := of_decide_eq_true h; omega) | exact markFlt_le h | cases h
abbrev Box2v (w' : World) (g : Nat) (a b : Int) : Prop := w'.cell? ⟨g, 0, none⟩ = some (.int .i64 a) ∧ w'.cell? ⟨g, 1, none⟩ = some (.int .i64 b)
theorem Blk.box2v {w' : World} {g : Nat} {T : TypeId} {a b : Int} (h : Blk w' g T #[.int .i64 a, .int .i64 b]) : Box2v w' g a b := ⟨h.cell 0, h.cell 1⟩
set_option maxHeartbeats 4000000 in
theorem law_FnMarksBent (A : Option Addr) (n c : Nat) (b : List UInt8) (w : World) (h : Sl w w.heap.size 1 A n c (u8s b)) :
    Calls Try.prog 5 #[.slice A n c] w fun e' w' => e' = .returned (.bool true) ∧ Below w.heap.size w w' := by
  have hn9 : n ≤ 9223372036854775807 := by have := h.cap; have := h.max; unfold maxLen at *; omega
  have hbig := fun w1 => l_big A n c w1 hn9
  by_cases hn : 1048576 < n
  · rw [decide_eq_true hn] at hbig
    go_enter Try.func5, Try.ntmps5
    go_wp2_with (go_at_call 6; refine (hbig _).mono ?_; rintro e w1 ⟨rfl, rfl⟩)
    go_ret
    exact ⟨rfl, Below.refl _ _⟩
  · rw [decide_eq_false hn] at hbig
    have hnn : n ≤ 1048576 := by omega
    clear hn hn9
    go_enter Try.func5, Try.ntmps5
    go_wp2_with fail
    refine (hbig _).mono ?_; rintro e w1 ⟨rfl, rfl⟩
    go_wp2_with fail
    refine (s_DrawGetMark A n c b _ h hnn).mono ?_; rintro e w1 ⟨A1, k1, c1, l1, i, rfl, h1, hk1, hi, K⟩
    have hl1 := h1.blen
    obtain ⟨⟨g1, g2, nx, co⟩, hg⟩ : ∃ x, getMark l1 i = x := ⟨_, rfl⟩
    have hGi := fun w (hs : Sl w w.heap.size 1 A1 k1 c1 (u8s l1)) => i_GetMark A1 k1 c1 l1 i w _ hs (Nat.le_refl _) (by omega) (by omega)
    have hGs := fun w (hs : Sl w w.heap.size 1 A1 k1 c1 (u8s l1)) => s_GetMark A1 k1 c1 l1 i w _ hs (Nat.le_refl _) (by omega) (by omega)
    simp only [hg, ret4, markRet] at hGi hGs
    clear hbig
    go_wp2_with fail
    refine (hGi _ h1).mono ?_; rintro e w2 ⟨rfl, hb2⟩
    have hb2a := hb2.up (Below.one w2 (.cells #[.int .i64 g1, .int .i64 g2] 36))
    have BG := Blk.new w2 36 #[.int .i64 g1, .int .i64 g2]
    replace h1 := (h1.below hb2a).more hb2a.size
    replace K := K.up hb2a
    go_wp2_with fail
    refine (hGs _ h1).mono ?_; rintro e w3 ⟨rfl, hb3⟩
    have hb3a := hb3.up (Below.one w3 (.cells #[.int .i64 g1, .int .i64 g2] 36))
    have BS_ := Blk.new w3 36 #[.int .i64 g1, .int .i64 g2]
    replace BG := BG.below hb3a BG.lt
    replace K := K.up hb3a
    go_wp2_with fail
    refine (s_DrawSizeMark A n c b _ ((h.below K).more K.size) hnn).mono ?_; rintro e w4 ⟨kk, zz, rfl, hzz, hb4⟩
    have hb4a := hb4.up (Below.one w4 (.cells #[.int .i64 kk, .int .i64 zz] 36))
    have BK := Blk.new w4 36 #[.int .i64 kk, .int .i64 zz]
    replace BG := BG.below hb4a BG.lt
    replace BS_ := BS_.below hb4a BS_.lt
    replace K := K.up hb4a
    clear hb2 hb2a hb3 hb3a hb4 hb4a hGi hGs h h1
    go_upto_region 7 with fail
    generalize (w4.alloc (.cells #[.int .i64 kk, .int .i64 zz] 36)) = wZ at BG BS_ BK K ⊢
    have hS0 := fun (w' : World) (hb : Below wZ.heap.size wZ w') => (show (Box2v w' w2.heap.size g1 g2 ∧ Box2v w' w3.heap.size g1 g2 ∧ Box2v w' w4.heap.size kk zz) ∧ Below wZ.heap.size wZ w' from ⟨⟨(BG.below hb BG.lt).box2v, (BS_.below hb BS_.lt).box2v, (BK.below hb BK.lt).box2v⟩, hb⟩)
    have hS2 := fun (w' w'' : World) (h : (Box2v w' w2.heap.size g1 g2 ∧ Box2v w' w3.heap.size g1 g2 ∧ Box2v w' w4.heap.size kk zz) ∧ Below wZ.heap.size wZ w') (hb : Below w'.heap.size w' w'') => hS0 w'' (h.2.up hb)
    have hI := fun w' => i_SizeMark kk zz w' hzz.2
    have hSp := fun w' => s_SizeMark kk zz w' hzz.2
    generalize (markB kk zz).length = sz at hI hSp
    have HG := Lib.hid (And.intro hg (And.intro hk1 (And.intro hi hl1)))
    clear hg hk1 hi hl1 hzz
    go_region_held3 (fun w' => (Box2v w' w2.heap.size g1 g2 ∧ Box2v w' w3.heap.size g1 g2 ∧ Box2v w' w4.heap.size kk zz) ∧ Below wZ.heap.size wZ w')
      (first | exact hS0 _ (Below.refl _ _).drew | (refine hS2 _ _ ?_ hbA; assumption) | (refine hS2 _ _ ?_ hbB; assumption))
      (first
        | (go_at_call 23; refine (hI _).mono ?_; rintro e wa ⟨rfl, hbA⟩)
        | (go_at_call 24; refine (hSp _).mono ?_; rintro e wb ⟨rfl, hbB⟩))
    rename_i hHeld
    have kR := hHeld.2
    rename World => wR
    clear hS0 hS2 hI hSp hHeld hbA hbB
    replace BG := BG.below kR BG.lt
    replace K := K.up kR
    clear kR BS_ BK
    obtain ⟨p0, p1⟩ := BG.box2v
    by_cases hco : co = 0
    · subst hco
      have hgd := getMark_good HG.out.1
      have hnx := getMark_next HG.out.1
      have hok := hgd.1
      have hlt := hgd.2.1
      have hle := hgd.2.2
      have hM := fun w' => i_MarkOk g1 g2 w'
      rw [hok] at hM
      have hg2 := markOk_le hok
      have hZ := fun w' => i_SizeMark g1 g2 w' hg2
      have hi := HG.out.2.2.1
      have hk := HG.out.2.1
      have hl := HG.out.2.2.2
      generalize (markB g1 g2).length = sz at hZ hle
      have hsb : nx - i ≤ 9223372036854775807 := by omega
      clear hgd hok
      have hwr : IntKind.i64.wrap (nx - i) = nx - i := by rw [IntKind.wrap_i64]; omega
      have hd1 : decide (i < nx) = true := decide_eq_true hlt
      have hd2 : decide ((sz : Int) ≤ nx - i) = true := decide_eq_true hle
      go_wp2_with (first
        | (go_at_call 19; refine (hM _).mono ?_; rintro e wa ⟨rfl, hbA⟩; clear hM; replace BG := BG.below hbA BG.lt; replace K := K.up hbA; obtain ⟨p0, p1⟩ := BG.box2v)
        | (go_at_call 23; refine (hZ _).mono ?_; rintro e wb ⟨rfl, hbB⟩; replace K := K.up hbB))
      go_ret
      exact ⟨by simp [hlt, hle], K⟩
    · obtain ⟨e1, e2, e3⟩ := getMark_bad HG.out.1 hco
      subst e1 e2 e3
      have hcz : (co == 0) = false := by simpa using hco
      have hcn : (co != 0) = true := by simpa using hco
      go_wp2_with fail
      go_ret
      exact ⟨rfl, K⟩
end Go.Proofs.Ytihhedmehlemmaa
