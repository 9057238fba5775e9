/- A mark that is written is read back: plain. The law FnMarks. -/
import Derived.Test.YtihhedmehlemmaaMkM48
import Derived.Test.YtihhedmehlemmaaMkM41
set_option linter.unusedVariables false
set_option maxRecDepth 100000
set_option linter.unusedSimpArgs false
namespace Go.Proofs.Ytihhedmehlemmaa
open Go.RowKit

theorem beI_succM (v : Nat) (n : Int) : beI (v + 1) n = beI v (n / 256) ++ [UInt8.ofNat (n % 256).toNat] := by
  refine List.ext_getElem (by simp [beI_len]) fun j h1 h2 => ?_
  rw [beI_len] at h1
  rw [beI_get _ _ _ h1]
  by_cases hj : j < v
  · rw [List.getElem_append_left (by rw [beI_len]; exact hj), beI_get _ _ _ hj]
    have e : (2 : Int) ^ (8 * (v + 1 - 1 - j)) = 256 * 2 ^ (8 * (v - 1 - j)) := by
      rw [show 8 * (v + 1 - 1 - j) = 8 + 8 * (v - 1 - j) by omega, Int.pow_add]; rfl
    rw [e, Int.ediv_ediv_of_nonneg (by decide)]
  · obtain rfl : j = v := by omega
    rw [List.getElem_append_right (by rw [beI_len]; exact Nat.le_refl _)]
    simp [beI_len]
theorem bigN_beIM : ∀ (v : Nat) (n : Nat), n < 256 ^ v → bigN (beI v n) = n
  | 0, n, h => by simp at h; subst h; rfl
  | v + 1, n, h => by
    rw [beI_succM, bigN_snoc, show ((n : Int) / 256) = ((n / 256 : Nat) : Int) by omega, bigN_beIM v (n / 256) (by rw [Nat.pow_succ] at h; omega)]
    rw [UInt8.toNat_ofNat_of_lt' (by show ((n : Int) % 256).toNat < 256; omega)]
    omega
theorem part_appM (b l : List UInt8) (c : UInt8) : part (b ++ c :: l) (b.length + 1) l.length = l := by
  unfold part
  rw [List.drop_append, List.drop_eq_nil_of_le (by omega)]
  simp
theorem getMark_at (b rest : List UInt8) (c : UInt8) : getMark (b ++ c :: rest) b.length = getMarkB (b ++ c :: rest) b.length c.toNat := by
  rw [getMark_in (by simp)]
  congr 1
  simp
theorem getMark_one {b : List UInt8} {c : UInt8} {K N : Int} (h : shortM c.toNat = (K, N, true)) : getMark (b ++ [c]) b.length = (K, N, ((b ++ [c]).length : Int), 0) := by
  rw [getMark_at]
  unfold getMarkB
  rw [h, if_pos rfl]
  simp
theorem beI_neg : ∀ (v : Nat) (n : Int), beI v (n % 256 ^ v) = beI v n
  | 0, n => by simp [beI]
  | v + 1, n => by
    rw [beI_succM, beI_succM]
    have e : (256 : Int) ^ (v + 1) = 256 * 256 ^ v := by rw [Int.pow_succ, Int.mul_comm]
    have e3 : n / (256 * 256 ^ v) = n / 256 / 256 ^ v := by
      first | exact (Int.ediv_ediv_eq_ediv_mul n (by decide)).symm | exact (Int.ediv_ediv (by decide)).symm | exact (Int.ediv_ediv_of_nonneg (by decide)).symm
    have e4 : n % (256 * 256 ^ v) = n - 256 * (256 ^ v * (n / 256 / 256 ^ v)) := by rw [Int.emod_def, e3, Int.mul_assoc]
    have e5 : (n / 256) % 256 ^ v = n / 256 - 256 ^ v * (n / 256 / 256 ^ v) := Int.emod_def _ _
    generalize 256 ^ v * (n / 256 / 256 ^ v) = X at e4 e5
    have e1 : n % 256 ^ (v + 1) / 256 = (n / 256) % 256 ^ v := by rw [e, e4, e5]; omega
    have e2 : n % 256 ^ (v + 1) % 256 = n % 256 := by rw [e, e4]; omega
    rw [e1, e2, beI_neg v]
theorem bigN_beIz (v : Nat) (n : Int) : ((bigN (beI v n) : Nat) : Int) = n % 256 ^ v := by
  have hp : (0 : Int) < 256 ^ v := by
    have : (0 : Nat) < 256 ^ v := Nat.pow_pos (by decide)
    exact_mod_cast this
  have h0 := Int.emod_nonneg n (by omega : (256 : Int) ^ v ≠ 0)
  have h1 := Int.emod_lt_of_pos n hp
  obtain ⟨m, hm⟩ := Int.eq_ofNat_of_zero_le h0
  have hl : m < 256 ^ v := by rw [hm] at h1; exact_mod_cast h1
  rw [← beI_neg, hm, bigN_beIM v m hl]
/-- What stands behind a first byte that is no mark by itself. -/
theorem getMark_big {b : List UInt8} {c : UInt8} {n : Int} {v : Nat} : getMark (b ++ c :: beI v n) b.length = getMarkB (b ++ c :: beI v n) b.length c.toNat ∧ (b ++ c :: beI v n).length = b.length + 1 + v ∧ ((bigN (part (b ++ c :: beI v n) (b.length + 1) v) : Nat) : Int) = n % 256 ^ v := by
  refine ⟨getMark_at _ _ _, by simp [beI_len]; omega, ?_⟩
  have h := part_appM b (beI v n) c
  rw [beI_len] at h
  rw [h, bigN_beIz]
/-- A number of v bytes whose form is said. -/
theorem getMark_many {b : List UInt8} {c : UInt8} {n K : Int} {v : Nat} (hs : (shortM c.toNat).2.2 = false) (hf : formM c.toNat = (K, (v : Int))) (hK : 7 ≤ K ∧ K ≤ 10) (hc : ¬ (208 ≤ c.toNat ∧ c.toNat ≤ 211)) (hn : 0 ≤ n ∧ n < 256 ^ v) (hm : n ≤ 65535) :
    getMark (b ++ c :: beI v n) b.length = (K, n, ((b ++ c :: beI v n).length : Int), 0) := by
  obtain ⟨h1, h2, h3⟩ := getMark_big (b := b) (c := c) (n := n) (v := v)
  rw [Int.emod_eq_of_lt hn.1 hn.2] at h3
  rw [h1]
  unfold getMarkB
  rw [hf, if_neg (by rw [hs]; decide)]
  simp only [Int.toNat_natCast]
  rw [if_neg (by intro e; rcases e with e | e; omega; omega), if_neg hc, if_neg (by omega), if_neg (by omega), if_neg (by omega), if_pos (by omega), h3, h2]
theorem getMark_uint {b : List UInt8} {c : UInt8} {n : Int} {v : Nat} (hs : (shortM c.toNat).2.2 = false) (hf : formM c.toNat = (3, (v : Int))) (hc : ¬ (208 ≤ c.toNat ∧ c.toNat ≤ 211)) (hn : 0 ≤ n ∧ n < 256 ^ v) (hm : n ≤ 1000000000000000) :
    getMark (b ++ c :: beI v n) b.length = (3, n, ((b ++ c :: beI v n).length : Int), 0) := by
  obtain ⟨h1, h2, h3⟩ := getMark_big (b := b) (c := c) (n := n) (v := v)
  rw [Int.emod_eq_of_lt hn.1 hn.2] at h3
  rw [h1]
  unfold getMarkB
  rw [hf, if_neg (by rw [hs]; decide)]
  simp only [Int.toNat_natCast]
  rw [if_neg (by intro e; rcases e with e | e; omega; omega), if_neg hc, if_pos True.intro, if_pos (by omega), h3, h2]
theorem getMark_sint {b : List UInt8} {c : UInt8} {n : Int} {v : Nat} (hs : (shortM c.toNat).2.2 = false) (hf : formM c.toNat = (3, (v : Int))) (hc : 208 ≤ c.toNat ∧ c.toNat ≤ 211) (hv : v = 1 ∨ v = 2 ∨ v = 4 ∨ v = 8) (hn : -(2 ^ (8 * v - 1) : Int) ≤ n ∧ n < 0) (hm : -1000000000000000 ≤ n) :
    getMark (b ++ c :: beI v n) b.length = (3, n, ((b ++ c :: beI v n).length : Int), 0) := by
  obtain ⟨h1, h2, h3⟩ := getMark_big (b := b) (c := c) (n := n) (v := v)
  have h4 : sgnN (bigN (part (b ++ c :: beI v n) (b.length + 1) v)) v = n := by
    generalize bigN (part (b ++ c :: beI v n) (b.length + 1) v) = z at h3 ⊢
    unfold sgnN
    rcases hv with rfl | rfl | rfl | rfl
    all_goals (simp at hn h3 ⊢; split <;> omega)
  rw [h1]
  unfold getMarkB
  rw [hf, if_neg (by rw [hs]; decide)]
  simp only [Int.toNat_natCast]
  rw [if_neg (by intro e; rcases e with e | e; exact absurd e (by decide); omega), if_pos hc, h4, if_pos (inR_yes hm (by omega)), h2]
theorem putBig_is {n : Int} {v : Nat} (hv : v = 1 ∨ v = 2 ∨ v = 4 ∨ v = 8) (hn : 0 ≤ n ∧ n < 256 ^ v) : putBig n v = beI v n := by
  refine putBig_yes ?_ ?_
  · rcases hv with rfl | rfl | rfl | rfl <;> rfl
  · unfold fitsB
    rcases hv with rfl | rfl | rfl | rfl <;> simp at hn ⊢ <;> omega
theorem u8_int {z : Int} (h : 0 ≤ z ∧ z < 256) : (((UInt8.ofNat z.toNat).toNat : Nat) : Int) = z := by
  rw [UInt8.toNat_ofNat_of_lt' (by show z.toNat < 256; omega)]; omega
theorem getMark_putMany {b : List UInt8} {K few base short long n : Int} (hK : 7 ≤ K ∧ K ≤ 10) (hn : 0 ≤ n ∧ n ≤ 65535)
    (hb : ∀ z, 0 ≤ z → z < few → 0 ≤ base + z ∧ base + z < 256 ∧ shortM (base + z) = (K, z, true))
    (hs : short ≠ 0 → (0 ≤ short ∧ short < 256) ∧ (shortM short).2.2 = false ∧ formM short = (K, 1) ∧ ¬ (208 ≤ short ∧ short ≤ 211))
    (hl : (0 ≤ long ∧ long < 256) ∧ (shortM long).2.2 = false ∧ formM long = (K, 2) ∧ ¬ (208 ≤ long ∧ long ≤ 211)) :
    getMark (b ++ manyB few base short long n) b.length = (K, n, ((b ++ manyB few base short long n).length : Int), 0) := by
  unfold manyB
  split
  · rename_i hf
    obtain ⟨h1, h2, h3⟩ := hb n hn.1 hf
    exact getMark_one (by rw [u8_int ⟨h1, h2⟩]; exact h3)
  split
  · rename_i hf
    obtain ⟨h1, h2, h3, h4⟩ := hs hf.2
    have hc := u8_int h1
    rw [show (1 : Int) = ((1 : Nat) : Int) from rfl, putBig_is (by decide) ⟨hn.1, by simp; omega⟩]
    exact getMark_many (by rw [hc]; exact h2) (by rw [hc]; exact h3) hK (by omega) ⟨hn.1, by simp; omega⟩ hn.2
  · obtain ⟨h1, h2, h3, h4⟩ := hl
    have hc := u8_int h1
    rw [show (2 : Int) = ((2 : Nat) : Int) from rfl, putBig_is (by decide) ⟨hn.1, by simp; omega⟩]
    exact getMark_many (by rw [hc]; exact h2) (by rw [hc]; exact h3) hK (by omega) ⟨hn.1, by simp; omega⟩ hn.2
theorem getMark_putInt {b : List UInt8} {n : Int} (hn : -1000000000000000 ≤ n ∧ n ≤ 1000000000000000) : getMark (b ++ intB n) b.length = (3, n, ((b ++ intB n).length : Int), 0) := by
  by_cases h1 : -32 ≤ n ∧ n ≤ 127
  · rw [intB_one h1]
    refine getMark_one ?_
    rw [u8_int (by omega)]
    unfold shortM
    by_cases h0 : 0 ≤ n
    · rw [show n % 256 = n by omega, if_pos (by omega)]
    · rw [show n % 256 = n + 256 by omega, if_neg (by omega), if_neg (by omega), if_neg (by omega), if_neg (by omega), if_neg (by omega), if_neg (by omega), if_pos (by omega)]
      congr 2; omega
  by_cases h2 : 127 < n
  · by_cases a1 : n < 256
    · rw [intB_pos h2 (v := ((1 : Nat) : Int)) (by unfold widthFor; rw [if_neg (by omega), if_pos a1]; rfl), putBig_is (by decide) ⟨by omega, by simp; omega⟩]
      exact getMark_uint (by decide) (by decide) (by decide) ⟨by omega, by simp; omega⟩ hn.2
    by_cases a2 : n < 65536
    · rw [intB_pos h2 (v := ((2 : Nat) : Int)) (by unfold widthFor; rw [if_neg (by omega), if_neg a1, if_pos a2]; rfl), putBig_is (by decide) ⟨by omega, by simp; omega⟩]
      exact getMark_uint (by decide) (by decide) (by decide) ⟨by omega, by simp; omega⟩ hn.2
    by_cases a4 : n < 4294967296
    · rw [intB_pos h2 (v := ((4 : Nat) : Int)) (by unfold widthFor; rw [if_neg (by omega), if_neg a1, if_neg a2, if_pos a4]; rfl), putBig_is (by decide) ⟨by omega, by simp; omega⟩]
      exact getMark_uint (by decide) (by decide) (by decide) ⟨by omega, by simp; omega⟩ hn.2
    · rw [intB_pos h2 (v := ((8 : Nat) : Int)) (by unfold widthFor; rw [if_neg (by omega), if_neg a1, if_neg a2, if_neg a4]; rfl), putBig_is (by decide) ⟨by omega, by simp; omega⟩]
      exact getMark_uint (by decide) (by decide) (by decide) ⟨by omega, by simp; omega⟩ hn.2
  by_cases b1 : -128 ≤ n
  · rw [intB_1 b1 (by omega)]
    exact getMark_sint (by decide) (by decide) (by decide) (by decide) ⟨by simp; omega, by omega⟩ hn.1
  by_cases b2 : -32768 ≤ n
  · rw [intB_2 b2 (by omega)]
    exact getMark_sint (by decide) (by decide) (by decide) (by decide) ⟨by simp; omega, by omega⟩ hn.1
  by_cases b4 : -2147483648 ≤ n
  · rw [intB_4 b4 (by omega)]
    exact getMark_sint (by decide) (by decide) (by decide) (by decide) ⟨by simp; omega, by omega⟩ hn.1
  · have e : intB n = [211] ++ beI 8 n := by unfold intB; rw [if_neg (by omega), if_neg (by omega), if_neg (by omega), if_neg (by omega), if_neg (by omega)]; rfl
    rw [e]
    exact getMark_sint (by decide) (by decide) (by decide) (by decide) ⟨by simp; omega, by omega⟩ hn.1
theorem getMark_putFlt {b : List UInt8} {n : Int} (h : markFlt n = true) (hn : 0 ≤ n ∧ n < 4294967296) : getMark (b ++ (202 :: putBig n 4)) b.length = (4, n, ((b ++ (202 :: putBig n 4)).length : Int), 0) := by
  rw [show (4 : Int) = ((4 : Nat) : Int) from rfl, putBig_is (by decide) ⟨hn.1, by simp; omega⟩]
  obtain ⟨h1, h2, h3⟩ := getMark_big (b := b) (c := 202) (n := n) (v := 4)
  rw [Int.emod_eq_of_lt hn.1 (by simp; omega)] at h3
  unfold markFlt at h
  rw [Bool.and_eq_true] at h
  have h5 := of_decide_eq_true h.2
  rw [h1]
  unfold getMarkB
  rw [show formM (((202 : UInt8).toNat : Nat) : Int) = (4, 4) by decide, if_neg (by decide)]
  simp only [show (4 : Int).toNat = 4 from rfl]
  rw [if_neg (by intro e; rcases e with e | e; exact absurd e (by decide); omega), if_neg (by decide), if_neg (by decide), if_neg (by decide), if_pos True.intro, h3, if_pos h.1, h5, h2]
  rfl
theorem getMark_put {b : List UInt8} {K N : Int} (h : markOk K N = true) (hf : K = 4 → 0 ≤ N ∧ N < 4294967296) : getMark (b ++ markB K N) b.length = (K, N, ((b ++ markB K N).length : Int), 0) := by
  by_cases h1 : K = 1
  · subst h1
    have hn := of_decide_eq_true (show decide (N = 0) = true from h)
    subst hn
    rw [markB_yes h (x := [192]) rfl]
    exact getMark_one (by decide)
  by_cases h2 : K = 2
  · subst h2
    have hn := of_decide_eq_true (show decide (N = 0 ∨ N = 1) = true from h)
    rw [markB_yes h (x := [UInt8.ofNat (194 + N).toNat]) rfl]
    rcases hn with rfl | rfl <;> exact getMark_one (by decide)
  by_cases h3 : K = 3
  · subst h3
    rw [markB_yes h (x := intB N) rfl]
    exact getMark_putInt (inR_iff.1 (show inR N (-1000000000000000) 1000000000000000 = true from h))
  by_cases h4 : K = 4
  · subst h4
    rw [markB_yes h (x := 202 :: putBig N 4) rfl]
    exact getMark_putFlt h (hf rfl)
  by_cases h5 : K = 5
  · subst h5
    have hn := inR_iff.1 (show inR N 0 2 = true from h)
    rw [markB_yes h (x := [212, 1, UInt8.ofNat N.toNat]) rfl]
    have hn3 : N = 0 ∨ N = 1 ∨ N = 2 := by omega
    have e : [212, 1, UInt8.ofNat N.toNat] = 212 :: beI 2 (256 + N) := by rcases hn3 with rfl | rfl | rfl <;> decide
    rw [e]
    obtain ⟨a1, a2, a3⟩ := getMark_big (b := b) (c := 212) (n := 256 + N) (v := 2)
    rw [Int.emod_eq_of_lt (by omega) (by simp; omega)] at a3
    rw [a1]
    unfold getMarkB
    rw [show formM (((212 : UInt8).toNat : Nat) : Int) = (5, 2) by decide, if_neg (by decide)]
    simp only [show (2 : Int).toNat = 2 from rfl]
    rw [if_neg (by intro e; rcases e with e | e; exact absurd e (by decide); omega), if_neg (by decide), if_neg (by decide), if_pos True.intro, if_pos (by omega), a3, a2, show 256 + N - 256 = N by omega]
  have h7 : 7 ≤ K ∧ K ≤ 10 := by
    unfold markOk at h
    rw [if_neg h1, if_neg h2, if_neg h3, if_neg h4, if_neg h5] at h
    split at h
    · assumption
    · cases h
  have hn : 0 ≤ N ∧ N ≤ 65535 := by
    unfold markOk at h
    rw [if_neg h1, if_neg h2, if_neg h3, if_neg h4, if_neg h5, if_pos h7] at h
    exact inR_iff.1 h
  have hk : K = 7 ∨ K = 8 ∨ K = 9 ∨ K = 10 := by omega
  clear h1 h2 h3 h4 h5 hf
  rcases hk with rfl | rfl | rfl | rfl
  · rw [markB_yes h (x := manyB 32 160 217 218 N) rfl]
    exact getMark_putMany (by decide) hn (fun z hz hz2 => ⟨by omega, by omega, by unfold shortM; rw [if_neg (by omega), if_neg (by omega), if_neg (by omega), if_pos (by omega)]; congr 2; omega⟩) (fun _ => by decide) (by decide)
  · rw [markB_yes h (x := manyB 0 0 196 197 N) rfl]
    exact getMark_putMany (by decide) hn (fun z hz hz2 => by omega) (fun _ => by decide) (by decide)
  · rw [markB_yes h (x := manyB 16 144 0 220 N) rfl]
    exact getMark_putMany (by decide) hn (fun z hz hz2 => ⟨by omega, by omega, by unfold shortM; rw [if_neg (by omega), if_neg (by omega), if_pos (by omega)]; congr 2; omega⟩) (fun hh => absurd rfl hh) (by decide)
  · rw [markB_yes h (x := manyB 16 128 0 222 N) rfl]
    exact getMark_putMany (by decide) hn (fun z hz hz2 => ⟨by omega, by omega, by unfold shortM; rw [if_neg (by omega), if_pos (by omega)]; congr 2; omega⟩) (fun hh => absurd rfl hh) (by decide)
end Go.Proofs.Ytihhedmehlemmaa

namespace Go.Proofs.Ytihhedmehlemmaa
open Go.RowKit

theorem markFlt_bd {n : Int} (h : markFlt n = true) : 0 ≤ n ∧ n < 4294967296 := by
  obtain ⟨a, e, ok, hv⟩ := bitsFltV_shape n
  cases ok with
  | false => rw [markFlt_no hv] at h; cases h
  | true =>
    rw [markFlt_yes hv] at h
    have h1 := of_decide_eq_true h
    have h2 := bitsFltV_ok hv
    have h3 := fltOk_bounds h2
    by_cases hm : a < 0
    · rw [fltBits_neg h2 hm] at h1; omega
    · rw [fltBits_pos h2 hm] at h1
      have h4 : fltOk a e = true := h2
      omega
theorem Drawn.bel {w w' : World} (h : Drawn w w') : Below w.heap.size w w' := h.below _
set_option maxHeartbeats 8000000 in
theorem law_FnMarks (A : Option Addr) (n c : Nat) (b : List UInt8) (w : World) (h : Sl w w.heap.size 1 A n c (u8s b)) :
    Calls Try.prog 4 #[.slice A n c] w fun e' w' => e' = .returned (.bool true) ∧ Below w.heap.size w w' := by
  have hn9 : n ≤ 9223372036854775807 := by have := h.cap; have := h.max; unfold maxLen at *; omega
  have hbig := fun w1 => l_big A n c w1 hn9
  by_cases hn : 1048576 < n
  · rw [decide_eq_true hn] at hbig
    go_enter Try.func4, Try.ntmps4
    go_wp2_with (go_at_call 6; refine (hbig _).mono ?_; rintro e w1 ⟨rfl, rfl⟩)
    go_ret
    exact ⟨rfl, Below.refl _ _⟩
  · rw [decide_eq_false hn] at hbig
    have hnn : n ≤ 1048576 := by omega
    clear hn hn9
    go_enter Try.func4, Try.ntmps4
    go_wp2_with fail
    refine (hbig _).mono ?_; rintro e w1 ⟨rfl, rfl⟩
    go_wp2_with fail
    refine (s_DrawPutMark A n c b _ h hnn).mono ?_; rintro e w1 ⟨A1, k1, c1, l1, x, y, rfl, hA1, hk1, hy, hb1⟩
    have K := hb1.up (Below.one w1 (.cells #[.int .i64 x, .int .i64 y] 36))
    have BM := Blk.new w1 36 #[.int .i64 x, .int .i64 y]
    replace hA1 := hA1.below (Below.one w1 (.cells #[.int .i64 x, .int .i64 y] 36))
    obtain ⟨p0, p1⟩ := BM.box2v
    clear hbig hb1
    go_wp2_with fail
    refine (i_PutMark A1 k1 c1 l1 x y _ _ hA1.sl (Nat.le_refl _) (by omega) hy.2).mono ?_; rintro e w2 ⟨A2, n2, c2, rfl, hA2, hb2⟩
    have hl1 := hA1.sl.blen
    have hl2 := hA2.sl.blen
    replace BM := BM.below hb2 BM.lt
    replace hA1 := hA1.below hb2
    replace K := K.up hb2
    clear p0 p1 hb2
    go_wp2_with fail
    refine (s_DrawMarkFor A n c b _ ((h.below K).more K.size) hnn).mono ?_; rintro e w3 ⟨t, u, rfl, ht, hun, hb3⟩
    have hb3a := hb3.up (Below.one w3 (.cells (valCells t u) 26))
    have BV := Blk.new w3 26 (valCells t u)
    replace BM := BM.below hb3a BM.lt
    replace hA1 := hA1.below hb3a
    replace hA2 := hA2.below hb3a
    replace K := K.up hb3a
    have HUN := Lib.hid hun
    clear hun hb3 hb3a
    go_wp2_with fail
    refine (s_DrawSigned A n c b _ ((h.below K).more K.size) hnn).mono ?_; rintro e w4 ⟨sx, sy, rfl, hsx, hsy, hb4⟩
    replace BM := BM.below hb4 BM.lt
    replace BV := BV.below hb4 BV.lt
    replace hA1 := hA1.below hb4
    replace hA2 := hA2.below hb4
    replace K := K.up hb4
    clear hb4 h
    go_upto_region 7 with fail
    have hS0 := fun (w' : World) (hb : Below w4.heap.size w4 w') => (show (Box2v w' w1.heap.size x y ∧ BoxV w' w3.heap.size t u) ∧ Below w4.heap.size w4 w' from ⟨⟨(BM.below hb BM.lt).box2v, (BV.below hb BV.lt).boxV⟩, hb⟩)
    have hS2 := fun (w' w'' : World) (h : (Box2v w' w1.heap.size x y ∧ BoxV w' w3.heap.size t u) ∧ Below w4.heap.size w4 w') (hb : Below w'.heap.size w' w'') => hS0 w'' (h.2.up hb)
    have hP := fun (w' : World) (h : (Box2v w' w1.heap.size x y ∧ BoxV w' w3.heap.size t u) ∧ Below w4.heap.size w4 w') => s_PutMark A1 k1 c1 l1 x y w' _ ((hA1.sl.below h.2).more h.2.size) (Nat.le_refl _) (by omega) hy.2
    have hE := fun (w' : World) (h : (Box2v w' w1.heap.size x y ∧ BoxV w' w3.heap.size t u) ∧ Below w4.heap.size w4 w') A8 n8 c8 lo (hA8 : BS w' lo A8 n8 c8 (l1 ++ markB x y)) => l_same A2 n2 c2 (l1 ++ markB x y) A8 n8 c8 (l1 ++ markB x y) w' _ ((hA2.sl.below h.2).more h.2.size) hA8.sl
    have hMi := fun w' => i_MarkOk x y w'
    have hMs := fun w' => s_MarkOk x y w'
    have hFi := fun w' => i_MarkFor t.k t.n t.x t.s u.A u.n u.c w' ht.2.1.2 (by have := HUN.out; have := ht.2.2.2.1; omega)
    have hFs := fun w' => s_MarkFor t.k t.n t.x t.s u.A u.n u.c w' ht.2.1.2 (by have := HUN.out; have := ht.2.2.2.1; omega)
    have hZi := fun w' => i_SizeMark x y w' hy.2
    have hZs := fun w' => s_SizeMark x y w' hy.2
    generalize markFor t.k t.n t.x t.s.size u.n = mf at hFi hFs
    clear ht HUN hsx hsy
    go_region_held3 (fun w' => (Box2v w' w1.heap.size x y ∧ BoxV w' w3.heap.size t u) ∧ Below w4.heap.size w4 w')
      (first | exact hS0 _ (Below.refl _ _).drew | (refine hS2 _ _ ?_ hbA; assumption) | (refine hS2 _ _ ?_ (hdB.below _); assumption) | (refine hS2 _ _ ?_ hbC; assumption) | (refine hS2 _ _ ?_ hbD; assumption) | (refine hS2 _ _ ?_ hbE; assumption) | (refine hS2 _ _ ?_ hbF; assumption) | (refine hS2 _ _ ?_ hbG; assumption) | (refine hS2 _ _ ?_ hbH; assumption) | assumption)
      (first
        | (go_at_call 18; refine (hP _ (by assumption)).mono ?_; rintro e wa ⟨A8, n8, c8, rfl, hA8, hbA⟩)
        | (go_at_call 17; refine (hE _ (by assumption) _ _ _ _ hA8).mono ?_; rintro e wb ⟨rfl, hdB⟩)
        | (go_at_call 19; refine (hMi _).mono ?_; rintro e wc ⟨rfl, hbC⟩)
        | (go_at_call 20; refine (hMs _).mono ?_; rintro e wc ⟨rfl, hbD⟩)
        | (go_at_call 21; refine (hFi _).mono ?_; rintro e wc ⟨rfl, hbE⟩)
        | (go_at_call 22; refine (hFs _).mono ?_; rintro e wc ⟨rfl, hbF⟩)
        | (go_at_call 23; refine (hZi _).mono ?_; rintro e wc ⟨rfl, hbG⟩)
        | (go_at_call 24; refine (hZs _).mono ?_; rintro e wc ⟨rfl, hbH⟩)
        | (go_at_call 25; refine (i_Signed sx sy _).mono ?_; rintro e wc ⟨rfl, rfl⟩)
        | (go_at_call 26; refine (s_Signed sx sy _).mono ?_; rintro e wc ⟨rfl, rfl⟩))
    rename_i hHeld
    have kR := hHeld.2
    rename World => wR
    clear hS0 hS2 hP hE hMs hFi hFs hZs hHeld
    replace BM := BM.below kR BM.lt
    replace hA1 := hA1.below kR
    replace hA2 := hA2.below kR
    replace K := K.up kR
    clear kR BV
    obtain ⟨p0, p1⟩ := BM.box2v
    cases hok : markOk x y
    · rw [hok] at hMi
      rw [markB_no hok] at hZi
      rw [markB_no hok, List.append_nil] at hA2
      simp only [List.length_nil] at hZi
      have hSm : ∀ w', Below wR.heap.size wR w' → Calls Try.prog 17 #[.slice A2 n2 c2, .slice A1 k1 c1] w' fun e w'' => e = .returned (.bool true) ∧ Drawn w' w'' := fun w' hb => (l_same A2 n2 c2 l1 A1 k1 c1 l1 w' _ ((hA2.below hb).sl) ((hA1.below hb).sl)).mono fun e w'' ⟨h1, h2⟩ => ⟨by rw [h1, decide_eq_true rfl], h2⟩
      clear hok hl1 hl2
      go_wp2_with fail
      refine (hMi _).mono ?_; rintro e wf ⟨rfl, hbf⟩
      go_wp2_with fail
      refine (hSm _ hbf).mono ?_; rintro e wh ⟨rfl, hdh⟩
      have kh := hbf.up (hdh.below _)
      replace BM := BM.below kh BM.lt
      replace K := K.up kh
      clear p0 p1
      obtain ⟨p0, p1⟩ := BM.box2v
      go_wp2_with fail
      refine (hZi _).mono ?_; rintro e wi ⟨rfl, hbi⟩
      go_wp2_with fail
      go_ret
      exact ⟨rfl, K.up hbi⟩
    · rw [hok] at hMi
      have hput := getMark_put (b := l1) hok (fun hk => by subst hk; exact markFlt_bd hok)
      have hlb := markB_len x y
      rw [hl1, hl2] at hput
      rw [List.length_append] at hl2
      have hsz : (((markB x y).length : Nat) : Int) = (n2 : Int) - (k1 : Int) := by omega
      rw [hsz] at hZi
      have hG2 := fun w' (hs : Sl w' w'.heap.size 1 A2 n2 c2 (u8s (l1 ++ markB x y))) => i_GetMark A2 n2 c2 (l1 ++ markB x y) (k1 : Int) w' _ hs (Nat.le_refl _) (by omega) (by omega)
      simp only [hput, ret4, markRet] at hG2
      have hn1 : 0 ≤ (n2 : Int) - (k1 : Int) := by omega
      have hn2 : (n2 : Int) - (k1 : Int) ≤ 100 := by omega
      clear hok hput hlb hsz hl1 hl2
      go_wp2_with fail
      refine (hMi _).mono ?_; rintro e wf ⟨rfl, hbf⟩
      go_wp2_with fail
      refine (hG2 _ (hA2.below hbf).sl).mono ?_; rintro e wh ⟨rfl, hbh⟩
      have hbh2 := hbh.up (Below.one wh (.cells #[.int .i64 x, .int .i64 y] 36))
      have BY := Blk.new wh 36 #[.int .i64 x, .int .i64 y]
      replace BM := (BM.below hbf BM.lt).below hbh2 (BM.below hbf BM.lt).lt
      replace K := (K.up hbf).up hbh2
      clear p0 p1
      obtain ⟨r0, r1⟩ := BY.box2v
      obtain ⟨p0, p1⟩ := BM.box2v
      go_wp2_with fail
      refine (hZi _).mono ?_; rintro e wi ⟨rfl, hbi⟩
      go_wp2_with fail
      go_ret
      exact ⟨rfl, K.up hbi⟩
end Go.Proofs.Ytihhedmehlemmaa
