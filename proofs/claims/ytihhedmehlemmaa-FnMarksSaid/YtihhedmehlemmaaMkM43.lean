/- The number behind a mark's first byte: argument, l15Wide, l15Below. GetMark, of the program and of the reference. -/
import Derived.Test.YtihhedmehlemmaaMkMarkForm
set_option linter.unusedVariables false
set_option maxRecDepth 100000
set_option linter.unusedSimpArgs false
namespace Go.Proofs.Ytihhedmehlemmaa
open Go.RowKit

/-- n as a number with a sign, of v bytes. -/
def sgnN (n v : Nat) : Int := if 2 ^ (8 * v - 1) ≤ n then (n : Int) - 2 ^ (8 * v) else n
theorem bigN_le {l : List UInt8} {v : Nat} (h : l.length = v) (hv : v ≤ 7) : bigN l < 72057594037927936 :=
  Nat.lt_of_lt_of_le (bigN_lt l) (by rw [h]; exact Nat.le_trans (Nat.pow_le_pow_right (by decide) hv) (by decide))
theorem sgn_1 {n : Nat} (h : n < 256 ^ 1) : wrap64 ((n : Int) * 72057594037927936) / 72057594037927936 = sgnN n 1 := by
  unfold sgnN wrap64; simp at h ⊢; split <;> omega
theorem sgn_2 {n : Nat} (h : n < 256 ^ 2) : wrap64 ((n : Int) * 281474976710656) / 281474976710656 = sgnN n 2 := by
  unfold sgnN wrap64; simp at h ⊢; split <;> omega
theorem sgn_4 {n : Nat} (h : n < 256 ^ 4) : wrap64 ((n : Int) * 4294967296) / 4294967296 = sgnN n 4 := by
  unfold sgnN wrap64; simp at h ⊢; split <;> omega
theorem sgn_8 {n : Nat} (h : n < 256 ^ 8) : wrap64 (n : Int) = sgnN n 8 := by
  unfold sgnN wrap64; simp at h ⊢; split <;> omega
theorem i64_or_byte (x : Int) (c : Nat) (h : c < 256) : bits .or .i64 (wrap64 (x * 256)) (c : Int) = wrap64 (x * 256 + c) := by
  obtain ⟨y, hy⟩ : ∃ y : Nat, (y : Int) = (x * 256) % 18446744073709551616 := ⟨((x * 256) % 18446744073709551616).toNat, by omega⟩
  have h1 : BitVec.ofInt 64 (wrap64 (x * 256)) = BitVec.ofInt 64 (y : Int) := by
    apply BitVec.eq_of_toInt_eq
    rw [BitVec.toInt_ofInt, BitVec.toInt_ofInt]
    unfold wrap64
    simp only [Int.bmod_def]
    omega
  obtain ⟨z, hz⟩ : ∃ z, y = z * 2 ^ 8 := ⟨y / 256, by omega⟩
  show IntKind.i64.wrap ((BitVec.ofInt 64 (wrap64 (x * 256)) ||| BitVec.ofInt 64 (c : Int)).toNat : Int) = _
  rw [h1, BitVec.toNat_or, ofInt_u64 y (by omega), ofInt_u64 c (by omega), hz, Nat.mul_comm, ← Nat.two_pow_add_eq_or_of_lt (i := 8) (by omega) z, IntKind.wrap_i64]
  unfold wrap64
  omega
set_option maxHeartbeats 1600000 in
theorem i_argument_no (A : Option Addr) (m c : Nat) (b : List UInt8) (w : World) (B : Nat) (h : Sl w B 1 A m c (u8s b)) (hm : m = 1 ∨ m = 2 ∨ m = 4 ∨ m = 8) :
    Calls Try.prog 59 #[.slice A m c, .bool false] w fun e w' => e = .returned (.tuple #[.int .i64 (wrap64 (bigN b)), .bool (decide ((bigN b : Int) ≤ 1000000000000000))]) ∧ w = w' := by
  have hl := h.blen
  have hm8 : m ≤ 8 := by omega
  have hm1 : 1 ≤ m := by omega
  have HM := Lib.hid hm
  clear hm
  have hcap := h.cap
  obtain ⟨g, o, rfl, hg, hc⟩ := h.at_ (by omega)
  have hbl : ∀ k, k < m → ∃ hb : k < b.length, w.cell? ⟨g, o + k, none⟩ = some (.int .u8 (b[k].toNat : Int)) := fun k hk => ⟨by omega, hc _ _ (u8s_get b _ (by omega))⟩
  have hlow : ∀ k, k < m → bigN (part b 0 k) < 72057594037927936 := fun k hk => bigN_le (part_len (by omega)) (by omega)
  have hpm : part b 0 m = b := by simp [part, ← hl]
  clear hc h
  go_enter Try.func59, Try.ntmps59
  go_wp2_with fail
  go_loop [6, 8, 13] (fun x _ y => ∃ k : Nat, k ≤ m ∧ x = .int .u64 (bigN (part b 0 k) : Nat) ∧ y = .int .i64 k) (fun x _ y => m - (intOf y).toNat)
  case atStart => exact ⟨0, Nat.zero_le _, by simp [part, bigN], rfl⟩
  case round =>
    obtain ⟨k, hk, rfl, rfl⟩ := hrel
    by_cases hlt : k < m
    · obtain ⟨hkl, hcell⟩ := hbl k hlt
      have hps := part_succ (b := b) (i := 0) (k := k) (by omega)
      simp only [Nat.zero_add] at hps
      have hc8 := (b[k]).toNat_lt
      go_wp2
      go_round
      case rel => exact ⟨k + 1, by omega, by rw [or_byte _ _ (hlow k hlt), hps, bigN_snoc], by go_num⟩
      case measure => simp [intOf]; omega
    · have hkm : k = m := by omega
      subst hkm
      go_wp2
      exact bodyPost_ret (results_tmp2 Try.results59 _ _ _) rfl ⟨rfl, rfl⟩
set_option maxHeartbeats 1600000 in
theorem i_argument_yes (A : Option Addr) (m c : Nat) (b : List UInt8) (w : World) (B : Nat) (h : Sl w B 1 A m c (u8s b)) (hm : m = 1 ∨ m = 2 ∨ m = 4 ∨ m = 8) :
    Calls Try.prog 59 #[.slice A m c, .bool true] w fun e w' => e = .returned (.tuple #[.int .i64 (sgnN (bigN b) m), .bool (inR (sgnN (bigN b) m) (-1000000000000000) 1000000000000000)]) ∧ w = w' := by
  have hl := h.blen
  have hm8 : m ≤ 8 := by omega
  have hm1 : 1 ≤ m := by omega
  have HM := Lib.hid hm
  clear hm
  have hcap := h.cap
  obtain ⟨g, o, rfl, hg, hc⟩ := h.at_ (by omega)
  have hbl : ∀ k, k < m → ∃ hb : k < b.length, w.cell? ⟨g, o + k, none⟩ = some (.int .u8 (b[k].toNat : Int)) := fun k hk => ⟨by omega, hc _ _ (u8s_get b _ (by omega))⟩
  have hlow : ∀ k, k < m → bigN (part b 0 k) < 72057594037927936 := fun k hk => bigN_le (part_len (by omega)) (by omega)
  have hpm : part b 0 m = b := by simp [part, ← hl]
  clear hc h
  go_enter Try.func59, Try.ntmps59
  go_wp2_with fail
  go_loop [6, 8, 13] (fun x _ y => ∃ k : Nat, k ≤ m ∧ x = .int .u64 (bigN (part b 0 k) : Nat) ∧ y = .int .i64 k) (fun x _ y => m - (intOf y).toNat)
  case atStart => exact ⟨0, Nat.zero_le _, by simp [part, bigN], rfl⟩
  case round =>
    obtain ⟨k, hk, rfl, rfl⟩ := hrel
    by_cases hlt : k < m
    · obtain ⟨hkl, hcell⟩ := hbl k hlt
      have hps := part_succ (b := b) (i := 0) (k := k) (by omega)
      simp only [Nat.zero_add] at hps
      have hc8 := (b[k]).toNat_lt
      go_wp2
      go_round
      case rel => exact ⟨k + 1, by omega, by rw [or_byte _ _ (hlow k hlt), hps, bigN_snoc], by go_num⟩
      case measure => simp [intOf]; omega
    · have hkm : k = m := by omega
      have hb := bigN_lt b
      rw [hl] at hb
      have hm := HM.out
      obtain ⟨N, hN⟩ : ∃ N, N = bigN b := ⟨_, rfl⟩
      rw [hkm, hpm, ← hN]
      rw [← hN] at hb
      have HN := Lib.hid hN
      clear hkm hlow hbl hpm hN
      rcases hm with rfl | rfl | rfl | rfl
      · have e := sgn_1 hb
        go_wp2_with (go_at_call 50; refine (i_within _ _ _ _).mono ?_; rintro e w' ⟨rfl, rfl⟩)
        refine bodyPost_ret (results_tmp2 Try.results59 _ _ _) rfl ⟨?_, rfl⟩
        rw [← HN.out, ← e]; rfl
      · have e := sgn_2 hb
        go_wp2_with (go_at_call 50; refine (i_within _ _ _ _).mono ?_; rintro e w' ⟨rfl, rfl⟩)
        refine bodyPost_ret (results_tmp2 Try.results59 _ _ _) rfl ⟨?_, rfl⟩
        rw [← HN.out, ← e]; rfl
      · have e := sgn_4 hb
        go_wp2_with (go_at_call 50; refine (i_within _ _ _ _).mono ?_; rintro e w' ⟨rfl, rfl⟩)
        refine bodyPost_ret (results_tmp2 Try.results59 _ _ _) rfl ⟨?_, rfl⟩
        rw [← HN.out, ← e]; rfl
      · have e := sgn_8 hb
        go_wp2_with (go_at_call 50; refine (i_within _ _ _ _).mono ?_; rintro e w' ⟨rfl, rfl⟩)
        refine bodyPost_ret (results_tmp2 Try.results59 _ _ _) rfl ⟨?_, rfl⟩
        rw [← HN.out, ← e]; rfl
theorem s_l15Wide (A : Option Addr) (m c : Nat) (b : List UInt8) (j v : Nat) (w : World) (B : Nat) (h : Sl w B 1 A m c (u8s b)) (hm : m ≤ 1048576) (hj : j ≤ m) (hv : v ≤ 8) (hjv : j + v ≤ m) :
    Calls Try.prog 65 #[.slice A m c, .int .i64 j, .int .i64 v] w fun e w' => e = .returned (.tuple #[.int .i64 (if (getBig b j v).2 = true then (getBig b j v).1 else 0), .int .i64 (if (getBig b j v).2 = true then 0 else 2)]) ∧ w = w' := by
  obtain ⟨⟨n, ok⟩, hG⟩ : ∃ g, getBig b j v = g := ⟨_, rfl⟩
  have hc := s_GetBig A m c b j v w B h hm (by omega)
  rw [hG] at hc ⊢
  have hc := Lib.hid hc
  cases ok
  all_goals
    go_enter Try.func65, Try.ntmps65
    go_wp2_with (go_at_call 92; refine (hc.out).mono ?_; rintro e w' ⟨rfl, rfl⟩)
    exact bodyPost_ret (results_tmp2 Try.results65 _ _ _) rfl ⟨rfl, rfl⟩
theorem s_l15Wide_short (A : Option Addr) (m c : Nat) (j v : Nat) (w : World) (hm : m ≤ 1048576) (hj : j ≤ m) (hv : v ≤ 8) (hjv : m < j + v) :
    Calls Try.prog 65 #[.slice A m c, .int .i64 j, .int .i64 v] w fun e w' => e = .returned (.tuple #[.int .i64 0, .int .i64 1]) ∧ w = w' := by
  go_enter Try.func65, Try.ntmps65
  go_wp2_with fail
  exact bodyPost_ret (results_tmp2 Try.results65 _ _ _) rfl ⟨rfl, rfl⟩
def sgd (n w : Int) : Int :=
  if 0 ≤ n ∧ n ≤ 1000000000000000 then
    if w = 1 then (if 128 ≤ n then n - 256 else n) else if w = 2 then (if 32768 ≤ n then n - 65536 else n) else if w = 4 then (if 2147483648 ≤ n then n - 4294967296 else n) else n
  else n
theorem sgd_out {n w : Int} (h : ¬ (0 ≤ n ∧ n ≤ 1000000000000000)) : sgd n w = n := if_neg h
theorem sgd_else {n w : Int} (h1 : w ≠ 1) (h2 : w ≠ 2) (h4 : w ≠ 4) : sgd n w = n := by
  unfold sgd; rw [if_neg h1, if_neg h2, if_neg h4]; simp
set_option maxHeartbeats 1000000 in
theorem s_Sgd (n v : Int) (w : World) :
    Calls Try.prog 26 #[.int .i64 n, .int .i64 v] w fun e w' => e = .returned (.int .i64 (sgd n v)) ∧ w = w' := by
  by_cases hv : v = 1 ∨ v = 2 ∨ v = 4
  · by_cases hn : 0 ≤ n ∧ n ≤ 1000000000000000
    · have hb := inR_yes hn.1 hn.2
      obtain ⟨hn1, hn2⟩ := hn
      rcases hv with rfl | rfl | rfl
      all_goals
        go_enter Try.func26, Try.ntmps26
        go_wp2_with (go_at_call 53; refine (s_l1In _ _ _ _).mono ?_; rintro e w' ⟨rfl, rfl⟩)
        all_goals (go_ret; exact ⟨ret_int (by unfold sgd; rw [if_pos ⟨hn1, hn2⟩]; simp; omega), rfl⟩)
    · have hb : inR n 0 1000000000000000 = false := inR_no (by omega)
      rcases hv with rfl | rfl | rfl
      all_goals
        go_enter Try.func26, Try.ntmps26
        go_wp2_with (go_at_call 53; refine (s_l1In _ _ _ _).mono ?_; rintro e w' ⟨rfl, rfl⟩)
        go_ret
        exact ⟨ret_int (sgd_out hn).symm, rfl⟩
  · have h1 : (v == 1) = false := by simp; omega
    have h2 : (v == 2) = false := by simp; omega
    have h4 : (v == 4) = false := by simp; omega
    have h1' : (v != 1) = true := by simp; omega
    have h2' : (v != 2) = true := by simp; omega
    have h4' : (v != 4) = true := by simp; omega
    go_enter Try.func26, Try.ntmps26
    go_wp2_with fail
    go_ret
    exact ⟨ret_int (sgd_else (by omega) (by omega) (by omega)).symm, rfl⟩
theorem s_l15Below_short (A : Option Addr) (m c : Nat) (j v : Nat) (w : World) (hm : m ≤ 1048576) (hj : j ≤ m) (hv : v ≤ 8) (hjv : m < j + v) :
    Calls Try.prog 66 #[.slice A m c, .int .i64 j, .int .i64 v] w fun e w' => e = .returned (.tuple #[.int .i64 0, .int .i64 1]) ∧ w = w' := by
  go_enter Try.func66, Try.ntmps66
  go_wp2_with fail
  exact bodyPost_ret (results_tmp2 Try.results66 _ _ _) rfl ⟨rfl, rfl⟩
theorem sgn_signed {n v : Nat} (hv : v = 1 ∨ v = 2 ∨ v = 4) (h : n < 256 ^ v) : sgd n v = sgnN n v := by
  rcases hv with rfl | rfl | rfl <;> simp at h <;> unfold sgd sgnN <;> rw [if_pos (by omega)] <;> simp <;> (repeat' split) <;> omega
theorem sgn_in {n v : Nat} (hv : v = 1 ∨ v = 2 ∨ v = 4) (h : n < 256 ^ v) : -1000000000000000 ≤ sgnN n v ∧ sgnN n v ≤ 1000000000000000 := by
  rcases hv with rfl | rfl | rfl <;> simp at h <;> unfold sgnN <;> simp <;> (repeat' split) <;> omega
theorem big_small {b : List UInt8} {j v : Nat} (hv : v = 1 ∨ v = 2 ∨ v = 4) (hjv : j + v ≤ b.length) : getBig b j v = ((bigN (part b j v) : Int), true) := by
  have h1 := bigN_lt (part b j v)
  rw [part_len (by omega)] at h1
  have h2 : bigN (part b j v) ≤ 1000000000000000 := Nat.le_of_lt_succ (Nat.lt_of_lt_of_le h1 (Nat.le_trans (Nat.pow_le_pow_right (by decide) (show v ≤ 4 by omega)) (by decide)))
  refine getBig_yes ?_ (by simpa using h2)
  simp only [bigOk, isW, Bool.and_eq_true, decide_eq_true_eq]
  omega
set_option maxHeartbeats 1600000 in
theorem s_l15Below_few (A : Option Addr) (m c : Nat) (b : List UInt8) (j v : Nat) (w : World) (B : Nat) (h : Sl w B 1 A m c (u8s b)) (hm : m ≤ 1048576) (hj : j ≤ m) (hv : v = 1 ∨ v = 2 ∨ v = 4) (hjv : j + v ≤ m) :
    Calls Try.prog 66 #[.slice A m c, .int .i64 j, .int .i64 v] w fun e w' => e = .returned (.tuple #[.int .i64 (sgnN (bigN (part b j v)) v), .int .i64 0]) ∧ w = w' := by
  have hl := h.blen
  have hlt := bigN_lt (part b j v)
  rw [part_len (by omega)] at hlt
  have hG := big_small (b := b) (j := j) hv (by omega)
  have hS := sgn_signed hv hlt
  have hc := s_GetBig A m c b j v w B h hm (by omega)
  rw [hG] at hc
  have hv8 : v < 8 := by omega
  have hd := s_Sgd (bigN (part b j v)) v w
  rw [hS] at hd
  have hc := Lib.hid hc
  have hd := Lib.hid hd
  clear hv hS hG hlt
  go_enter Try.func66, Try.ntmps66
  go_wp2_with (first | (go_at_call 92; refine (hc.out).mono ?_; rintro e w' ⟨rfl, rfl⟩) | (go_at_call 26; refine (hd.out).mono ?_; rintro e w' ⟨rfl, rfl⟩))
  exact bodyPost_ret (results_tmp2 Try.results66 _ _ _) rfl ⟨rfl, rfl⟩
end Go.Proofs.Ytihhedmehlemmaa

namespace Go.Proofs.Ytihhedmehlemmaa
open Go.RowKit

theorem wrap64_shl (x : Int) : wrap64 (wrap64 x * 256) = wrap64 (x * 256) := by unfold wrap64; omega
set_option maxHeartbeats 1600000 in
theorem s_l15Below_8 (A : Option Addr) (m c : Nat) (b : List UInt8) (j : Nat) (w : World) (B : Nat) (h : Sl w B 1 A m c (u8s b)) (hm : m ≤ 1048576) (hj : j ≤ m) (hjv : j + 8 ≤ m) (v : Int) (hv : sgnN (bigN (part b j 8)) 8 = v) (r q : Int) (hrq : (inR v (-1000000000000000) 1000000000000000 = true ∧ r = v ∧ q = 0) ∨ (inR v (-1000000000000000) 1000000000000000 = false ∧ r = 0 ∧ q = 2)) :
    Calls Try.prog 66 #[.slice A m c, .int .i64 j, .int .i64 8] w fun e w' => e = .returned (.tuple #[.int .i64 r, .int .i64 q]) ∧ w = w' := by
  have HR := Lib.hid hrq
  clear hrq
  have hl := h.blen
  have hbn := bigN_lt (part b j 8)
  rw [part_len (by omega)] at hbn
  have hv8 := sgn_8 hbn
  rw [hv] at hv8
  obtain ⟨g, o, rfl, hg, hjl, hc⟩ := h.byte (k := j) (by omega)
  by_cases h128 : 128 ≤ (b[j]'(by omega)).toNat
  · skip
    go_enter Try.func66, Try.ntmps66
    go_wp2_with fail
    go_loop [10, 11] (fun x y => ∃ k : Nat, k ≤ 8 ∧ x = .int .i64 (wrap64 ((-1) * 256 ^ k + (bigN (part b j k) : Nat))) ∧ y = .int .i64 k) (fun x y => 8 - (intOf y).toNat)
    case atStart => exact ⟨0, Nat.zero_le _, by simp [part, bigN, wrap64], rfl⟩
    case round =>
      obtain ⟨k, hk, rfl, rfl⟩ := hrel
      by_cases hlt : k < 8
      · obtain ⟨g, o, eA, hg, hkl, hc⟩ := h.byte (k := j + k) (by omega)
        cases eA
        have hps := part_succ (b := b) (i := j) (k := k) (by omega)
        have hc8 := (b[j + k]).toNat_lt
        go_wp2
        go_round
        case rel => exact ⟨k + 1, by omega, by rw [wrap64_shl, i64_or_byte _ _ (by omega), hps, bigN_snoc]; simp [Int.pow_succ]; congr 1; omega, by go_num⟩
        case measure => simp [intOf]; omega
      · have hk8 : k = 8 := by omega
        subst hk8
        have e : wrap64 ((-1) * 256 ^ 8 + (bigN (part b j 8) : Nat)) = v := by rw [← hv8]; unfold wrap64; omega
        rw [e]
        rcases HR.out with ⟨hr, rfl, rfl⟩ | ⟨hr, rfl, rfl⟩
        all_goals
          have hr2 := hr
          go_wp2_with (go_at_call 53; refine (s_l1In _ _ _ _).mono ?_; rintro e w' ⟨rfl, rfl⟩; rw [hr2])
          exact bodyPost_ret (results_tmp2 Try.results66 _ _ _) rfl ⟨rfl, rfl⟩
  · skip
    go_enter Try.func66, Try.ntmps66
    go_wp2_with fail
    go_loop [10, 11] (fun x y => ∃ k : Nat, k ≤ 8 ∧ x = .int .i64 (wrap64 (0 * 256 ^ k + (bigN (part b j k) : Nat))) ∧ y = .int .i64 k) (fun x y => 8 - (intOf y).toNat)
    case atStart => exact ⟨0, Nat.zero_le _, by simp [part, bigN, wrap64], rfl⟩
    case round =>
      obtain ⟨k, hk, rfl, rfl⟩ := hrel
      by_cases hlt : k < 8
      · obtain ⟨g, o, eA, hg, hkl, hc⟩ := h.byte (k := j + k) (by omega)
        cases eA
        have hps := part_succ (b := b) (i := j) (k := k) (by omega)
        have hc8 := (b[j + k]).toNat_lt
        go_wp2
        go_round
        case rel => exact ⟨k + 1, by omega, by rw [wrap64_shl, i64_or_byte _ _ (by omega), hps, bigN_snoc]; simp [Int.pow_succ]; congr 1; omega, by go_num⟩
        case measure => simp [intOf]; omega
      · have hk8 : k = 8 := by omega
        subst hk8
        have e : wrap64 (0 * 256 ^ 8 + (bigN (part b j 8) : Nat)) = v := by rw [← hv8]; unfold wrap64; omega
        rw [e]
        rcases HR.out with ⟨hr, rfl, rfl⟩ | ⟨hr, rfl, rfl⟩
        all_goals
          have hr2 := hr
          go_wp2_with (go_at_call 53; refine (s_l1In _ _ _ _).mono ?_; rintro e w' ⟨rfl, rfl⟩; rw [hr2])
          exact bodyPost_ret (results_tmp2 Try.results66 _ _ _) rfl ⟨rfl, rfl⟩
end Go.Proofs.Ytihhedmehlemmaa
