/- NumText: a number in decimal. Decimal numbers: Digits, DecOk on both sides. -/
import Derived.Test.YtpafgmlkbbbmhaaMuM21
import Derived.Lib.ItoaLen
import Derived.Lib.ItoaMem
import Derived.Lib.AppendIntMem
import Derived.Test.YtpafgmlkbbbmhaaShelf
set_option linter.unusedVariables false
set_option maxRecDepth 100000
set_option linter.unusedSimpArgs false
namespace Go.Proofs.Ytpafgmlkbbbmhaa
open Go.RowKit

def numL (n : Int) : List UInt8 := Lib.itoa n
theorem numL_len {n : Int} (h : -9223372036854775808 ≤ n ∧ n ≤ 9223372036854775807) : (numL n).length ≤ 21 := Lib.itoa_length_le n h.1 h.2
theorem numL_zero : numL 0 = [48] := by unfold numL Lib.itoa; rw [if_neg (by decide)]; exact Lib.decDigits_one (by decide)
theorem numL_pos {n : Int} (h : 0 ≤ n) : numL n = Lib.decDigits n.natAbs := by unfold numL Lib.itoa; rw [if_neg (by omega)]; congr 1; omega
theorem numL_neg {n : Int} (h : n < 0) : numL n = 45 :: Lib.decDigits n.natAbs := by unfold numL Lib.itoa; rw [if_pos h]
def digs0 (u : Nat) : List UInt8 := if u = 0 then [] else Lib.decDigits u
theorem digs0_step {u : Nat} (h : u ≠ 0) : digs0 u = digs0 (u / 10) ++ [UInt8.ofNat (48 + u % 10)] := by
  unfold digs0
  rw [if_neg h]
  by_cases h2 : u < 10
  · rw [if_pos (by omega), Lib.decDigits_one h2, Nat.mod_eq_of_lt h2]; rfl
  · rw [if_neg (by omega), Lib.decDigits, dif_neg h2]
theorem digs0_len {u : Nat} (h : u ≤ 9223372036854775808) : (digs0 u).length ≤ 21 := by
  unfold digs0
  split
  · simp
  · by_cases h2 : u ≤ 9223372036854775807
    · have := Lib.itoa_length_le (u : Int) (by omega) (by omega); rw [Lib.itoa_nonneg] at this; exact this
    · have := Lib.itoa_length_le (-(u : Int)) (by omega) (by omega); rw [Lib.itoa_neg u (by omega), List.length_cons] at this; omega
end Go.Proofs.Ytpafgmlkbbbmhaa

namespace Go.Proofs.Ytpafgmlkbbbmhaa
open Go.RowKit

/-- The number of decimal digits. -/
def digN (n : Int) : Nat := (Lib.decDigits n.natAbs).length
theorem decDigits_len_step {u : Nat} (h : ¬ u < 10) : (Lib.decDigits u).length = (Lib.decDigits (u / 10)).length + 1 := by
  rw [Lib.decDigits, dif_neg h]; simp
theorem decDigits_len_one {u : Nat} (h : u < 10) : (Lib.decDigits u).length = 1 := by rw [Lib.decDigits_one h]; rfl
theorem decDigits_len_pos (u : Nat) : 1 ≤ (Lib.decDigits u).length := by
  by_cases h : u < 10
  · rw [decDigits_len_one h]; exact Nat.le_refl _
  · rw [decDigits_len_step h]; omega
theorem digN_pos (n : Int) : 1 ≤ digN n := by
  unfold digN
  by_cases h : n.natAbs < 10
  · rw [decDigits_len_one h]; exact Nat.le_refl _
  · rw [decDigits_len_step h]; omega
theorem digN_le {n : Int} (h : -9223372036854775808 ≤ n ∧ n ≤ 9223372036854775807) : digN n ≤ 21 := by
  have h1 := numL_len h
  unfold digN
  by_cases h0 : 0 ≤ n
  · rw [numL_pos h0] at h1; exact h1
  · rw [numL_neg (by omega), List.length_cons] at h1; omega
def decOk (n x : Int) : Bool := if x = 0 then inR n (-1000000000000000) 1000000000000000 else inR x (-16) (-1) && (decide (digN n ≤ 17) && !(n.tmod 10 == 0))
theorem decOk_zero (n : Int) : decOk n 0 = inR n (-1000000000000000) 1000000000000000 := by simp [decOk]
def digR (x : Int) : Nat := if x = 0 then 0 else (Lib.decDigits x.natAbs).length
theorem digR_zero : digR 0 = 0 := by simp [digR]
theorem digR_step {x : Int} (h : x ≠ 0) : digR x = digR (x.tdiv 10) + 1 := by
  unfold digR
  rw [if_neg h]
  have e : (x.tdiv 10).natAbs = x.natAbs / 10 := by rw [Int.natAbs_tdiv]; rfl
  by_cases h2 : x.natAbs < 10
  · rw [if_pos (by omega), decDigits_len_one h2]
  · rw [if_neg (by omega), e, decDigits_len_step h2]
theorem digN_eq (n : Int) : digN n = digR (n.tdiv 10) + 1 := by
  unfold digN digR
  have e : (n.tdiv 10).natAbs = n.natAbs / 10 := by rw [Int.natAbs_tdiv]; rfl
  by_cases h2 : n.natAbs < 10
  · rw [if_pos (by omega), decDigits_len_one h2]
  · rw [if_neg (by omega), e, decDigits_len_step h2]
theorem tdiv10_bd {x : Int} (h : -9223372036854775808 ≤ x ∧ x ≤ 9223372036854775807) : -922337203685477580 ≤ x.tdiv 10 ∧ x.tdiv 10 ≤ 922337203685477580 := by
  have e : (x.tdiv 10).natAbs = x.natAbs / 10 := by rw [Int.natAbs_tdiv]; rfl
  omega
set_option maxHeartbeats 1000000 in
theorem s_Digits (n : Int) (w : World) (hn : -9223372036854775808 ≤ n ∧ n ≤ 9223372036854775807) :
    Calls Try.prog 49 #[.int .i64 n] w fun e w' => e = .returned (.int .i64 (digN n)) ∧ w = w' := by
  obtain ⟨R, hR⟩ : ∃ R : Nat, digN n = R := ⟨_, rfl⟩
  have hR2 : R ≤ 21 := by rw [← hR]; exact digN_le hn
  rw [hR]
  have hb0 := tdiv10_bd hn
  have HR : Hid (1 + digR (n.tdiv 10) = R) := Lib.hid (by rw [← hR, digN_eq]; omega)
  clear hR
  go_enter Try.func49, Try.ntmps49
  go_wp2_with fail
  go_loop [3, 4] (fun v3 v4 => ∃ (x : Int) (k : Nat), v3 = .int .i64 k ∧ v4 = .int .i64 x ∧ k ≤ R ∧ (-922337203685477580 ≤ x ∧ x ≤ 922337203685477580) ∧ Hid (k + digR x = R)) (fun _ v4 => (intOf v4).natAbs)
  case atStart => exact ⟨n.tdiv 10, 1, rfl, rfl, by have := HR.out; omega, hb0, HR⟩
  case round =>
    obtain ⟨x, k, rfl, rfl, hk, hx, hH⟩ := hrel
    clear HR hb0
    by_cases h0 : x = 0
    · subst h0
      have hh := hH.out
      rw [digR_zero, Nat.add_zero] at hh
      subst hh
      clear hH
      go_wp2_with fail
      go_ret
      exact ⟨rfl, rfl⟩
    · have hz : (x == 0) = false := by simpa using h0
      have hz2 : (x != 0) = true := by simpa using h0
      have hh := hH.out
      rw [digR_step h0] at hh
      have HH : Hid (k + 1 + digR (x.tdiv 10) = R) := Lib.hid (by omega)
      have hbx := tdiv10_bd (x := x) (by omega)
      have hab : (x.tdiv 10).natAbs = x.natAbs / 10 := by rw [Int.natAbs_tdiv]; rfl
      have Hab := Lib.hid hab
      clear hh hH hab
      go_wp2_with fail
      go_round
      case rel => exact ⟨x.tdiv 10, k + 1, by go_num, rfl, by have := HH.out; omega, hbx, HH⟩
      case measure => show (x.tdiv 10).natAbs < x.natAbs; rw [Hab.out]; omega
theorem decDigits_head (u : Nat) : ∀ a, (Lib.decDigits u).head? = some a → 48 ≤ a.toNat ∧ a.toNat ≤ 57 := by
  induction u using Nat.strongRecOn with
  | ind u ih =>
    by_cases h : u < 10
    · rw [Lib.decDigits_one h]
      intro a ha
      simp only [List.head?_cons, Option.some.injEq] at ha
      subst ha
      rw [UInt8.toNat_ofNat_of_lt' (by show 48 + u < 256; omega)]
      omega
    · rw [Lib.decDigits, dif_neg h]
      intro a ha
      refine ih (u / 10) (by omega) a ?_
      cases hd : Lib.decDigits (u / 10) with
      | nil =>
        have := decDigits_len_pos (u / 10)
        rw [hd] at this; simp at this
      | cons b l => rw [hd] at ha; simpa using ha
theorem decOk_nz {n x : Int} (h : x ≠ 0) : decOk n x = (inR x (-16) (-1) && (decide (digN n ≤ 17) && !(n.tmod 10 == 0))) := by unfold decOk; rw [if_neg h]
set_option maxHeartbeats 1000000 in
theorem s_DecOk (n x : Int) (w : World) (hn : -9223372036854775808 ≤ n ∧ n ≤ 9223372036854775807) (hx : -9223372036854775808 ≤ x ∧ x ≤ 9223372036854775807) :
    Calls Try.prog 40 #[.agg #[.int .i64 n, .int .i64 x]] w fun e w' => e = .returned (.bool (decOk n x)) ∧ Below w.heap.size w w' := by
  have hdl := digN_le hn
  have hbb : ∀ w2, Below (w.alloc (.cells #[.int .i64 n, .int .i64 x] 62)).heap.size (w.alloc (.cells #[.int .i64 n, .int .i64 x] 62)) w2 → Below w.heap.size w w2 := fun w2 h => h.boxed
  by_cases h0 : x = 0
  · subst h0
    rw [decOk_zero]
    go_enter Try.func40, Try.ntmps40
    go_wp2_with (go_at_call 34; refine (s_l1In _ _ _ _).mono ?_; rintro e w1 ⟨rfl, rfl⟩)
    go_ret
    exact ⟨rfl, Below.one _ _⟩
  · have hz : (x == 0) = false := by simpa using h0
    have hd := fun w1 => s_Digits n w1 hn
    rw [decOk_nz h0]
    obtain ⟨r, hr⟩ : ∃ r, inR x (-16) (-1) = r := ⟨_, rfl⟩
    have hin := fun w1 => s_l1In x (-16) (-1) w1
    rw [hr] at hin
    rw [hr]
    clear hr
    generalize digN n = D at hd hdl
    cases r with
    | false =>
      go_enter Try.func40, Try.ntmps40
      go_wp2_with (go_at_call 34; refine (hin _).mono ?_; rintro e w1 ⟨rfl, rfl⟩)
      go_ret
      exact ⟨by simp, Below.one _ _⟩
    | true =>
      by_cases h1 : n.tmod 10 = 0
      · have hm1 : (n.tmod 10 == 0) = true := by simpa using h1
        by_cases h2 : D ≤ 17
        all_goals
          go_enter Try.func40, Try.ntmps40
          go_wp2_with (first
            | (go_at_call 34; refine (hin _).mono ?_; rintro e w1 ⟨rfl, rfl⟩)
            | (go_at_call 49; refine (hd _).mono ?_; rintro e w2 ⟨rfl, rfl⟩))
          go_ret
          exact ⟨by first | (simp [h1, h2]; done) | (simp [h1, h2, bne]; done) | (simp [h1, h2, bne]; omega), by first | exact Below.one _ _ | exact hb2.boxed⟩
      · have hm1 : (n.tmod 10 == 0) = false := by simpa using h1
        by_cases h2 : D ≤ 17
        all_goals
          go_enter Try.func40, Try.ntmps40
          go_wp2_with (first
            | (go_at_call 34; refine (hin _).mono ?_; rintro e w1 ⟨rfl, rfl⟩)
            | (go_at_call 49; refine (hd _).mono ?_; rintro e w2 ⟨rfl, rfl⟩))
          go_ret
          exact ⟨by first | (simp [h1, h2]; done) | (simp [h1, h2, bne]; done) | (simp [h1, h2, bne]; omega), by first | exact Below.one _ _ | exact hb2.boxed⟩
end Go.Proofs.Ytpafgmlkbbbmhaa
