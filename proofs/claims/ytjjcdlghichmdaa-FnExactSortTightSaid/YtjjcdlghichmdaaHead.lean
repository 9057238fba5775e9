/- Widths and heads: impl and spec. -/
import Derived.Test.YtjjcdlghichmdaaNum
set_option linter.unusedVariables false
set_option maxRecDepth 100000
set_option linter.unusedSimpArgs false
namespace Go.Proofs.Ytjjcdlghichmdaa
open Go.RowKit

def isW (w : Int) : Bool := decide (w = 1 ∨ w = 2 ∨ w = 4 ∨ w = 8)
def fitsB (n w : Int) : Bool := decide (0 ≤ n ∧ (w = 8 ∨ (w = 4 ∧ n < 4294967296) ∨ (w = 2 ∧ n < 65536) ∨ (w = 1 ∧ n < 256)))
def widthFor (n : Int) : Int := if n < 0 then 0 else if n < 256 then 1 else if n < 65536 then 2 else if n < 4294967296 then 4 else 8
theorem i_isWidth (v : Int) (w : World) :
    Calls Try.prog 53 #[.int .i64 v] w fun e w' => e = .returned (.bool (isW v)) ∧ w = w' := by
  by_cases hv : v = 1 ∨ v = 2 ∨ v = 4 ∨ v = 8
  · rcases hv with rfl | rfl | rfl | rfl
    all_goals
      go_enter Try.func53, Try.ntmps53
      go_wp2_with fail
      go_ret
      exact ⟨ret_bool (by decide), rfl⟩
  · have h1 : (v == 1) = false := by simp; omega
    have h2 : (v == 2) = false := by simp; omega
    have h4 : (v == 4) = false := by simp; omega
    have h8 : (v == 8) = false := by simp; omega
    go_enter Try.func53, Try.ntmps53
    go_wp2_with fail
    go_ret
    exact ⟨ret_bool (by unfold isW; rw [eq_comm, decide_eq_false_iff_not]; omega), rfl⟩
set_option maxHeartbeats 400000 in
theorem i_fitsInto (n v : Int) (w : World) (hv : v = 1 ∨ v = 2 ∨ v = 4 ∨ v = 8) (hn : n ≤ 9223372036854775807) :
    Calls Try.prog 54 #[.int .i64 n, .int .i64 v] w fun e w' => e = .returned (.bool (fitsB n v)) ∧ w = w' := by
  by_cases h0 : 0 ≤ n
  · rcases hv with rfl | rfl | rfl | rfl
    all_goals
      go_enter Try.func54, Try.ntmps54
      go_wp2_with fail
      go_ret
      exact ⟨ret_bool (by unfold fitsB; rw [Bool.eq_iff_iff]; simp <;> omega), rfl⟩
  · rcases hv with rfl | rfl | rfl | rfl
    all_goals
      go_enter Try.func54, Try.ntmps54
      go_wp2_with fail
      go_ret
      exact ⟨ret_bool (by unfold fitsB; rw [eq_comm, decide_eq_false_iff_not]; omega), rfl⟩
theorem s_WidthFor (n : Int) (w : World) :
    Calls Try.prog 37 #[.int .i64 n] w fun e w' => e = .returned (.int .i64 (widthFor n)) ∧ w = w' := by
  go_enter Try.func37, Try.ntmps37
  go_wp2_with fail
  all_goals (go_ret; exact ⟨ret_int (by unfold widthFor; repeat' split <;> omega), rfl⟩)
set_option maxHeartbeats 800000 in
theorem i_WidthFor (n : Int) (w : World) (hn : n ≤ 9223372036854775807) :
    Calls Try.prog 52 #[.int .i64 n] w fun e w' => e = .returned (.int .i64 (widthFor n)) ∧ w = w' := by
  by_cases h0 : n < 0
  · go_enter Try.func52, Try.ntmps52
    go_wp2_with fail
    go_ret
    exact ⟨ret_int (by rw [widthFor, if_pos h0]), rfl⟩
  · go_enter Try.func52, Try.ntmps52
    go_wp2_with fail
    go_loop [3] (fun i => ∃ v : Int, (v = 1 ∨ (v = 2 ∧ 256 ≤ n) ∨ (v = 4 ∧ 65536 ≤ n) ∨ (v = 8 ∧ 4294967296 ≤ n)) ∧ i = .int .i64 v) (fun i => (8 - intOf i).toNat)
    case atStart => exact ⟨1, Or.inl rfl, rfl⟩
    case round =>
      obtain ⟨v, HV, rfl⟩ := hrel
      cases hf : fitsB n v with
      | true =>
        have hv := Lib.hid HV
        have hv4 : v = 1 ∨ v = 2 ∨ v = 4 ∨ v = 8 := by omega
        clear HV
        go_wp2_with (go_at_call 54; refine (i_fitsInto _ _ _ hv4 hn).mono ?_; rintro e w' ⟨rfl, rfl⟩)
        go_ret
        refine ⟨ret_int ?_, rfl⟩
        have h := hv.out
        unfold fitsB at hf
        rw [decide_eq_true_eq] at hf
        unfold widthFor
        rcases h with rfl | ⟨rfl, h⟩ | ⟨rfl, h⟩ | ⟨rfl, h⟩
        all_goals (repeat' split) <;> omega
      | false =>
        have hv : (v = 1 ∧ 256 ≤ n) ∨ (v = 2 ∧ 65536 ≤ n) ∨ (v = 4 ∧ 4294967296 ≤ n) := by
          unfold fitsB at hf
          rw [decide_eq_false_iff_not] at hf
          omega
        clear HV
        rcases hv with ⟨rfl, hv⟩ | ⟨rfl, hv⟩ | ⟨rfl, hv⟩
        all_goals
          go_wp2_with (go_at_call 54; refine (i_fitsInto _ _ _ (by decide) hn).mono ?_; rintro e w' ⟨rfl, rfl⟩)
          go_round
          case rel => exact ⟨_, by omega, rfl⟩
          case measure => simp [intOf]

def headOk (mj n wd : Int) : Bool :=
  decide (0 ≤ mj ∧ mj ≤ 7 ∧ 0 ≤ n ∧ n ≤ 1000000000000000 ∧ ((wd = 0 ∧ n ≤ 23) ∨ (wd = 1 ∧ n < 256) ∨ (wd = 2 ∧ n < 65536) ∨ (wd = 4 ∧ n < 4294967296) ∨ wd = 8 ∨ (wd = -1 ∧ n = 0 ∧ 2 ≤ mj ∧ mj ≠ 6)))
def headV (mj n wd : Int) : Value := .agg #[.int .i64 mj, .int .i64 n, .int .i64 wd]
theorem headOk_no {mj n wd : Int} (h : ¬ (0 ≤ mj ∧ mj ≤ 7 ∧ 0 ≤ n ∧ n ≤ 1000000000000000 ∧ ((wd = 0 ∧ n ≤ 23) ∨ (wd = 1 ∧ n < 256) ∨ (wd = 2 ∧ n < 65536) ∨ (wd = 4 ∧ n < 4294967296) ∨ wd = 8 ∨ (wd = -1 ∧ n = 0 ∧ 2 ≤ mj ∧ mj ≠ 6)))) : false = headOk mj n wd := (decide_eq_false h).symm
theorem headOk_yes {mj n wd : Int} (h : 0 ≤ mj ∧ mj ≤ 7 ∧ 0 ≤ n ∧ n ≤ 1000000000000000 ∧ ((wd = 0 ∧ n ≤ 23) ∨ (wd = 1 ∧ n < 256) ∨ (wd = 2 ∧ n < 65536) ∨ (wd = 4 ∧ n < 4294967296) ∨ wd = 8 ∨ (wd = -1 ∧ n = 0 ∧ 2 ≤ mj ∧ mj ≠ 6))) : true = headOk mj n wd := (decide_eq_true h).symm
set_option maxHeartbeats 1600000 in
theorem i_HeadOk (mj n wd : Int) (w : World) (hn : n ≤ 9223372036854775807) :
    Calls Try.prog 49 #[.agg #[.int .i64 mj, .int .i64 n, .int .i64 wd]] w fun e w' => e = .returned (.bool (headOk mj n wd)) ∧ Below w.heap.size w w' := by
  by_cases hm : 0 ≤ mj ∧ mj ≤ 7
  · have hb := inR_yes hm.1 hm.2
    by_cases w0 : wd = 0
    · subst w0
      cases hb2 : inR n 0 23
      all_goals
        have H2 := Lib.hid hb2
        go_enter Try.func49, Try.ntmps49
        go_wp2_with (go_at_call 40; refine (i_within _ _ _ _).mono ?_; rintro e w' ⟨rfl, rfl⟩)
        go_ret
        refine ⟨ret_bool ?_, Below.one _ _⟩
      · have := inR_not.1 H2.out; exact headOk_no (by omega)
      · have := inR_iff.1 H2.out; exact headOk_yes (by omega)
    by_cases w1 : wd = -1
    · subst w1
      by_cases hc : n = 0 ∧ 2 ≤ mj ∧ mj ≠ 6
      · obtain ⟨rfl, h2, h3⟩ := hc
        have h6 : (mj != 6) = true := by simpa using h3
        go_enter Try.func49, Try.ntmps49
        go_wp2_with (go_at_call 40; refine (i_within _ _ _ _).mono ?_; rintro e w' ⟨rfl, rfl⟩)
        go_ret
        exact ⟨ret_bool (headOk_yes (by omega)), Below.one _ _⟩
      · by_cases hn0 : n = 0
        · subst hn0
          by_cases h2 : 2 ≤ mj
          · obtain rfl : mj = 6 := by omega
            go_enter Try.func49, Try.ntmps49
            go_wp2_with (go_at_call 40; refine (i_within _ _ _ _).mono ?_; rintro e w' ⟨rfl, rfl⟩)
            go_ret
            exact ⟨ret_bool (headOk_no (by omega)), Below.one _ _⟩
          · go_enter Try.func49, Try.ntmps49
            go_wp2_with (go_at_call 40; refine (i_within _ _ _ _).mono ?_; rintro e w' ⟨rfl, rfl⟩)
            go_ret
            exact ⟨ret_bool (headOk_no (by omega)), Below.one _ _⟩
        · have h0 : (n == 0) = false := by simpa using hn0
          go_enter Try.func49, Try.ntmps49
          go_wp2_with (go_at_call 40; refine (i_within _ _ _ _).mono ?_; rintro e w' ⟨rfl, rfl⟩)
          go_ret
          exact ⟨ret_bool (headOk_no (by omega)), Below.one _ _⟩
    have e0 : (wd == 0) = false := by simpa using w0
    have e1 : (wd == -1) = false := by simpa using w1
    by_cases hv : wd = 1 ∨ wd = 2 ∨ wd = 4 ∨ wd = 8
    · have hw : isW wd = true := decide_eq_true hv
      cases hb2 : inR n 0 1000000000000000 with
      | false =>
        have hx := inR_not.1 hb2
        have H2 := Lib.hid hx; clear hx
        go_enter Try.func49, Try.ntmps49
        go_wp2_with (first | (go_at_call 40; refine (i_within _ _ _ _).mono ?_; rintro e w' ⟨rfl, rfl⟩) | (go_at_call 53; refine (i_isWidth _ _).mono ?_; rintro e w' ⟨rfl, rfl⟩))
        go_ret
        exact ⟨ret_bool (headOk_no (by have := H2.out; omega)), Below.one _ _⟩
      | true =>
        have hx := inR_iff.1 hb2
        have H2 := Lib.hid hx; clear hx
        have hvv := Lib.hid hv; clear hv
        cases hf : fitsB n wd
        all_goals
          have hf' := Lib.hid hf
          go_enter Try.func49, Try.ntmps49
          go_wp2_with (first | (go_at_call 40; refine (i_within _ _ _ _).mono ?_; rintro e w' ⟨rfl, rfl⟩) | (go_at_call 53; refine (i_isWidth _ _).mono ?_; rintro e w' ⟨rfl, rfl⟩) | (go_at_call 54; refine (i_fitsInto _ _ _ hvv.out hn).mono ?_; rintro e w' ⟨rfl, rfl⟩))
          go_ret
          refine ⟨ret_bool ?_, Below.one _ _⟩
        · have h1 := decide_eq_false_iff_not.1 hf'.out; have h2 := hvv.out; have h3 := H2.out
          exact headOk_no (by omega)
        · have h1 := of_decide_eq_true (show decide (0 ≤ n ∧ (wd = 8 ∨ (wd = 4 ∧ n < 4294967296) ∨ (wd = 2 ∧ n < 65536) ∨ (wd = 1 ∧ n < 256))) = true from hf'.out); have h2 := hvv.out; have h3 := H2.out
          exact headOk_yes (by omega)
    · have hw : isW wd = false := decide_eq_false hv
      go_enter Try.func49, Try.ntmps49
      go_wp2_with (first | (go_at_call 40; refine (i_within _ _ _ _).mono ?_; rintro e w' ⟨rfl, rfl⟩) | (go_at_call 53; refine (i_isWidth _ _).mono ?_; rintro e w' ⟨rfl, rfl⟩))
      go_ret
      exact ⟨ret_bool (headOk_no (by omega)), Below.one _ _⟩
  · have hb : inR mj 0 7 = false := inR_no (by omega)
    go_enter Try.func49, Try.ntmps49
    go_wp2_with (go_at_call 40; refine (i_within _ _ _ _).mono ?_; rintro e w' ⟨rfl, rfl⟩)
    go_ret
    exact ⟨ret_bool (headOk_no (by omega)), Below.one _ _⟩
set_option maxHeartbeats 1600000 in
theorem s_HeadOk (mj n wd : Int) (w : World) :
    Calls Try.prog 35 #[.agg #[.int .i64 mj, .int .i64 n, .int .i64 wd]] w fun e w' => e = .returned (.bool (headOk mj n wd)) ∧ Below w.heap.size w w' := by
  by_cases hm : 0 ≤ mj ∧ mj ≤ 7
  · have hb := inR_yes hm.1 hm.2
    by_cases hn : 0 ≤ n ∧ n ≤ 1000000000000000
    · have hb2 := inR_yes hn.1 hn.2
      by_cases hv : wd = 0 ∨ wd = 1 ∨ wd = 2 ∨ wd = 4 ∨ wd = 8
      · have hm2 := Lib.hid hm
        have hn2 := Lib.hid hn
        clear hm hn
        rcases hv with rfl | rfl | rfl | rfl | rfl
        · go_enter Try.func35, Try.ntmps35
          go_wp2_with (go_at_call 29; refine (s_l1In _ _ _ _).mono ?_; rintro e w' ⟨rfl, rfl⟩)
          go_ret
          refine ⟨ret_bool ?_, Below.one _ _⟩
          have h1 := hm2.out
          have h2 := hn2.out
          unfold headOk
          rw [decide_eq_decide]; omega
        all_goals
          go_enter Try.func35, Try.ntmps35
          go_wp2_with (go_at_call 29; refine (s_l1In _ _ _ _).mono ?_; rintro e w' ⟨rfl, rfl⟩)
          go_quiet ((go_at_call 37; exact quiet_left (s_WidthFor _ _)))
          go_wp2
          go_ret
          refine ⟨ret_bool ?_, below_drewN (Below.one _ _) _⟩
          have h1 := hm2.out
          have h2 := hn2.out
          unfold headOk
          rw [decide_eq_decide]; unfold widthFor; (repeat' split) <;> omega
      · by_cases w1 : wd = -1
        · subst w1
          by_cases hn0 : n = 0
          · subst hn0
            by_cases h2 : mj = 0 ∨ mj = 1 ∨ mj = 6
            · rcases h2 with rfl | rfl | rfl
              all_goals
                go_enter Try.func35, Try.ntmps35
                go_wp2_with (go_at_call 29; refine (s_l1In _ _ _ _).mono ?_; rintro e w' ⟨rfl, rfl⟩)
                go_ret
                exact ⟨ret_bool (by decide), Below.one _ _⟩
            · have e0 : (mj != 0) = true := by simp; omega
              have e1 : (mj != 1) = true := by simp; omega
              have e6 : (mj != 6) = true := by simp; omega
              go_enter Try.func35, Try.ntmps35
              go_wp2_with (go_at_call 29; refine (s_l1In _ _ _ _).mono ?_; rintro e w' ⟨rfl, rfl⟩)
              go_ret
              exact ⟨ret_bool (headOk_yes (by omega)), Below.one _ _⟩
          · have h0 : (n == 0) = false := by simpa using hn0
            go_enter Try.func35, Try.ntmps35
            go_wp2_with (go_at_call 29; refine (s_l1In _ _ _ _).mono ?_; rintro e w' ⟨rfl, rfl⟩)
            go_ret
            exact ⟨ret_bool (headOk_no (by omega)), Below.one _ _⟩
        · have e0 : (wd == 0) = false := by simp; omega
          have e1 : (wd == 1) = false := by simp; omega
          have e2 : (wd == 2) = false := by simp; omega
          have e4 : (wd == 4) = false := by simp; omega
          have e8 : (wd == 8) = false := by simp; omega
          have e9 : (wd == -1) = false := by simpa using w1
          go_enter Try.func35, Try.ntmps35
          go_wp2_with (go_at_call 29; refine (s_l1In _ _ _ _).mono ?_; rintro e w' ⟨rfl, rfl⟩)
          go_ret
          exact ⟨ret_bool (headOk_no (by omega)), Below.one _ _⟩
    · have hb2 : inR n 0 1000000000000000 = false := inR_no (by omega)
      go_enter Try.func35, Try.ntmps35
      go_wp2_with (go_at_call 29; refine (s_l1In _ _ _ _).mono ?_; rintro e w' ⟨rfl, rfl⟩)
      go_ret
      exact ⟨ret_bool (headOk_no (by omega)), Below.one _ _⟩
  · have hb : inR mj 0 7 = false := inR_no (by omega)
    go_enter Try.func35, Try.ntmps35
    go_wp2_with (go_at_call 29; refine (s_l1In _ _ _ _).mono ?_; rintro e w' ⟨rfl, rfl⟩)
    go_ret
    exact ⟨ret_bool (headOk_no (by omega)), Below.one _ _⟩
end Go.Proofs.Ytjjcdlghichmdaa
