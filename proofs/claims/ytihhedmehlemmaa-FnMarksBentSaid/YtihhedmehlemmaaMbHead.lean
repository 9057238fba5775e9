/- Widths and heads: impl and spec. -/
import Derived.Test.YtihhedmehlemmaaMbM0
set_option linter.unusedVariables false
set_option maxRecDepth 100000
set_option linter.unusedSimpArgs false
namespace Go.Proofs.Ytihhedmehlemmaa
open Go.RowKit

def isW (w : Int) : Bool := decide (w = 1 ∨ w = 2 ∨ w = 4 ∨ w = 8)
def fitsB (n w : Int) : Bool := decide (0 ≤ n ∧ (w = 8 ∨ (w = 4 ∧ n < 4294967296) ∨ (w = 2 ∧ n < 65536) ∨ (w = 1 ∧ n < 256)))
def widthFor (n : Int) : Int := if n < 0 then 0 else if n < 256 then 1 else if n < 65536 then 2 else if n < 4294967296 then 4 else 8
theorem i_isWidth (v : Int) (w : World) :
    Calls Try.prog 81 #[.int .i64 v] w fun e w' => e = .returned (.bool (isW v)) ∧ w = w' := by
  by_cases hv : v = 1 ∨ v = 2 ∨ v = 4 ∨ v = 8
  · rcases hv with rfl | rfl | rfl | rfl
    all_goals
      go_enter Try.func81, Try.ntmps81
      go_wp2_with fail
      go_ret
      exact ⟨ret_bool (by decide), rfl⟩
  · have h1 : (v == 1) = false := by simp; omega
    have h2 : (v == 2) = false := by simp; omega
    have h4 : (v == 4) = false := by simp; omega
    have h8 : (v == 8) = false := by simp; omega
    go_enter Try.func81, Try.ntmps81
    go_wp2_with fail
    go_ret
    exact ⟨ret_bool (by unfold isW; rw [eq_comm, decide_eq_false_iff_not]; omega), rfl⟩
set_option maxHeartbeats 400000 in
theorem i_fitsInto (n v : Int) (w : World) (hv : v = 1 ∨ v = 2 ∨ v = 4 ∨ v = 8) (hn : n ≤ 9223372036854775807) :
    Calls Try.prog 82 #[.int .i64 n, .int .i64 v] w fun e w' => e = .returned (.bool (fitsB n v)) ∧ w = w' := by
  by_cases h0 : 0 ≤ n
  · rcases hv with rfl | rfl | rfl | rfl
    all_goals
      go_enter Try.func82, Try.ntmps82
      go_wp2_with fail
      go_ret
      exact ⟨ret_bool (by unfold fitsB; rw [Bool.eq_iff_iff]; simp <;> omega), rfl⟩
  · rcases hv with rfl | rfl | rfl | rfl
    all_goals
      go_enter Try.func82, Try.ntmps82
      go_wp2_with fail
      go_ret
      exact ⟨ret_bool (by unfold fitsB; rw [eq_comm, decide_eq_false_iff_not]; omega), rfl⟩
theorem s_WidthFor (n : Int) (w : World) :
    Calls Try.prog 85 #[.int .i64 n] w fun e w' => e = .returned (.int .i64 (widthFor n)) ∧ w = w' := by
  go_enter Try.func85, Try.ntmps85
  go_wp2_with fail
  all_goals (go_ret; exact ⟨ret_int (by unfold widthFor; repeat' split <;> omega), rfl⟩)
set_option maxHeartbeats 800000 in
theorem i_WidthFor (n : Int) (w : World) (hn : n ≤ 9223372036854775807) :
    Calls Try.prog 79 #[.int .i64 n] w fun e w' => e = .returned (.int .i64 (widthFor n)) ∧ w = w' := by
  by_cases h0 : n < 0
  · go_enter Try.func79, Try.ntmps79
    go_wp2_with fail
    go_ret
    exact ⟨ret_int (by rw [widthFor, if_pos h0]), rfl⟩
  · go_enter Try.func79, Try.ntmps79
    go_wp2_with fail
    go_loop [3] (fun i => ∃ v : Int, (v = 1 ∨ (v = 2 ∧ 256 ≤ n) ∨ (v = 4 ∧ 65536 ≤ n) ∨ (v = 8 ∧ 4294967296 ≤ n)) ∧ i = .int .i64 v) (fun i => (8 - intOf i).toNat)
    case atStart => exact ⟨1, Or.inl rfl, rfl⟩
    case round =>
      obtain ⟨v, HV, rfl⟩ := hrel
      cases hf : fitsB n v with
      | true =>
        have hv := Lib.hid HV
        have hv4 : v = 1 ∨ v = 2 ∨ v = 4 ∨ v = 8 := by omega
        clear HV
        go_wp2_with (go_at_call 82; refine (i_fitsInto _ _ _ hv4 hn).mono ?_; rintro e w' ⟨rfl, rfl⟩)
        go_ret
        refine ⟨ret_int ?_, rfl⟩
        have h := hv.out
        unfold fitsB at hf
        rw [decide_eq_true_eq] at hf
        unfold widthFor
        rcases h with rfl | ⟨rfl, h⟩ | ⟨rfl, h⟩ | ⟨rfl, h⟩
        all_goals (repeat' split) <;> omega
      | false =>
        have hv : (v = 1 ∧ 256 ≤ n) ∨ (v = 2 ∧ 65536 ≤ n) ∨ (v = 4 ∧ 4294967296 ≤ n) := by
          unfold fitsB at hf
          rw [decide_eq_false_iff_not] at hf
          omega
        clear HV
        rcases hv with ⟨rfl, hv⟩ | ⟨rfl, hv⟩ | ⟨rfl, hv⟩
        all_goals
          go_wp2_with (go_at_call 82; refine (i_fitsInto _ _ _ (by decide) hn).mono ?_; rintro e w' ⟨rfl, rfl⟩)
          go_round
          case rel => exact ⟨_, by omega, rfl⟩
          case measure => simp [intOf]

def headOk (mj n wd : Int) : Bool :=
  decide (0 ≤ mj ∧ mj ≤ 7 ∧ 0 ≤ n ∧ n ≤ 1000000000000000 ∧ ((wd = 0 ∧ n ≤ 23) ∨ (wd = 1 ∧ n < 256) ∨ (wd = 2 ∧ n < 65536) ∨ (wd = 4 ∧ n < 4294967296) ∨ wd = 8 ∨ (wd = -1 ∧ n = 0 ∧ 2 ≤ mj ∧ mj ≠ 6)))
def headV (mj n wd : Int) : Value := .agg #[.int .i64 mj, .int .i64 n, .int .i64 wd]
theorem headOk_no {mj n wd : Int} (h : ¬ (0 ≤ mj ∧ mj ≤ 7 ∧ 0 ≤ n ∧ n ≤ 1000000000000000 ∧ ((wd = 0 ∧ n ≤ 23) ∨ (wd = 1 ∧ n < 256) ∨ (wd = 2 ∧ n < 65536) ∨ (wd = 4 ∧ n < 4294967296) ∨ wd = 8 ∨ (wd = -1 ∧ n = 0 ∧ 2 ≤ mj ∧ mj ≠ 6)))) : false = headOk mj n wd := (decide_eq_false h).symm
theorem headOk_yes {mj n wd : Int} (h : 0 ≤ mj ∧ mj ≤ 7 ∧ 0 ≤ n ∧ n ≤ 1000000000000000 ∧ ((wd = 0 ∧ n ≤ 23) ∨ (wd = 1 ∧ n < 256) ∨ (wd = 2 ∧ n < 65536) ∨ (wd = 4 ∧ n < 4294967296) ∨ wd = 8 ∨ (wd = -1 ∧ n = 0 ∧ 2 ≤ mj ∧ mj ≠ 6))) : true = headOk mj n wd := (decide_eq_true h).symm
end Go.Proofs.Ytihhedmehlemmaa
