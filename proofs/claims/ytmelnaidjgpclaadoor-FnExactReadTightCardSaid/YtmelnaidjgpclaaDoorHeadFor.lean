/- HeadFor: the shortest head. -/
import Derived.Test.YtmelnaidjgpclaaDoorHead
import Derived.Test.YtmelnaidjgpclaaDoorMem
set_option linter.unusedVariables false
set_option maxRecDepth 100000
set_option linter.unusedSimpArgs false
namespace Go.Proofs.YtmelnaidjgpclaaDoor
open Go.RowKit

def headWide (n : Int) : Int := if 0 ≤ n ∧ n ≤ 23 then 0 else widthFor n
def headForV (mj n : Int) : Value := if headOk mj n (headWide n) = true then headV mj n (headWide n) else headV 0 0 0
theorem headWide_in {n : Int} (h : 0 ≤ n ∧ n ≤ 23) : headWide n = 0 := if_pos h
theorem headWide_out {n : Int} (h : ¬ (0 ≤ n ∧ n ≤ 23)) : headWide n = widthFor n := if_neg h
theorem headOk_neg {mj n wd : Int} (h : n < 0) : headOk mj n wd = false := (headOk_no (by omega)).symm
theorem headForV_yes {mj n v : Int} (h : headWide n = v) (hh : headOk mj n v = true) : headForV mj n = .agg #[.int .i64 mj, .int .i64 n, .int .i64 v] := by
  unfold headForV; rw [h, if_pos hh]; rfl
theorem headForV_no {mj n v : Int} (h : headWide n = v) (hh : headOk mj n v = false) : headForV mj n = .agg #[.int .i64 0, .int .i64 0, .int .i64 0] := by
  unfold headForV; rw [h, if_neg (by rw [hh]; decide)]; rfl
theorem headForV_shape (mj n : Int) : ∃ a b c : Int, headForV mj n = .agg #[.int .i64 a, .int .i64 b, .int .i64 c] := by
  unfold headForV; split <;> exact ⟨_, _, _, rfl⟩
end Go.Proofs.YtmelnaidjgpclaaDoor
