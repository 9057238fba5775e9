/- Widths and heads: impl and spec. -/
import Derived.Test.YtihhedmehlemmaaDoorNum
set_option linter.unusedVariables false
set_option maxRecDepth 100000
set_option linter.unusedSimpArgs false
namespace Go.Proofs.YtihhedmehlemmaaDoor
open Go.RowKit

def isW (w : Int) : Bool := decide (w = 1 ∨ w = 2 ∨ w = 4 ∨ w = 8)
def fitsB (n w : Int) : Bool := decide (0 ≤ n ∧ (w = 8 ∨ (w = 4 ∧ n < 4294967296) ∨ (w = 2 ∧ n < 65536) ∨ (w = 1 ∧ n < 256)))
def widthFor (n : Int) : Int := if n < 0 then 0 else if n < 256 then 1 else if n < 65536 then 2 else if n < 4294967296 then 4 else 8

def headOk (mj n wd : Int) : Bool :=
  decide (0 ≤ mj ∧ mj ≤ 7 ∧ 0 ≤ n ∧ n ≤ 1000000000000000 ∧ ((wd = 0 ∧ n ≤ 23) ∨ (wd = 1 ∧ n < 256) ∨ (wd = 2 ∧ n < 65536) ∨ (wd = 4 ∧ n < 4294967296) ∨ wd = 8 ∨ (wd = -1 ∧ n = 0 ∧ 2 ≤ mj ∧ mj ≠ 6)))
def headV (mj n wd : Int) : Value := .agg #[.int .i64 mj, .int .i64 n, .int .i64 wd]
theorem headOk_no {mj n wd : Int} (h : ¬ (0 ≤ mj ∧ mj ≤ 7 ∧ 0 ≤ n ∧ n ≤ 1000000000000000 ∧ ((wd = 0 ∧ n ≤ 23) ∨ (wd = 1 ∧ n < 256) ∨ (wd = 2 ∧ n < 65536) ∨ (wd = 4 ∧ n < 4294967296) ∨ wd = 8 ∨ (wd = -1 ∧ n = 0 ∧ 2 ≤ mj ∧ mj ≠ 6)))) : false = headOk mj n wd := (decide_eq_false h).symm
theorem headOk_yes {mj n wd : Int} (h : 0 ≤ mj ∧ mj ≤ 7 ∧ 0 ≤ n ∧ n ≤ 1000000000000000 ∧ ((wd = 0 ∧ n ≤ 23) ∨ (wd = 1 ∧ n < 256) ∨ (wd = 2 ∧ n < 65536) ∨ (wd = 4 ∧ n < 4294967296) ∨ wd = 8 ∨ (wd = -1 ∧ n = 0 ∧ 2 ≤ mj ∧ mj ≠ 6))) : true = headOk mj n wd := (decide_eq_true h).symm
end Go.Proofs.YtihhedmehlemmaaDoor
