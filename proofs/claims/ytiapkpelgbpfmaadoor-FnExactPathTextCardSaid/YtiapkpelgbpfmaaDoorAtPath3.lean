/- AtPath: impl and spec. -/
import Derived.Test.YtiapkpelgbpfmaaDoorAtPath2
set_option linter.unusedVariables false
set_option maxRecDepth 100000
set_option linter.unusedSimpArgs false
namespace Go.Proofs.YtiapkpelgbpfmaaDoor
open Go.RowKit

theorem atPath_no {t : Tr} {p : Int × Bool} {ps : List (Int × Bool)} (h : stepT t p = none) : atPath t (p :: ps) = none := by simp [atPath, h]
theorem atPath_yes {t u : Tr} {p : Int × Bool} {ps : List (Int × Bool)} (h : stepT t p = some u) : atPath t (p :: ps) = atPath u ps := by simp [atPath, h]
theorem drop_cons {ps : List (Int × Bool)} {j : Nat} (h : j < ps.length) : ps.drop j = ps[j] :: ps.drop (j + 1) := List.drop_eq_getElem_cons h
end Go.Proofs.YtiapkpelgbpfmaaDoor
