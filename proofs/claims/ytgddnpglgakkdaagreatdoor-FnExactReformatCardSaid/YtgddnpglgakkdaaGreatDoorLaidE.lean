/- What strconv.ErrSyntax reads as, as the contracts want it. -/
import Derived.Test.YtgddnpglgakkdaaGreatDoorLaid
import Derived.Test.YtgddnpglgakkdaaGreatDoorRdNumI
import Derived.LaidLaws
set_option linter.unusedVariables false
set_option maxRecDepth 100000
namespace Go.Proofs.YtgddnpglgakkdaaGreatDoor
open Go.ChangeShapes Go.WideShapes Go.ChangeAt Go.RowKit Go.Lib

theorem cell_of_var {P : Program} {W : World} {n : String} {g : Nat} {cs : Array Value} (hg : P.globalNamed n = some g) (h : W.var? P n = some cs) : W.cell? ⟨g, 0, none⟩ = cs[0]? := by
  unfold World.var? at h
  rw [hg] at h
  simp only [Option.bind_some] at h
  split at h
  · rename_i cs' t f hh
    simp only [Option.some.injEq] at h
    subst h
    exact cell_of_row W g 0 _ t f hh
  · cases h
theorem err_of {W : World} (h : VarReads Tryz.prog W "strconv.ErrSyntax" Rows.laid_strconv_ErrSyntax) : ErrT W := by
  obtain ⟨g', t', cs, fuel, p, hg', ht', hvar, hd⟩ := h
  obtain rfl := Option.some.inj ((show Tryz.prog.globalNamed "strconv.ErrSyntax" = some 3 by kernel_rfl).symm.trans hg')
  obtain rfl := Option.some.inj ((show (Tryz.prog.globals[3]?).map (·.type) = some 82 by kernel_rfl).symm.trans ht')
  obtain ⟨f2, u, v, hcs, _, _⟩ := iface_of_trod (P := Tryz.prog) (ti := 82) (ms := Tryz.prog.methodsAt 82) (by kernel_rfl) hd
  refine ⟨.iface u v, ?_, .inr ⟨u, v, rfl⟩⟩
  rw [cell_of_var hg' hvar]
  have e : cs = #[.iface u v] := by rw [← Array.toArray_toList (xs := cs), hcs]
  rw [e]
  rfl
end Go.Proofs.YtgddnpglgakkdaaGreatDoor
