/- Rows of trees: nothing else changes; what is new lies apart. -/
import Derived.Test.YtmelnaidjgpclaaDoorRowVal
set_option linter.unusedVariables false
set_option maxRecDepth 100000
set_option linter.unusedSimpArgs false
namespace Go.Proofs.YtmelnaidjgpclaaDoor
open Go.RowKit

theorem RV.frg {w w' : World} {lo n c g : Nat} {A : Option Addr} {l : List Tr} {es : List El} (h : RV w lo A n c l es) (hf : Fr [g] w w') (hg : g < lo) : RV w' lo A n c l es :=
  h.fr hf (fun x hx => by have := (row_lt h.row hx).1; simp; omega) (fun x hx => by have := (h.own.2 x hx).1; simp; omega)
theorem RV.newOwn {w w5 : World} {lo n c : Nat} {A : Option Addr} {l : List Tr} {es : List El} {fp : List Nat} (h : RV w lo A n c l es) (ho : Own w5 w.heap.size fp) : ∀ x ∈ fp, x ∉ blkOf A ∧ x ∉ elFp es :=
  fun x hx => ⟨fun h1 => by have := (row_lt h.row h1).2; have := (ho.2 x hx).1; omega, fun h1 => by have := h.own.lt h1; have := (ho.2 x hx).1; omega⟩
end Go.Proofs.YtmelnaidjgpclaaDoor
