/- laws.FnExactSortTight returns true for every input that can be read, and leaves its arguments as they were. No condition. -/
import Derived.Test.YtjjcdlghichmdaaPost
import Derived.Test.YtjjcdlghichmdaaSortTightLaw
set_option linter.unusedVariables false
namespace Go.Proofs.Ytjjcdlghichmdaa
open Go.ChangeShapes Go.WideShapes Go.ChangeAt Go.RowKit Go.Joins
open Go.ChangeMaps (open_string)

set_option maxRecDepth 100000 in
theorem lifted_FnExactSortTight (os : Os) (started : os.Started) (H : Type) (enc : TypeId × Value → H) :
    ReturnsInHanded {} Try.checked os 3 .any (Rows.fnExactSortTightSpec.pre6 enc Try.prog Try.f3 Rows.fnExactSortTightRow.domain false) (Rows.fnExactSortTightSpec.post enc Try.prog Try.f3 false true false false) := by
  refine returnsInHanded_of_change (C := Try.checked) own_knob started (by kernel_rfl) Try.func3
    (ChangeSpec.witness6 (enc := enc) (C := Try.checked) false ⟨#[], #[.agg #[.int .i64 0, .int .i64 0, .int .i64 0, .string ByteArray.empty, .slice none 0 0]], []⟩ 8 (by kernel_rfl) (by kernel_rfl) (by kernel_rfl) (by kernel_rfl)) ?_
  intro W base args ds gs before hval0 hW hcnd _
  have hval : ∀ (j : Nat) t v, Try.f3.params[j]? = some t → args[j]? = some v → Value.okWide Try.prog W .any base t v := hval0
  have hW' := hW
  have hlt : ∀ x ∈ before, x.block < W.heap.size := fun x hx => hW'.lt x hx
  obtain ⟨p, q, hA0, hV, hpq, hfz, hnd⟩ := hW
  obtain ⟨hg, hq⟩ := trodVars_none hV
  have hA : DataW.TrodAll enc Try.prog W 0 (fun _ => true) true Try.f3.params.toList args.toList ds p := hA0
  rw [Try.params3] at hA hval
  obtain ⟨v0, vs0, d0, ds0, p0, q0, ev0, ed0, ep0, h0, r0⟩ := trodAll_cons hA
  obtain ⟨en, edn, epn⟩ := trodAll_nil r0
  subst en edn epn
  obtain rfl : args = #[v0] := by cases args; simp_all
  subst ed0 ep0 hpq hg hq
  obtain ⟨t0, e0, ev0, la0, lb0, lc0⟩ := open_val (hval 0 24 v0 rfl rfl) h0 (fun x hx => hlt x (by simp [hx]))
  subst ev0
  clear hA0 hval0
  refine (law_SortTight t0 e0 W la0 lb0 lc0).mono fun e W' ⟨he, hb⟩ => ?_
  subst he
  exact ⟨_, rfl, law_post hW' hlt rfl rfl rfl Try.underlying4 laid_out (by rw [Try.params3]; decide +kernel) hb⟩

theorem closed_FnExactSortTight : joinedFacts Try.pinned.checked.prog 3 Try.f3 Rows.fnExactSortTightSpec Rows.fnExactSortTightRow = true :=
  closed_of Try.checked.prog prog_three fun b1 b2 m h1 h2 h3 => by subst h1 h2 h3; kernel_rfl

theorem holds_FnExactSortTight : Rows.FnExactSortTightSaid :=
  OpenClaim.holds_of_wide 3 Try.f3 rfl rfl rfl rfl rfl rfl rfl ⟨rfl, rfl, rfl, rfl, rfl⟩ rfl rfl rfl rfl rfl (by kernel_rfl) Try.func3 closed_FnExactSortTight
    (of_decide_eq_true (by kernel_rfl)) (by unfold Func.isWrapper; first | (rw [if_pos (by decide +kernel)]; kernel_rfl) | (rw [if_neg (by decide +kernel)]; exact ⟨rfl, rfl⟩))
    (fun os started H enc _ => lifted_FnExactSortTight os started H enc)
#print axioms holds_FnExactSortTight
end Go.Proofs.Ytjjcdlghichmdaa
