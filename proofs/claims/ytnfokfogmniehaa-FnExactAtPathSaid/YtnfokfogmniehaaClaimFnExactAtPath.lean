/- laws.FnExactAtPath returns true for every input that can be read, and leaves its arguments as they were. No condition. -/
import Derived.Test.YtnfokfogmniehaaPost
import Derived.Test.YtnfokfogmniehaaAtPathLaw
import Derived.Test.YtnfokfogmniehaaOpenVal
set_option linter.unusedVariables false
namespace Go.Proofs.Ytnfokfogmniehaa
open Go.ChangeShapes Go.WideShapes Go.ChangeAt Go.RowKit Go.Joins
open Go.ChangeMaps (open_string)

set_option maxRecDepth 100000 in
theorem lifted_FnExactAtPath (os : Os) (started : os.Started) (H : Type) (enc : TypeId × Value → H) :
    ReturnsInHanded {} Try.checked os 7 .any (Rows.fnExactAtPathSpec.pre6 enc Try.prog Try.f7 Rows.fnExactAtPathRow.domain false) (Rows.fnExactAtPathSpec.post enc Try.prog Try.f7 false true false false) := by
  refine returnsInHanded_of_change (C := Try.checked) own_knob started (by kernel_rfl) Try.func7
    (ChangeSpec.witness6 (enc := enc) (C := Try.checked) false ⟨#[], #[.agg #[.int .i64 0, .int .i64 0, .int .i64 0, .string ByteArray.empty, .slice none 0 0], .slice none 0 0], []⟩ 8 (by kernel_rfl) (by kernel_rfl) (by kernel_rfl) (by kernel_rfl)) ?_
  intro W base args ds gs before hval0 hW hcnd _
  have hval : ∀ (j : Nat) t v, Try.f7.params[j]? = some t → args[j]? = some v → Value.okWide Try.prog W .any base t v := hval0
  have hW' := hW
  have hlt : ∀ x ∈ before, x.block < W.heap.size := fun x hx => hW'.lt x hx
  obtain ⟨p, q, hA0, hV, hpq, hfz, hnd⟩ := hW
  obtain ⟨hg, hq⟩ := trodVars_none hV
  have hA : DataW.TrodAll enc Try.prog W 0 (fun _ => true) true Try.f7.params.toList args.toList ds p := hA0
  rw [Try.params7] at hA hval
  obtain ⟨v0, vs0, d0, ds0, p0, q0, ev0, ed0, ep0, h0, r0⟩ := trodAll_cons hA
  obtain ⟨v1, vs1, d1, ds1, p1, q1, ev1, ed1, ep1, h1, r1⟩ := trodAll_cons r0
  obtain ⟨en, edn, epn⟩ := trodAll_nil r1
  subst en edn epn
  subst ev1 ed1 ep1
  obtain rfl : args = #[v0, v1] := by cases args; simp_all
  subst ed0 ep0 hpq hg hq
  obtain ⟨t0, e0, ev0, la0, lb0, lc0⟩ := open_val (hval 0 40 v0 rfl rfl) h0 (fun x hx => hlt x (by simp [hx]))
  subst ev0
  obtain ⟨A1, n1, c1, ps1, e1, rd1, bd1⟩ := open_steps (hval 1 53 v1 rfl rfl) h1 (fun x hx => hlt x (by simp [hx]))
  subst e1
  clear hA0 hval0
  refine (law_AtPath t0 e0 A1 n1 c1 ps1 W la0 lb0 lc0 rd1 bd1).mono fun e W' ⟨he, hb⟩ => ?_
  subst he
  exact ⟨_, rfl, law_post hW' hlt rfl rfl rfl Try.underlying4 laid_out (by rw [Try.params7]; decide +kernel) hb⟩

theorem closed_FnExactAtPath : joinedFacts Try.pinned.checked.prog 7 Try.f7 Rows.fnExactAtPathSpec Rows.fnExactAtPathRow = true :=
  closed_of Try.checked.prog prog_three fun b1 b2 m h1 h2 h3 => by subst h1 h2 h3; kernel_rfl

theorem holds_FnExactAtPath : Rows.FnExactAtPathSaid :=
  OpenClaim.holds_of_wide 7 Try.f7 rfl rfl rfl rfl rfl rfl rfl ⟨rfl, rfl, rfl, rfl, rfl⟩ rfl rfl rfl rfl rfl (by kernel_rfl) Try.func7 closed_FnExactAtPath
    (of_decide_eq_true (by kernel_rfl)) (by unfold Func.isWrapper; first | (rw [if_pos (by decide +kernel)]; kernel_rfl) | (rw [if_neg (by decide +kernel)]; exact ⟨rfl, rfl⟩))
    (fun os started H enc _ => lifted_FnExactAtPath os started H enc)
#print axioms holds_FnExactAtPath
end Go.Proofs.Ytnfokfogmniehaa
