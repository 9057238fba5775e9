/- laws.FnExactPutAt returns true for every input that can be read, and leaves its arguments as they were. No condition. -/
import Derived.Test.YtnfokfogmniehaaPost
import Derived.Test.YtnfokfogmniehaaPutAtLaw
import Derived.Test.YtnfokfogmniehaaOpen
import Derived.Test.YtnfokfogmniehaaOpenVal
set_option linter.unusedVariables false
namespace Go.Proofs.Ytnfokfogmniehaa
open Go.ChangeShapes Go.WideShapes Go.ChangeAt Go.RowKit Go.Joins
open Go.ChangeMaps (open_string)

set_option maxRecDepth 100000 in
theorem lifted_FnExactPutAt (os : Os) (started : os.Started) (H : Type) (enc : TypeId × Value → H) :
    ReturnsInHanded {} Try.checked os 8 .any (Rows.fnExactPutAtSpec.pre6 enc Try.prog Try.f8 Rows.fnExactPutAtRow.domain false) (Rows.fnExactPutAtSpec.post enc Try.prog Try.f8 false true false false) := by
  refine returnsInHanded_of_change (C := Try.checked) own_knob started (by kernel_rfl) Try.func8
    (ChangeSpec.witness6 (enc := enc) (C := Try.checked) false ⟨#[], #[.agg #[.int .i64 0, .int .i64 0, .int .i64 0, .string ByteArray.empty, .slice none 0 0], .slice none 0 0, .agg #[.int .i64 0, .int .i64 0, .int .i64 0, .string ByteArray.empty, .slice none 0 0]], []⟩ 8 (by kernel_rfl) (by kernel_rfl) (by kernel_rfl) (by kernel_rfl)) ?_
  intro W base args ds gs before hval0 hW hcnd _
  have hval : ∀ (j : Nat) t v, Try.f8.params[j]? = some t → args[j]? = some v → Value.okWide Try.prog W .any base t v := hval0
  have hW' := hW
  have hlt : ∀ x ∈ before, x.block < W.heap.size := fun x hx => hW'.lt x hx
  obtain ⟨p, q, hA0, hV, hpq, hfz, hnd⟩ := hW
  obtain ⟨hg, hq⟩ := trodVars_none hV
  have hA : DataW.TrodAll enc Try.prog W 0 (fun _ => true) true Try.f8.params.toList args.toList ds p := hA0
  rw [Try.params8] at hA hval
  obtain ⟨v0, vs0, d0, ds0, p0, q0, ev0, ed0, ep0, h0, r0⟩ := trodAll_cons hA
  obtain ⟨v1, vs1, d1, ds1, p1, q1, ev1, ed1, ep1, h1, r1⟩ := trodAll_cons r0
  obtain ⟨v2, vs2, d2, ds2, p2, q2, ev2, ed2, ep2, h2, r2⟩ := trodAll_cons r1
  obtain ⟨en, edn, epn⟩ := trodAll_nil r2
  subst en edn epn
  subst ev2 ed2 ep2
  subst ev1 ed1 ep1
  obtain rfl : args = #[v0, v1, v2] := by cases args; simp_all
  subst ed0 ep0 hpq hg hq
  obtain ⟨t0, e0, ev0, la0, lb0, lc0⟩ := open_val (hval 0 40 v0 rfl rfl) h0 (fun x hx => hlt x (by simp [hx]))
  subst ev0
  obtain ⟨A1, n1, c1, ps1, e1, rd1, bd1⟩ := open_steps (hval 1 53 v1 rfl rfl) h1 (fun x hx => hlt x (by simp [hx]))
  subst e1
  obtain ⟨t2, e2, ev2, la2, lb2, lc2⟩ := open_val (hval 2 40 v2 rfl rfl) h2 (fun x hx => hlt x (by simp [hx]))
  subst ev2
  clear hA0 hval0
  refine (law_PutAt t0 e0 A1 n1 c1 ps1 t2 e2 W la0 lb0 lc0 rd1 bd1 la2 lb2 lc2).mono fun e W' ⟨he, hb⟩ => ?_
  subst he
  exact ⟨_, rfl, law_post hW' hlt rfl rfl rfl Try.underlying4 laid_out (by rw [Try.params8]; decide +kernel) hb⟩

theorem closed_FnExactPutAt : joinedFacts Try.pinned.checked.prog 8 Try.f8 Rows.fnExactPutAtSpec Rows.fnExactPutAtRow = true :=
  closed_of Try.checked.prog prog_three fun b1 b2 m h1 h2 h3 => by subst h1 h2 h3; kernel_rfl

theorem holds_FnExactPutAt : Rows.FnExactPutAtSaid :=
  OpenClaim.holds_of_wide 8 Try.f8 rfl rfl rfl rfl rfl rfl rfl ⟨rfl, rfl, rfl, rfl, rfl⟩ rfl rfl rfl rfl rfl (by kernel_rfl) Try.func8 closed_FnExactPutAt
    (of_decide_eq_true (by kernel_rfl)) (by unfold Func.isWrapper; first | (rw [if_pos (by decide +kernel)]; kernel_rfl) | (rw [if_neg (by decide +kernel)]; exact ⟨rfl, rfl⟩))
    (fun os started H enc _ => lifted_FnExactPutAt os started H enc)
#print axioms holds_FnExactPutAt
end Go.Proofs.Ytnfokfogmniehaa
