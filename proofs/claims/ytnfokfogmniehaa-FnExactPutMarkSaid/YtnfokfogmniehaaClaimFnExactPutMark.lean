/- laws.FnExactPutMark returns true for every input that can be read, and leaves its arguments as they were. No condition. -/
import Derived.Test.YtnfokfogmniehaaPost
import Derived.Test.YtnfokfogmniehaaPutMarkLaw
import Derived.Test.YtnfokfogmniehaaOpen
set_option linter.unusedVariables false
namespace Go.Proofs.Ytnfokfogmniehaa
open Go.ChangeShapes Go.WideShapes Go.ChangeAt Go.RowKit Go.Joins
open Go.ChangeMaps (open_string)

set_option maxRecDepth 100000 in
theorem lifted_FnExactPutMark (os : Os) (started : os.Started) (H : Type) (enc : TypeId × Value → H) :
    ReturnsInHanded {} Try.checked os 11 .any (Rows.fnExactPutMarkSpec.pre6 enc Try.prog Try.f11 Rows.fnExactPutMarkRow.domain false) (Rows.fnExactPutMarkSpec.post enc Try.prog Try.f11 false true false false) := by
  refine returnsInHanded_of_change (C := Try.checked) own_knob started (by kernel_rfl) Try.func11
    (ChangeSpec.witness6 (enc := enc) (C := Try.checked) false ⟨#[], #[.slice none 0 0, .agg #[.int .i64 0, .int .i64 0]], []⟩ 8 (by kernel_rfl) (by kernel_rfl) (by kernel_rfl) (by kernel_rfl)) ?_
  intro W base args ds gs before hval0 hW hcnd _
  have hval : ∀ (j : Nat) t v, Try.f11.params[j]? = some t → args[j]? = some v → Value.okWide Try.prog W .any base t v := hval0
  have hW' := hW
  have hlt : ∀ x ∈ before, x.block < W.heap.size := fun x hx => hW'.lt x hx
  obtain ⟨p, q, hA0, hV, hpq, hfz, hnd⟩ := hW
  obtain ⟨hg, hq⟩ := trodVars_none hV
  have hA : DataW.TrodAll enc Try.prog W 0 (fun _ => true) true Try.f11.params.toList args.toList ds p := hA0
  rw [Try.params11] at hA hval
  obtain ⟨v0, vs0, d0, ds0, p0, q0, ev0, ed0, ep0, h0, r0⟩ := trodAll_cons hA
  obtain ⟨v1, vs1, d1, ds1, p1, q1, ev1, ed1, ep1, h1, r1⟩ := trodAll_cons r0
  obtain ⟨en, edn, epn⟩ := trodAll_nil r1
  subst en edn epn
  subst ev1 ed1 ep1
  obtain rfl : args = #[v0, v1] := by cases args; simp_all
  subst ed0 ep0 hpq hg hq
  obtain ⟨A0, n0, c0, b0, e0, rd0⟩ := open_bytes (hval 0 22 v0 rfl rfl) h0 (fun x hx => hlt x (by simp [hx]))
  subst e0
  obtain ⟨a1, b1, e1, wa1, wb1⟩ := open_two Try.underlying65 (by kernel_rfl) (by kernel_rfl) Try.underlying3 rfl rfl (hval 1 65 v1 rfl rfl) h1
  subst e1
  clear hA0 hval0
  refine (law_PutMark A0 n0 c0 b0 a1 b1 W rd0 (bounds_i64 wa1) (bounds_i64 wb1)).mono fun e W' ⟨he, hb⟩ => ?_
  subst he
  exact ⟨_, rfl, law_post hW' hlt rfl rfl rfl Try.underlying4 laid_out (by rw [Try.params11]; decide +kernel) hb⟩

theorem closed_FnExactPutMark : joinedFacts Try.pinned.checked.prog 11 Try.f11 Rows.fnExactPutMarkSpec Rows.fnExactPutMarkRow = true :=
  closed_of Try.checked.prog prog_three fun b1 b2 m h1 h2 h3 => by subst h1 h2 h3; kernel_rfl

theorem holds_FnExactPutMark : Rows.FnExactPutMarkSaid :=
  OpenClaim.holds_of_wide 11 Try.f11 rfl rfl rfl rfl rfl rfl rfl ⟨rfl, rfl, rfl, rfl, rfl⟩ rfl rfl rfl rfl rfl (by kernel_rfl) Try.func11 closed_FnExactPutMark
    (of_decide_eq_true (by kernel_rfl)) (by unfold Func.isWrapper; first | (rw [if_pos (by decide +kernel)]; kernel_rfl) | (rw [if_neg (by decide +kernel)]; exact ⟨rfl, rfl⟩))
    (fun os started H enc _ => lifted_FnExactPutMark os started H enc)
#print axioms holds_FnExactPutMark
end Go.Proofs.Ytnfokfogmniehaa
