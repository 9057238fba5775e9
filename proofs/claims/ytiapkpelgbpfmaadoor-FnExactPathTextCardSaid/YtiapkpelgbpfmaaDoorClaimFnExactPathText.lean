/- laws.FnExactPathText returns true for every input that can be read, and leaves its arguments as they were. No condition. -/
import Derived.Test.YtiapkpelgbpfmaaDoorPost
import Derived.Test.YtiapkpelgbpfmaaDoorCards
import Derived.Test.YtiapkpelgbpfmaaDoorTie
import Derived.Test.YtiapkpelgbpfmaaDoorLaid
import Derived.Lay
import Derived.LaidOnce
import Derived.SevenTiedAt
import Derived.Test.YtiapkpelgbpfmaaDoorPathLaw
import Derived.Test.YtiapkpelgbpfmaaDoorOpenVal
set_option linter.unusedVariables false
namespace Go.Proofs.YtiapkpelgbpfmaaDoor
open Go.ChangeShapes Go.WideShapes Go.ChangeAt Go.RowKit Go.Joins
open Go.ChangeMaps (open_string)
open Go.Lib (laidMet.reads)

set_option maxRecDepth 100000 in
theorem lifted_FnExactPathText (os : Os) (started : os.Started) (H : Type) (enc : TypeId × Value → H) :
    ReturnsInHanded {} Tryd.checked os 6 .any (fun w args => (Rows.fnExactPathTextSpec.pre enc Tryd.prog Tryd.f6 [] false w args ∧ laidMetH Tryd.prog Rows.fnExactPathTextRow.laid w) ∧ sizedMet enc Tryd.prog Tryd.f6 (OpenSpec.ofChange Rows.fnExactPathTextSpec) false w args) (Rows.fnExactPathTextSpec.post enc Tryd.prog Tryd.f6 false true false false) := by
  refine returnsInHanded_of_change_and (C := Tryd.checked) (X := fun w _ => laidMetH Tryd.prog Rows.fnExactPathTextRow.laid w) (fun _ _ _ hh h => h.of_heap hh) own_knob started (by kernel_rfl) Tryd.func6
    (ChangeSpec.witness_shaped (enc := enc) (C := Tryd.checked) (os := os) (X := fun w _ => laidMetH Tryd.prog Rows.fnExactPathTextRow.laid w) false (World.laidAll Tryd.prog os Rows.fnExactPathTextRow.laid) #[.agg #[.int .i64 0, .int .i64 0, .int .i64 0, .string ByteArray.empty, .slice none 0 0], .slice none 0 0] 8 (World.laidAll_os _ _ _)
      (World.shaped_of_ZipB (by kernel_rfl) (by kernel_rfl)) (by kernel_rfl) (by kernel_rfl) (by kernel_rfl)
      (by rw [MakeChecks.laidMetH_plain _ _ _ (by kernel_rfl)]; exact laidMet_laidAll _ (by kernel_rfl) (by kernel_rfl))) ?_
  intro W base args ds gs before hval0 hW _ _ hL _
  rw [MakeChecks.laidMetH_plain _ _ _ (by kernel_rfl)] at hL
  have hval : ∀ (j : Nat) t v, Tryd.f6.params[j]? = some t → args[j]? = some v → Value.okWide Tryd.prog W .any base t v := hval0
  have hW' := hW
  have hlt : ∀ x ∈ before, x.block < W.heap.size := fun x hx => hW'.lt x hx
  obtain ⟨p, q, hA0, hV, hpq, hfz, hnd⟩ := hW
  obtain ⟨hg, hq⟩ := trodVars_none hV
  have hA : DataW.TrodAll enc Tryd.prog W 0 (fun _ => true) true Tryd.f6.params.toList args.toList ds p := hA0
  rw [Tryd.params6] at hA hval
  obtain ⟨v0, vs0, d0, ds0, p0, q0, ev0, ed0, ep0, h0, r0⟩ := trodAll_cons hA
  obtain ⟨v1, vs1, d1, ds1, p1, q1, ev1, ed1, ep1, h1, r1⟩ := trodAll_cons r0
  obtain ⟨en, edn, epn⟩ := trodAll_nil r1
  subst en edn epn
  subst ev1 ed1 ep1
  obtain rfl : args = #[v0, v1] := by cases args; simp_all
  subst ed0 ep0 hpq hg hq
  obtain ⟨t0, e0, ev0, la0, lb0, lc0⟩ := open_val (hval 0 29 v0 rfl rfl) h0 (fun x hx => hlt x (by simp [hx]))
  subst ev0
  obtain ⟨A1, n1, c1, ps1, e1, rd1, bd1⟩ := open_steps (hval 1 30 v1 rfl rfl) h1 (fun x hx => hlt x (by simp [hx]))
  subst e1
  clear hA0 hval0
  refine (law_PathText t0 e0 A1 n1 c1 ps1 W la0 lb0 lc0 rd1 bd1 (pow10_of (laidMet.reads hL (by first | exact .head _ | exact .tail _ (.head _) | exact .tail _ (.tail _ (.head _)) | exact .tail _ (.tail _ (.tail _ (.head _))) | exact .tail _ (.tail _ (.tail _ (.tail _ (.head _)))) | exact .tail _ (.tail _ (.tail _ (.tail _ (.tail _ (.head _))))))))).mono fun e W' ⟨he, hb⟩ => ?_
  subst he
  exact ⟨_, rfl, law_post hW' hlt rfl rfl rfl Tryd.underlying4 laid_out (by rw [Tryd.params6]; decide +kernel) hb⟩

theorem closed_FnExactPathText : joinedFacts Tryd.pinned.checked.prog 6 Tryd.f6 Rows.fnExactPathTextSpec Rows.fnExactPathTextRow = true :=
  closed_of Tryd.checked.prog prog_three fun b1 b2 m h1 h2 h3 => by subst h1 h2 h3; kernel_rfl

theorem holds_FnExactPathText : Rows.FnExactPathTextSaid :=
  OpenClaim.holds_of_wide 6 Tryd.f6 rfl rfl rfl rfl rfl rfl rfl ⟨rfl, rfl, rfl, rfl, rfl⟩ rfl rfl rfl rfl rfl (by kernel_rfl) Tryd.func6 closed_FnExactPathText
    (of_decide_eq_true (by kernel_rfl)) (by unfold Func.isWrapper; first | (rw [if_pos (by decide +kernel)]; kernel_rfl) | (rw [if_neg (by decide +kernel)]; exact ⟨rfl, rfl⟩))
    (fun os started H enc _ => lifted_FnExactPathText os started H enc)

theorem card_FnExactPathText : Rows.FnExactPathTextCardSaid :=
  Claim7.holds_tied_plain_at .later [] Rows.fnExactPathTextCard.laidKinds true Rows.fnExactPathTextCard.stood.harness false holds_FnExactPathText (fun _ h => by cases h) (by kernel_rfl) (fun _ h => by cases h) fnExactPathText_row_tie rfl ⟨rfl, rfl⟩ (by kernel_rfl) rfl
    (fun f fn hf hfn => by
      obtain rfl : f = 6 := Option.some.inj ((show Tryd.prog.funcNamed "loop.example/g00502/laws.FnExactPathText" = some 6 by kernel_rfl).symm.trans hf) |>.symm
      obtain rfl : fn = Tryd.f6 := (Option.some.inj (Tryd.func6.symm.trans hfn)).symm
      exact ⟨by kernel_rfl, fun j t ht => by
        rw [Tryd.params6] at ht
        have hm : t ∈ [29, 30] := by simpa using Array.mem_of_getElem? ht
        have hall : ([29, 30].all fun u => !Tryd.prog.wantsStandIn u) = true := by kernel_rfl
        exact (show Tryd.prog.wantsStandIn t = false by simpa using List.all_eq_true.1 hall t hm)⟩)
    (by kernel_rfl)
#print axioms card_FnExactPathText
end Go.Proofs.YtiapkpelgbpfmaaDoor
