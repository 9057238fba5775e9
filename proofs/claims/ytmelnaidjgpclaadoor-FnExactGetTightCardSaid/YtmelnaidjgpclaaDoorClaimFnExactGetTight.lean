/- laws.FnExactGetTight returns true for every input that can be read, and leaves its arguments as they were. No condition. -/
import Derived.Test.YtmelnaidjgpclaaDoorPost
import Derived.Test.YtmelnaidjgpclaaDoorCards
import Derived.Test.YtmelnaidjgpclaaDoorTie
import Derived.Test.YtmelnaidjgpclaaDoorLaid
import Derived.Lay
import Derived.LaidOnce
import Derived.SevenTiedAt
import Derived.Test.YtmelnaidjgpclaaDoorTgG7
import Derived.Test.YtmelnaidjgpclaaDoorOpen
set_option linter.unusedVariables false
namespace Go.Proofs.YtmelnaidjgpclaaDoor
open Go.ChangeShapes Go.WideShapes Go.ChangeAt Go.RowKit Go.Joins
open Go.ChangeMaps (open_string)
open Go.Lib (laidMet.reads)

set_option maxRecDepth 100000 in
theorem lifted_FnExactGetTight (os : Os) (started : os.Started) (H : Type) (enc : TypeId × Value → H) :
    ReturnsInHanded {} Tryd.checked os 5 .any (fun w args => (Rows.fnExactGetTightSpec.pre enc Tryd.prog Tryd.f5 [] false w args ∧ laidMetH Tryd.prog Rows.fnExactGetTightRow.laid w) ∧ sizedMet enc Tryd.prog Tryd.f5 (OpenSpec.ofChange Rows.fnExactGetTightSpec) false w args) (Rows.fnExactGetTightSpec.post enc Tryd.prog Tryd.f5 false true false false) := by
  refine returnsInHanded_of_change_and (C := Tryd.checked) (X := fun w _ => laidMetH Tryd.prog Rows.fnExactGetTightRow.laid w) (fun _ _ _ hh h => h.of_heap hh) own_knob started (by kernel_rfl) Tryd.func5
    (ChangeSpec.witness_shaped (enc := enc) (C := Tryd.checked) (os := os) (X := fun w _ => laidMetH Tryd.prog Rows.fnExactGetTightRow.laid w) false (World.laidAll Tryd.prog os Rows.fnExactGetTightRow.laid) #[.slice none 0 0, .int .i64 0, .int .i64 0] 8 (World.laidAll_os _ _ _)
      (World.shaped_of_ZipB (by kernel_rfl) (by kernel_rfl)) (by kernel_rfl) (by kernel_rfl) (by kernel_rfl)
      (by rw [MakeChecks.laidMetH_plain _ _ _ (by kernel_rfl)]; exact laidMet_laidAll _ (by kernel_rfl) (by kernel_rfl))) ?_
  intro W base args ds gs before hval0 hW _ _ hL _
  rw [MakeChecks.laidMetH_plain _ _ _ (by kernel_rfl)] at hL
  have hval : ∀ (j : Nat) t v, Tryd.f5.params[j]? = some t → args[j]? = some v → Value.okWide Tryd.prog W .any base t v := hval0
  have hW' := hW
  have hlt : ∀ x ∈ before, x.block < W.heap.size := fun x hx => hW'.lt x hx
  obtain ⟨p, q, hA0, hV, hpq, hfz, hnd⟩ := hW
  obtain ⟨hg, hq⟩ := trodVars_none hV
  have hA : DataW.TrodAll enc Tryd.prog W 0 (fun _ => true) true Tryd.f5.params.toList args.toList ds p := hA0
  rw [Tryd.params5] at hA hval
  obtain ⟨v0, vs0, d0, ds0, p0, q0, ev0, ed0, ep0, h0, r0⟩ := trodAll_cons hA
  obtain ⟨v1, vs1, d1, ds1, p1, q1, ev1, ed1, ep1, h1, r1⟩ := trodAll_cons r0
  obtain ⟨v2, vs2, d2, ds2, p2, q2, ev2, ed2, ep2, h2, r2⟩ := trodAll_cons r1
  obtain ⟨en, edn, epn⟩ := trodAll_nil r2
  subst en edn epn
  subst ev2 ed2 ep2
  subst ev1 ed1 ep1
  obtain rfl : args = #[v0, v1, v2] := by cases args; simp_all
  subst ed0 ep0 hpq hg hq
  obtain ⟨A0, n0, c0, b0, e0, rd0⟩ := open_bytes (hval 0 22 v0 rfl rfl) h0 (fun x hx => hlt x (by simp [hx]))
  subst e0
  obtain ⟨a1, e1, -, -, wf1⟩ := open_int Tryd.underlying3 (hval 1 3 v1 rfl rfl) h1
  subst e1
  obtain ⟨a2, e2, -, -, wf2⟩ := open_int Tryd.underlying3 (hval 2 3 v2 rfl rfl) h2
  subst e2
  clear hA0 hval0
  refine (law_GetTight A0 n0 c0 b0 a1 a2 W rd0 (bounds_i64 wf1) (bounds_i64 wf2) (utf8_of (laidMet.reads hL (by first | exact .head _ | exact .tail _ (.head _) | exact .tail _ (.tail _ (.head _)) | exact .tail _ (.tail _ (.tail _ (.head _))) | exact .tail _ (.tail _ (.tail _ (.tail _ (.head _)))) | exact .tail _ (.tail _ (.tail _ (.tail _ (.tail _ (.head _))))))) (laidMet.reads hL (by first | exact .head _ | exact .tail _ (.head _) | exact .tail _ (.tail _ (.head _)) | exact .tail _ (.tail _ (.tail _ (.head _))) | exact .tail _ (.tail _ (.tail _ (.tail _ (.head _)))) | exact .tail _ (.tail _ (.tail _ (.tail _ (.tail _ (.head _))))))))).mono fun e W' ⟨he, hb⟩ => ?_
  subst he
  exact ⟨_, rfl, law_post hW' hlt rfl rfl rfl Tryd.underlying4 laid_out (by rw [Tryd.params5]; decide +kernel) hb⟩

theorem closed_FnExactGetTight : joinedFacts Tryd.pinned.checked.prog 5 Tryd.f5 Rows.fnExactGetTightSpec Rows.fnExactGetTightRow = true :=
  closed_of Tryd.checked.prog prog_three fun b1 b2 m h1 h2 h3 => by subst h1 h2 h3; kernel_rfl

theorem holds_FnExactGetTight : Rows.FnExactGetTightSaid :=
  OpenClaim.holds_of_wide 5 Tryd.f5 rfl rfl rfl rfl rfl rfl rfl ⟨rfl, rfl, rfl, rfl, rfl⟩ rfl rfl rfl rfl rfl (by kernel_rfl) Tryd.func5 closed_FnExactGetTight
    (of_decide_eq_true (by kernel_rfl)) (by unfold Func.isWrapper; first | (rw [if_pos (by decide +kernel)]; kernel_rfl) | (rw [if_neg (by decide +kernel)]; exact ⟨rfl, rfl⟩))
    (fun os started H enc _ => lifted_FnExactGetTight os started H enc)

theorem card_FnExactGetTight : Rows.FnExactGetTightCardSaid :=
  Claim7.holds_tied_plain_at .later [] Rows.fnExactGetTightCard.laidKinds true Rows.fnExactGetTightCard.stood.harness false holds_FnExactGetTight (fun _ h => by cases h) (by kernel_rfl) (fun _ h => by cases h) fnExactGetTight_row_tie rfl ⟨rfl, rfl⟩ (by kernel_rfl) rfl
    (fun f fn hf hfn => by
      obtain rfl : f = 5 := Option.some.inj ((show Tryd.prog.funcNamed "loop.example/g00502/laws.FnExactGetTight" = some 5 by kernel_rfl).symm.trans hf) |>.symm
      obtain rfl : fn = Tryd.f5 := (Option.some.inj (Tryd.func5.symm.trans hfn)).symm
      exact ⟨by kernel_rfl, fun j t ht => by
        rw [Tryd.params5] at ht
        have hm : t ∈ [22, 3, 3] := by simpa using Array.mem_of_getElem? ht
        have hall : ([22, 3, 3].all fun u => !Tryd.prog.wantsStandIn u) = true := by kernel_rfl
        exact (show Tryd.prog.wantsStandIn t = false by simpa using List.all_eq_true.1 hall t hm)⟩)
    (by kernel_rfl)
#print axioms card_FnExactGetTight
end Go.Proofs.YtmelnaidjgpclaaDoor
