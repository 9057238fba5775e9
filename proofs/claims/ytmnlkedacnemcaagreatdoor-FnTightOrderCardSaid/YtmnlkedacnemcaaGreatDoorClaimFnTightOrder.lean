/- laws.FnTightOrder returns true for every input that can be read, and leaves its arguments as they were. No condition. -/
import Derived.Test.YtmnlkedacnemcaaGreatDoorTwM0
import Derived.Test.YtmnlkedacnemcaaGreatDoorCards
import Derived.Test.YtmnlkedacnemcaaGreatDoorTie
import Derived.Lay
import Derived.LaidOnce
import Derived.SevenTiedAt
import Derived.Test.YtmnlkedacnemcaaGreatDoorTwTightLaw
set_option linter.unusedVariables false
namespace Go.Proofs.YtmnlkedacnemcaaGreatDoor
open Go.ChangeShapes Go.WideShapes Go.ChangeAt Go.RowKit Go.Joins
open Go.ChangeMaps (open_string)
open Go.Lib (laidMet.reads)

set_option maxRecDepth 100000 in
theorem lifted_FnTightOrder (os : Os) (started : os.Started) (H : Type) (enc : TypeId × Value → H) :
    ReturnsInHanded {} Tryz.checked os 3 .any (fun w args => (Rows.fnTightOrderSpec.pre enc Tryz.prog Tryz.f3 [] false w args ∧ laidMetH Tryz.prog Rows.fnTightOrderRow.laid w) ∧ sizedMet enc Tryz.prog Tryz.f3 (OpenSpec.ofChange Rows.fnTightOrderSpec) false w args) (Rows.fnTightOrderSpec.post enc Tryz.prog Tryz.f3 false true false false) := by
  refine returnsInHanded_of_change_and (C := Tryz.checked) (X := fun w _ => laidMetH Tryz.prog Rows.fnTightOrderRow.laid w) (fun _ _ _ hh h => h.of_heap hh) own_knob started (by kernel_rfl) Tryz.func3
    (ChangeSpec.witness_shaped (enc := enc) (C := Tryz.checked) (os := os) (X := fun w _ => laidMetH Tryz.prog Rows.fnTightOrderRow.laid w) false (World.laidAll Tryz.prog os Rows.fnTightOrderRow.laid) #[.slice none 0 0] 8 (World.laidAll_os _ _ _)
      (World.shaped_of_ZipB (by kernel_rfl) (by kernel_rfl)) (by kernel_rfl) (by kernel_rfl) (by kernel_rfl)
      (by rw [MakeChecks.laidMetH_plain _ _ _ (by kernel_rfl)]; exact laidMet_laidAll _ (by kernel_rfl) (by kernel_rfl))) ?_
  intro W base args ds gs before hval0 hW _ _ hL _
  rw [MakeChecks.laidMetH_plain _ _ _ (by kernel_rfl)] at hL
  have hval : ∀ (j : Nat) t v, Tryz.f3.params[j]? = some t → args[j]? = some v → Value.okWide Tryz.prog W .any base t v := hval0
  have hW' := hW
  have hlt : ∀ x ∈ before, x.block < W.heap.size := fun x hx => hW'.lt x hx
  obtain ⟨p, q, hA0, hV, hpq, hfz, hnd⟩ := hW
  obtain ⟨hg, hq⟩ := trodVars_none hV
  have hA : DataW.TrodAll enc Tryz.prog W 0 (fun _ => true) true Tryz.f3.params.toList args.toList ds p := hA0
  rw [Tryz.params3] at hA hval
  obtain ⟨v0, vs0, d0, ds0, p0, q0, ev0, ed0, ep0, h0, r0⟩ := trodAll_cons hA
  obtain ⟨en, edn, epn⟩ := trodAll_nil r0
  subst en edn epn
  obtain rfl : args = #[v0] := by cases args; simp_all
  subst ed0 ep0 hpq hg hq
  obtain ⟨A0, n0, c0, b0, e0, rd0⟩ := open_bytes (hval 0 22 v0 rfl rfl) h0 (fun x hx => hlt x (by simp [hx]))
  subst e0
  clear hA0 hval0
  refine (law_FnTightOrder A0 n0 c0 b0 W rd0).mono fun e W' ⟨he, hb⟩ => ?_
  subst he
  exact ⟨_, rfl, law_post hW' hlt rfl rfl rfl Tryz.underlying4 laid_out (by rw [Tryz.params3]; decide +kernel) hb⟩

theorem closed_FnTightOrder : joinedFacts Tryz.pinned.checked.prog 3 Tryz.f3 Rows.fnTightOrderSpec Rows.fnTightOrderRow = true :=
  closed_of Tryz.checked.prog prog_three fun b1 b2 m h1 h2 h3 => by subst h1 h2 h3; kernel_rfl

theorem holds_FnTightOrder : Rows.FnTightOrderSaid :=
  OpenClaim.holds_of_wide 3 Tryz.f3 rfl rfl rfl rfl rfl rfl rfl ⟨rfl, rfl, rfl, rfl, rfl⟩ rfl rfl rfl rfl rfl (by kernel_rfl) Tryz.func3 closed_FnTightOrder
    (of_decide_eq_true (by kernel_rfl)) (by unfold Func.isWrapper; first | (rw [if_pos (by decide +kernel)]; kernel_rfl) | (rw [if_neg (by decide +kernel)]; exact ⟨rfl, rfl⟩))
    (fun os started H enc _ => lifted_FnTightOrder os started H enc)

theorem card_FnTightOrder : Rows.FnTightOrderCardSaid :=
  Claim7.holds_tied_plain_at .later [] Rows.fnTightOrderCard.laidKinds true Rows.fnTightOrderCard.stood.harness Rows.fnTightOrderCard.stood.looks holds_FnTightOrder (fun _ h => by cases h) (by kernel_rfl) (fun _ h => by cases h) fnTightOrder_row_tie rfl ⟨rfl, rfl⟩ (by kernel_rfl) rfl
    (fun f fn hf hfn => by
      obtain rfl : f = 3 := Option.some.inj ((show Tryz.prog.funcNamed "loop.example/g00502/laws.FnTightOrder" = some 3 by kernel_rfl).symm.trans hf) |>.symm
      obtain rfl : fn = Tryz.f3 := (Option.some.inj (Tryz.func3.symm.trans hfn)).symm
      exact ⟨by kernel_rfl, fun j t ht => by
        rw [Tryz.params3] at ht
        have hm : t ∈ [22] := by simpa using Array.mem_of_getElem? ht
        have hall : ([22].all fun u => !Tryz.prog.wantsStandIn u) = true := by kernel_rfl
        exact (show Tryz.prog.wantsStandIn t = false by simpa using List.all_eq_true.1 hall t hm)⟩)
    (by kernel_rfl)
#print axioms card_FnTightOrder
end Go.Proofs.YtmnlkedacnemcaaGreatDoor
