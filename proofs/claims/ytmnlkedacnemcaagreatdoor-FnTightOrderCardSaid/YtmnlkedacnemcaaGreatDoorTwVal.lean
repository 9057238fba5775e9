/- The laws' helpers on trees: szVal, toVal, eqVal. -/
import Derived.Test.YtmnlkedacnemcaaGreatDoorTwM2
import Derived.Deep.LoopGhost
import Derived.Deep.RegionHeld3
set_option linter.unusedVariables false
set_option maxRecDepth 100000
set_option linter.unusedSimpArgs false
namespace Go.Proofs.YtmnlkedacnemcaaGreatDoor
open Go.RowKit

noncomputable def Tr.wf : Tr → Prop := Tr.fold fun k n x s _ ih => (-9223372036854775808 ≤ k ∧ k ≤ 9223372036854775807) ∧ (-9223372036854775808 ≤ n ∧ n ≤ 9223372036854775807) ∧ (-9223372036854775808 ≤ x ∧ x ≤ 9223372036854775807) ∧ s.size ≤ maxLen ∧ ∀ P ∈ ih, P
theorem Tr.wf_iff (t : Tr) : t.wf ↔ (-9223372036854775808 ≤ t.k ∧ t.k ≤ 9223372036854775807) ∧ (-9223372036854775808 ≤ t.n ∧ t.n ≤ 9223372036854775807) ∧ (-9223372036854775808 ≤ t.x ∧ t.x ≤ 9223372036854775807) ∧ t.s.size ≤ maxLen ∧ ∀ u ∈ t.l, u.wf := by
  obtain ⟨k, n, x, s, l⟩ := t
  rw [show Tr.wf ⟨k, n, x, s, l⟩ = _ from Tr.fold_mk _ _ _ _ _ _]
  have h : (∀ P ∈ l.map Tr.wf, P) ↔ ∀ u ∈ l, u.wf := List.forall_mem_map
  exact and_congr Iff.rfl (and_congr Iff.rfl (and_congr Iff.rfl (and_congr Iff.rfl h)))
def szRes (left : Int) (m : Nat) : Int := if (m : Int) ≤ left then left - m else -1
abbrev trV (t : Tr) (e : El) : Value := .agg #[.int .i64 t.k, .int .i64 t.n, .int .i64 t.x, .string t.s, .slice e.A e.n e.c]
theorem info_val : (Tryz.prog.info? 26).map (fun i => (i.zero, i.size, i.bytes)) = some (some (.agg #[.int .i64 0, .int .i64 0, .int .i64 0, .string ByteArray.empty, .slice none 0 0]), 5, 64) := by kernel_rfl
end Go.Proofs.YtmnlkedacnemcaaGreatDoor
