/- The draws of heads. (Written by wip/gen/curhead.py.) -/
import Derived.Test.YtihhedmehlemmaaDoorCurBytes
import Derived.Test.YtihhedmehlemmaaDoorHeadFor
set_option linter.unusedVariables false
set_option maxRecDepth 100000
set_option linter.unusedSimpArgs false
namespace Go.Proofs.YtihhedmehlemmaaDoor
open Go.RowKit

theorem Blk.at3 {w : World} {g : Nat} {T : TypeId} {a b c : Value} (h : Blk w g T #[a, b, c]) : (w.cell? ⟨g, 0, none⟩ = some a ∧ w.frozen? ⟨g, 0, none⟩ = false) ∧ (w.cell? ⟨g, 1, none⟩ = some b ∧ w.frozen? ⟨g, 1, none⟩ = false) ∧ w.cell? ⟨g, 2, none⟩ = some c ∧ w.frozen? ⟨g, 2, none⟩ = false := ⟨⟨h.cell 0, h.frozen 0⟩, ⟨h.cell 1, h.frozen 1⟩, h.cell 2, h.frozen 2⟩
/-- What a draw of a head gives. -/
def HeadDrawn (w w' : World) (B g n c : Nat) (A : Option Addr) (b : List UInt8) (r : Ending) : Prop :=
  ∃ x y z : Int, r = .returned (.agg #[.int .i64 x, .int .i64 y, .int .i64 z]) ∧ y ≤ 9223372036854775807 ∧ Cur w' B g A n c b ∧ Fr [g] w w'
theorem headForV_sh (mj n : Int) : ∃ x y z : Int, headForV mj n = .agg #[.int .i64 x, .int .i64 y, .int .i64 z] ∧ (y = n ∨ y = 0) := by
  unfold headForV headV
  split
  · exact ⟨_, _, _, rfl, .inl rfl⟩
  · exact ⟨_, _, _, rfl, .inr rfl⟩
end Go.Proofs.YtihhedmehlemmaaDoor
