/- HeadFor: the shortest head. The draws of heads. -/
import Derived.Test.YtpafgmlkbbbmhaaDoorPqM24
import Derived.Test.YtpafgmlkbbbmhaaDoorPqM1
set_option linter.unusedVariables false
set_option maxRecDepth 100000
set_option linter.unusedSimpArgs false
namespace Go.Proofs.YtpafgmlkbbbmhaaDoor
open Go.RowKit

def headWide (n : Int) : Int := if 0 ≤ n ∧ n ≤ 23 then 0 else widthFor n
def headForV (mj n : Int) : Value := if headOk mj n (headWide n) = true then headV mj n (headWide n) else headV 0 0 0
theorem headWide_in {n : Int} (h : 0 ≤ n ∧ n ≤ 23) : headWide n = 0 := if_pos h
theorem headWide_out {n : Int} (h : ¬ (0 ≤ n ∧ n ≤ 23)) : headWide n = widthFor n := if_neg h
theorem headOk_neg {mj n wd : Int} (h : n < 0) : headOk mj n wd = false := (headOk_no (by omega)).symm
theorem headForV_yes {mj n v : Int} (h : headWide n = v) (hh : headOk mj n v = true) : headForV mj n = .agg #[.int .i64 mj, .int .i64 n, .int .i64 v] := by
  unfold headForV; rw [h, if_pos hh]; rfl
theorem headForV_no {mj n v : Int} (h : headWide n = v) (hh : headOk mj n v = false) : headForV mj n = .agg #[.int .i64 0, .int .i64 0, .int .i64 0] := by
  unfold headForV; rw [h, if_neg (by rw [hh]; decide)]; rfl
theorem headForV_shape (mj n : Int) : ∃ a b c : Int, headForV mj n = .agg #[.int .i64 a, .int .i64 b, .int .i64 c] := by
  unfold headForV; split <;> exact ⟨_, _, _, rfl⟩
end Go.Proofs.YtpafgmlkbbbmhaaDoor

namespace Go.Proofs.YtpafgmlkbbbmhaaDoor
open Go.RowKit

theorem Blk.at3 {w : World} {g : Nat} {T : TypeId} {a b c : Value} (h : Blk w g T #[a, b, c]) : (w.cell? ⟨g, 0, none⟩ = some a ∧ w.frozen? ⟨g, 0, none⟩ = false) ∧ (w.cell? ⟨g, 1, none⟩ = some b ∧ w.frozen? ⟨g, 1, none⟩ = false) ∧ w.cell? ⟨g, 2, none⟩ = some c ∧ w.frozen? ⟨g, 2, none⟩ = false := ⟨⟨h.cell 0, h.frozen 0⟩, ⟨h.cell 1, h.frozen 1⟩, h.cell 2, h.frozen 2⟩
/-- What a draw of a head gives. -/
def HeadDrawn (w w' : World) (B g n c : Nat) (A : Option Addr) (b : List UInt8) (r : Ending) : Prop :=
  ∃ x y z : Int, r = .returned (.agg #[.int .i64 x, .int .i64 y, .int .i64 z]) ∧ y ≤ 9223372036854775807 ∧ Cur w' B g A n c b ∧ Fr [g] w w'
theorem headForV_sh (mj n : Int) : ∃ x y z : Int, headForV mj n = .agg #[.int .i64 x, .int .i64 y, .int .i64 z] ∧ (y = n ∨ y = 0) := by
  unfold headForV headV
  split
  · exact ⟨_, _, _, rfl, .inl rfl⟩
  · exact ⟨_, _, _, rfl, .inr rfl⟩
end Go.Proofs.YtpafgmlkbbbmhaaDoor
