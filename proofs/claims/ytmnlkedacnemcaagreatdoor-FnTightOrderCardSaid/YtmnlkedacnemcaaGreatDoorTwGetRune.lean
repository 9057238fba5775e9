/- GetRune, TextOk, RunesOf: the reference's. -/
import Derived.Test.YtmnlkedacnemcaaGreatDoorTwM21
import Derived.Test.YtmnlkedacnemcaaGreatDoorTwM4
import Derived.Deep.LoopGhost
set_option linter.unusedVariables false
set_option maxRecDepth 100000
set_option linter.unusedSimpArgs false
namespace Go.Proofs.YtmnlkedacnemcaaGreatDoor
open Go.RowKit

/-- What GetRune says of a place in a text: the character, the place behind, whether there is one. -/
def runeAt (l : List UInt8) (i : Int) : Int × Int × Bool :=
  if 0 ≤ i ∧ i < l.length then
    match getR (l.drop i.toNat) with
    | none => (0, 0, false)
    | some d => ((d.1 : Int), i + (d.2 : Int), true)
  else (0, 0, false)
theorem runeAt_out {l : List UInt8} {i : Int} (h : ¬ (0 ≤ i ∧ i < l.length)) : runeAt l i = (0, 0, false) := if_neg h
theorem runeAt_in {l : List UInt8} {i : Nat} (h : i < l.length) : runeAt l i = match getR (l.drop i) with | none => (0, 0, false) | some d => ((d.1 : Int), (i : Int) + (d.2 : Int), true) := by
  unfold runeAt
  rw [if_pos (by omega)]
  rfl
def ret3 (p : Int × Int × Bool) : Ending := .returned (.tuple #[.int .i64 p.1, .int .i64 p.2.1, .bool p.2.2])
theorem getD_drop (l : List UInt8) (i j : Nat) (h : i + j < l.length) : (l.drop i).getD j 0 = l[i + j] := by
  simp [List.getD, h]
theorem accR_up (l : List UInt8) (x : Int) (h0 : 0 ≤ x) (h1 : x ≤ 127) : ∀ j, j ≤ 3 → (∀ i, 1 ≤ i → i ≤ j → contR l i) → 0 ≤ accR l x j ∧ accR l x j ≤ 33554431
  | 0, _, _ => by simp [accR]; omega
  | 1, _, h => by have := h 1 (by omega) (by omega); unfold contR at this; simp only [accR, Nat.zero_add]; omega
  | 2, _, h => by have a := h 1 (by omega) (by omega); have b := h 2 (by omega) (by omega); unfold contR at a b; simp only [accR, Nat.zero_add, Nat.reduceAdd]; omega
  | 3, _, h => by have a := h 1 (by omega) (by omega); have b := h 2 (by omega) (by omega); have c := h 3 (by omega) (by omega); unfold contR at a b c; simp only [accR, Nat.zero_add, Nat.reduceAdd]; omega
  | j + 4, h, _ => by omega
end Go.Proofs.YtmnlkedacnemcaaGreatDoor
