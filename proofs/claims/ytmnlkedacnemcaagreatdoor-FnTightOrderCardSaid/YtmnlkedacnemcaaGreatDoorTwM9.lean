/- Paths: the element that a step leads to; AtPath. AtPath and what it calls. -/
import Derived.Test.YtmnlkedacnemcaaGreatDoorTwM8
import Derived.Deep.RegionLaw
set_option linter.unusedVariables false
set_option maxRecDepth 100000
set_option linter.unusedSimpArgs false
namespace Go.Proofs.YtmnlkedacnemcaaGreatDoor
open Go.RowKit

/-- Where the element is that a step leads to, or -1. -/
def place (k : Int) (n : Nat) (a : Int) (b : Bool) : Int :=
  if k = 10 then (if b = true then (if 0 ≤ a ∧ 2 * a < n then 2 * a else -1) else (if 0 ≤ a ∧ 2 * a + 1 < n then 2 * a + 1 else -1))
  else if b = false ∧ 0 ≤ a ∧ a < n then a else -1
theorem place_lt (k : Int) (n : Nat) (a : Int) (b : Bool) : place k n a b = -1 ∨ (0 ≤ place k n a b ∧ place k n a b < n) := by
  unfold place; (repeat' split) <;> omega
end Go.Proofs.YtmnlkedacnemcaaGreatDoor

namespace Go.Proofs.YtmnlkedacnemcaaGreatDoor
open Go.RowKit

def stepT (t : Tr) (p : Int × Bool) : Option Tr := if place t.k t.l.length p.1 p.2 < 0 then none else t.l[(place t.k t.l.length p.1 p.2).toNat]?
def atPath : Tr → List (Int × Bool) → Option Tr
  | t, [] => some t
  | t, p :: ps => match stepT t p with
    | none => none
    | some u => atPath u ps
def zT : Tr := ⟨0, 0, 0, ⟨#[]⟩, []⟩
theorem stepT_no {t : Tr} {p : Int × Bool} {R : Int} (h : place t.k t.l.length p.1 p.2 = R) (hR : R < 0) : stepT t p = none := by unfold stepT; rw [h, if_pos hR]
theorem stepT_yes {t : Tr} {p : Int × Bool} {j : Nat} (h : place t.k t.l.length p.1 p.2 = j) (hj : j < t.l.length) : stepT t p = some t.l[j] := by
  unfold stepT; rw [h, if_neg (by omega), Int.toNat_natCast, List.getElem?_eq_getElem hj]
theorem child_sz {t : Tr} {j : Nat} (hj : j < t.l.length) : t.l[j].sz ≤ t.sz := by
  have h1 := szT_succ hj
  have h2 := szT_le t.l (j + 1)
  have h3 := t.sz_eq
  omega
/-- What the reading of a tree at a path says: the tree lies in new memory, or there is none. -/
def AtOf (w w' : World) (r : Ending) (o : Option Tr) : Prop := ∃ u : El, r = .returned (.tuple #[trV (o.getD zT) u, .bool o.isSome]) ∧ LsAt w' (o.getD zT).l u ∧ Own w' w.heap.size u.fp ∧ Below w.heap.size w w'
def zE : El := ⟨none, 0, 0, []⟩
end Go.Proofs.YtmnlkedacnemcaaGreatDoor
