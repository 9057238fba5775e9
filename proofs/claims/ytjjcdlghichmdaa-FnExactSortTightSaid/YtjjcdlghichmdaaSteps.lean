/- Steps of paths: the laws' helpers on them. -/
import Derived.Test.YtjjcdlghichmdaaBs
import Derived.Deep.LoopGhost
import Derived.Deep.RegionHeld3
set_option linter.unusedVariables false
set_option maxRecDepth 100000
set_option linter.unusedSimpArgs false
namespace Go.Proofs.Ytjjcdlghichmdaa
open Go.RowKit

def stC : List (Int × Bool) → List Value
  | [] => []
  | p :: ps => .int .i64 p.1 :: .bool p.2 :: stC ps
theorem stC_len : ∀ ps : List (Int × Bool), (stC ps).length = ps.length * 2
  | [] => rfl
  | p :: ps => by simp only [stC, List.length_cons, stC_len ps]; omega
theorem stC_get : ∀ (ps : List (Int × Bool)) (j : Nat) (h : j < ps.length), (stC ps)[j * 2]? = some (.int .i64 ps[j].1) ∧ (stC ps)[j * 2 + 1]? = some (.bool ps[j].2)
  | [], j, h => by cases h
  | p :: ps, 0, h => ⟨rfl, rfl⟩
  | p :: ps, j + 1, h => by
    have ih := stC_get ps j (by simpa using h)
    have e : ∀ i, (stC (p :: ps))[(j + 1) * 2 + i]? = (stC ps)[j * 2 + i]? := fun i => by
      rw [show (j + 1) * 2 + i = (j * 2 + i) + 1 + 1 by omega]
      rfl
    exact ⟨(e 0).trans ih.1, (e 1).trans ih.2⟩
theorem stC_app : ∀ (a b : List (Int × Bool)), stC (a ++ b) = stC a ++ stC b
  | [], b => rfl
  | p :: a, b => by simp only [List.cons_append, stC, stC_app a b]
theorem stC_set : ∀ (ps : List (Int × Bool)) (j : Nat) (q : Int × Bool), j < ps.length → ((stC ps).set (j * 2) (.int .i64 q.1)).set (j * 2 + 1) (.bool q.2) = stC (ps.set j q)
  | [], j, q, h => by cases h
  | p :: ps, 0, q, h => rfl
  | p :: ps, j + 1, q, h => by
    have ih := stC_set ps j q (by simpa using h)
    rw [show (j + 1) * 2 = j * 2 + 1 + 1 by omega, show j * 2 + 1 + 1 + 1 = (j * 2 + 1) + 1 + 1 by omega]
    simp only [stC, List.set_cons_succ, ih]
/-- Steps that lie in memory. -/
theorem Sl.stp {w : World} {B n c : Nat} {A : Option Addr} {ps : List (Int × Bool)} (h : Sl w B 2 A n c (stC ps)) {j : Nat} (hj : j < n) :
    ∃ g o, ∃ hl : j < ps.length, A = some ⟨g, o, none⟩ ∧ g < B ∧ w.cell? ⟨g, o + j * 2, none⟩ = some (.int .i64 ps[j].1) ∧ w.cell? ⟨g, o + j * 2 + 1, none⟩ = some (.bool ps[j].2) := by
  have hl : j < ps.length := by have := h.len; rw [stC_len] at this; omega
  obtain ⟨g, o, e, hg, hc⟩ := h.at_ (by omega)
  exact ⟨g, o, hl, e, hg, hc _ _ (stC_get ps j hl).1, by rw [Nat.add_assoc]; exact hc _ _ (stC_get ps j hl).2⟩
theorem Sl.stlen {w : World} {B n c : Nat} {A : Option Addr} {ps : List (Int × Bool)} (h : Sl w B 2 A n c (stC ps)) : ps.length = n := by have := h.len; rw [stC_len] at this; omega
end Go.Proofs.Ytjjcdlghichmdaa
