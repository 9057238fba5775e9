/- Steps of paths: the laws' helpers on them. -/
import Derived.Test.YtpafgmlkbbbmhaaDoorPqM4
import Derived.Deep.LoopGhost
import Derived.Deep.RegionHeld3
set_option linter.unusedVariables false
set_option maxRecDepth 100000
set_option linter.unusedSimpArgs false
namespace Go.Proofs.YtpafgmlkbbbmhaaDoor
open Go.RowKit

def stC : List (Int × Bool) → List Value
  | [] => []
  | p :: ps => .int .i64 p.1 :: .bool p.2 :: stC ps
theorem stC_len : ∀ ps : List (Int × Bool), (stC ps).length = ps.length * 2
  | [] => rfl
  | p :: ps => by simp only [stC, List.length_cons, stC_len ps]; omega
theorem stC_get : ∀ (ps : List (Int × Bool)) (j : Nat) (h : j < ps.length), (stC ps)[j * 2]? = some (.int .i64 ps[j].1) ∧ (stC ps)[j * 2 + 1]? = some (.bool ps[j].2)
  | [], j, h => by cases h
  | p :: ps, 0, h => ⟨rfl, rfl⟩
  | p :: ps, j + 1, h => by
    have ih := stC_get ps j (by simpa using h)
    have e : ∀ i, (stC (p :: ps))[(j + 1) * 2 + i]? = (stC ps)[j * 2 + i]? := fun i => by
      rw [show (j + 1) * 2 + i = (j * 2 + i) + 1 + 1 by omega]
      rfl
    exact ⟨(e 0).trans ih.1, (e 1).trans ih.2⟩
theorem stC_app : ∀ (a b : List (Int × Bool)), stC (a ++ b) = stC a ++ stC b
  | [], b => rfl
  | p :: a, b => by simp only [List.cons_append, stC, stC_app a b]
theorem stC_set : ∀ (ps : List (Int × Bool)) (j : Nat) (q : Int × Bool), j < ps.length → ((stC ps).set (j * 2) (.int .i64 q.1)).set (j * 2 + 1) (.bool q.2) = stC (ps.set j q)
  | [], j, q, h => by cases h
  | p :: ps, 0, q, h => rfl
  | p :: ps, j + 1, q, h => by
    have ih := stC_set ps j q (by simpa using h)
    rw [show (j + 1) * 2 = j * 2 + 1 + 1 by omega, show j * 2 + 1 + 1 + 1 = (j * 2 + 1) + 1 + 1 by omega]
    simp only [stC, List.set_cons_succ, ih]
/-- Steps that lie in memory. -/
theorem Sl.stp {w : World} {B n c : Nat} {A : Option Addr} {ps : List (Int × Bool)} (h : Sl w B 2 A n c (stC ps)) {j : Nat} (hj : j < n) :
    ∃ g o, ∃ hl : j < ps.length, A = some ⟨g, o, none⟩ ∧ g < B ∧ w.cell? ⟨g, o + j * 2, none⟩ = some (.int .i64 ps[j].1) ∧ w.cell? ⟨g, o + j * 2 + 1, none⟩ = some (.bool ps[j].2) := by
  have hl : j < ps.length := by have := h.len; rw [stC_len] at this; omega
  obtain ⟨g, o, e, hg, hc⟩ := h.at_ (by omega)
  exact ⟨g, o, hl, e, hg, hc _ _ (stC_get ps j hl).1, by rw [Nat.add_assoc]; exact hc _ _ (stC_get ps j hl).2⟩
theorem Sl.stlen {w : World} {B n c : Nat} {A : Option Addr} {ps : List (Int × Bool)} (h : Sl w B 2 A n c (stC ps)) : ps.length = n := by have := h.len; rw [stC_len] at this; omega
/-- Steps in a row of the call's own. -/
def SS (w : World) (lo : Nat) (A : Option Addr) (n c : Nat) (ps : List (Int × Bool)) : Prop := w.ownsRow lo 34 2 (.slice A n c) n (stC ps)
section
variable {w w' : World} {lo n c : Nat} {A : Option Addr} {ps : List (Int × Bool)}
theorem SS.sl (h : SS w lo A n c ps) : Sl w w.heap.size 2 A n c (stC ps) := Sl.of_own h
theorem SS.len (h : SS w lo A n c ps) : ps.length = n := h.sl.stlen
theorem SS.lt (h : SS w lo A n c ps) {g : Nat} (hg : g ∈ blkOf A) : lo ≤ g ∧ g < w.heap.size := by
  refine World.ownsRow.lt h g ?_
  cases A with
  | none => simp [blkOf] at hg
  | some a => simp [blkOf] at hg; simp [hg, Value.ownBlock]
theorem SS.fr {fp : List Nat} (h : SS w lo A n c ps) (hf : Fr fp w w') (hd : ∀ g ∈ blkOf A, g ∉ fp) : SS w' lo A n c ps := by
  have h0 := fun g hg => (SS.lt h (g := g) hg).2
  refine ⟨h.1, ?_⟩
  rcases h.2 with h1 | ⟨g, cap, cur, h1, h2, h3, h4⟩
  · exact .inl h1
  · simp only [Value.slice.injEq] at h1
    have hg : g ∈ blkOf A := by rw [h1.1]; simp [blkOf]
    exact .inr ⟨g, cap, cur, by rw [h1.1, h1.2.2], h2, (hf.block g (h0 g hg) (hd g hg)).trans h3, h4⟩
theorem SS.below (h : SS w lo A n c ps) (hb : Below w.heap.size w w') : SS w' lo A n c ps := h.fr (fp := []) (Fr.of_below hb) (fun _ _ h => by cases h)
end
theorem info_step : (Tryd.prog.info? 34).map (fun i => (i.zero, i.size, i.bytes)) = some (some (.agg #[.int .i64 0, .bool false]), 2, 16) := by kernel_rfl
end Go.Proofs.YtpafgmlkbbbmhaaDoor
