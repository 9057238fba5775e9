/- A row of trees whose lists are borrowed. No function of the program in sight. -/
import Derived.Test.YtjjcdlghichmdaaSort
import Derived.Test.YtjjcdlghichmdaaStep5
set_option linter.unusedVariables false
set_option maxRecDepth 100000
set_option linter.unusedSimpArgs false
namespace Go.Proofs.Ytjjcdlghichmdaa
open Go.RowKit

/-- A row of trees of the call's own; the trees' lists lie below lo. -/
structure NV (w : World) (lo : Nat) (A : Option Addr) (n c : Nat) (l : List Tr) (es : List El) : Prop where
  row : w.ownsRow lo 28 5 (.slice A n c) n (cellsOf l es)
  len : l.length = n
  eslen : es.length = n
  kids : ∀ (j : Nat) (t : Tr) (u : El), l[j]? = some t → es[j]? = some u → LsAt w t.l u
  low : ∀ g ∈ elFp es, g < lo
theorem NV.nil_ (w : World) (lo : Nat) : NV w lo none 0 0 [] [] := ⟨World.ownsRow_nil _ _ _ _, rfl, rfl, fun j t u h => by simp at h, fun g hg => by simp [elFp] at hg⟩
theorem NV.new (w : World) (g : Nat) (hg : w.heap.size = g) : NV (w.alloc (.cells #[] 28)) g (some ⟨g, 0, none⟩) 0 0 [] [] := by
  subst hg
  exact ⟨World.ownsRow_lit w #[] 0 (Nat.le_refl _) (by decide) rfl, rfl, rfl, fun j t u h => by simp at h, fun g hg => by simp [elFp] at hg⟩
theorem NV.below {w w' : World} {lo n c : Nat} {A : Option Addr} {l : List Tr} {es : List El} (h : NV w lo A n c l es) (hlo : lo ≤ w.heap.size) (hb : Below w.heap.size w w') : NV w' lo A n c l es :=
  ⟨row_heap h.row fun g hg => hb.block g (row_lt h.row hg).2, h.len, h.eslen, fun j t u a b => (h.kids j t u a b).below (fun g hg => Nat.lt_of_lt_of_le (h.low g (elFp_mem b hg)) hlo) hb, h.low⟩
theorem NV.cap {w : World} {lo n c : Nat} {A : Option Addr} {l : List Tr} {es : List El} (h : NV w lo A n c l es) : n ≤ c ∧ c ≤ maxLen := by
  rcases h.row.2 with ⟨e, e2⟩ | ⟨g, cap, cur, e, _, _, h3, h4, _⟩
  · simp only [Value.slice.injEq] at e; omega
  · simp only [Value.slice.injEq] at e; omega
/-- The row as a list. -/
theorem NV.list {w : World} {lo n c : Nat} {A : Option Addr} {l : List Tr} {es : List El} (h : NV w lo A n c l es) (hlo : lo ≤ w.heap.size) : ∃ fp, LsAt w l ⟨A, n, c, fp⟩ ∧ ∀ g ∈ fp, g < w.heap.size := by
  obtain ⟨hc, hm⟩ := h.cap
  rcases Nat.eq_zero_or_pos n with h0 | h0
  · subst h0
    obtain rfl := List.eq_nil_of_length_eq_zero h.len
    exact ⟨[], (lsAt_iff _ _).2 ⟨rfl, hc, hm, [], rfl, fun _ => rfl, fun h => absurd h (Nat.lt_irrefl 0), fun j t u h => by simp at h⟩, fun g hg => by cases hg⟩
  · rcases h.row.2 with ⟨e, _⟩ | ⟨g, cap, cur, e, hb, hh, _⟩
    · simp only [Value.slice.injEq] at e; omega
    · simp only [Value.slice.injEq] at e
      have hA : A = some ⟨g, 0, none⟩ := e.1
      have hg : g ∈ blkOf A := by rw [hA]; simp [blkOf]
      have hcl := h.row.cells (g := g) (by rw [hA]; rfl)
      have ea : ∀ k, (⟨g, 0, none⟩ : Addr).add k = ⟨g, 0 + k, none⟩ := fun k => by unfold Addr.add; split <;> simp_all
      have f := fun k v hv => by have := hcl k v hv; rw [ea] at this; exact this
      refine ⟨g :: elFp es, (lsAt_iff _ _).2 ⟨h.len, hc, hm, es, h.eslen, fun h => absurd h (Nat.ne_of_gt h0), fun _ => ⟨g, 0, hA, rfl, fun j t u a b => ?_⟩, fun j t u a b => (trAt_ls _ _).2 (h.kids j t u a b)⟩, fun x hx => ?_⟩
      · obtain ⟨a0, a1, a2, a3, a4⟩ := cellsOf_get l es j t u a b (by rw [h.len, h.eslen])
        exact ⟨f _ _ a0, f _ _ a1, f _ _ a2, f _ _ a3, f _ _ a4⟩
      · rcases List.mem_cons.1 hx with rfl | hx
        · exact (row_lt h.row hg).2
        · exact Nat.lt_of_lt_of_le (h.low x hx) hlo
end Go.Proofs.Ytjjcdlghichmdaa
