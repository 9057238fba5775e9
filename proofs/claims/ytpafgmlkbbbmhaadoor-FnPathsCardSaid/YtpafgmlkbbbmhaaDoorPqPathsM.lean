/- The laws' helpers on rows of paths: eqPathS, markPathS, heldPathS. -/
import Derived.Test.YtpafgmlkbbbmhaaDoorPqM10
import Derived.Deep.RegionHeld3
import Derived.Deep.QuietTactic
import Derived.BigQuiet
set_option linter.unusedVariables false
set_option maxRecDepth 100000
set_option linter.unusedSimpArgs false
namespace Go.Proofs.YtpafgmlkbbbmhaaDoor
open Go.RowKit

/-- The path at j. -/
theorem PR.elem {w : World} {lo n c : Nat} {A : Option Addr} {L : List Pth} {rs : List Pl} (h : PR w lo A n c L rs) {j : Nat} (hj : j < n) :
    ∃ g, ∃ hl : j < L.length, ∃ hr : j < rs.length, A = some ⟨g, 0, none⟩ ∧ g < w.heap.size ∧ lo ≤ g ∧ w.cell? ⟨g, j, none⟩ = some (.slice rs[j].A rs[j].n rs[j].c) ∧ SS w lo rs[j].A rs[j].n rs[j].c L[j] := by
  have hl : j < L.length := by rw [h.len]; exact hj
  have hr : j < rs.length := by rw [h.rlen]; exact hj
  rcases h.row.2 with ⟨_, h2⟩ | ⟨g, cap, cur, h1, h3⟩
  · omega
  · simp only [Value.slice.injEq] at h1
    have hA := h1.1
    have hg : g ∈ blkOf A := by rw [hA]; simp [blkOf]
    have hrow : w.ownsRow lo 47 1 (.slice (some ⟨g, 0, none⟩) n c) n (plCells rs) := by rw [← hA]; exact h.row
    have hc := World.ownsRow.cellAt hrow j (by omega)
    refine ⟨g, hl, hr, hA, (row_lt h.row hg).2, (row_lt h.row hg).1, ?_, h.each j _ _ (List.getElem?_eq_getElem hl) (List.getElem?_eq_getElem hr)⟩
    rw [hc]
    simp [plCells, hr]
/-- The steps that the marks from k on leave in a row of n. -/
def markS (k n : Nat) : Pth := (List.range n).map fun j => (((k + 2 * j : Nat) : Int), decide ((k + 2 * j + 1) % 3 = 0))
theorem markS_len (k n : Nat) : (markS k n).length = n := by simp [markS]
theorem markS_get (k n j : Nat) (h : j < (markS k n).length) : (markS k n)[j] = (((k + 2 * j : Nat) : Int), decide ((k + 2 * j + 1) % 3 = 0)) := by simp [markS]
/-- The paths that the marks from k on leave in rows of these lengths. -/
def markP (k : Nat) : List Nat → List Pth
  | [] => []
  | n :: ns => markS k n :: markP (k + 2 * n) ns
theorem markP_len : ∀ (ns : List Nat) (k : Nat), (markP k ns).length = ns.length
  | [], _ => rfl
  | n :: ns, k => by simp [markP, markP_len ns]
theorem markP_get : ∀ (ns : List Nat) (k j : Nat) (h : j < (markP k ns).length) (h2 : j < ns.length), (markP k ns)[j] = markS (k + 2 * (ns.take j).sum) ns[j]
  | [], _, j, h, _ => by simp [markP] at h
  | n :: ns, k, 0, _, _ => by simp [markP]
  | n :: ns, k, j + 1, h, h2 => by
    have := markP_get ns (k + 2 * n) j (by simpa [markP] using h) (by simpa using h2)
    simp only [markP, List.getElem_cons_succ, this, List.take_succ_cons, List.sum_cons]
    congr 1
    omega
theorem sum_take_succ {ns : List Nat} {j : Nat} (h : j < ns.length) : (ns.take (j + 1)).sum = (ns.take j).sum + ns[j] := by
  rw [List.take_succ_eq_append_getElem h, List.sum_append]; simp
theorem sum_take_le (ns : List Nat) (j : Nat) : (ns.take j).sum ≤ ns.sum := by
  conv => rhs; rw [← List.take_append_drop j ns, List.sum_append]
  omega
theorem PR.apart2 {w : World} {lo n c : Nat} {A : Option Addr} {L : List Pth} {rs : List Pl} (h : PR w lo A n c L rs) {i j : Nat} {r q : Pl} (hij : i ≠ j) (hi : rs[i]? = some r) (hj : rs[j]? = some q) : ∀ g ∈ blkOf r.A, g ∉ blkOf q.A := by
  have hpf := List.pairwise_flatten.1 (show List.Pairwise (· ≠ ·) (rs.map fun r => blkOf r.A).flatten from h.nodup)
  intro x hx hx2
  have hu2 : (rs.map fun r => blkOf r.A)[i]? = some (blkOf r.A) := by rw [List.getElem?_map, hi]; rfl
  have hv2 : (rs.map fun r => blkOf r.A)[j]? = some (blkOf q.A) := by rw [List.getElem?_map, hj]; rfl
  obtain ⟨hi1, hi2⟩ := List.getElem?_eq_some_iff.1 hu2
  obtain ⟨hj1, hj2⟩ := List.getElem?_eq_some_iff.1 hv2
  have hd := List.pairwise_iff_getElem.1 hpf.2
  rcases Nat.lt_or_gt_of_ne hij with hlt | hlt
  · have := hd i j hi1 hj1 hlt
    rw [hi2, hj2] at this
    exact this x hx x hx2 rfl
  · have := hd j i hj1 hi1 hlt
    rw [hi2, hj2] at this
    exact this x hx2 x hx rfl
theorem PR.sum {w : World} {lo n c M : Nat} {A : Option Addr} {L : List Pth} {rs : List Pl} (h : PR w lo A n c L rs) (hM : ∀ q ∈ L, q.length ≤ M) : (rs.map Pl.n).sum ≤ n * M := by
  have h1 : ∀ x ∈ rs.map Pl.n, x ≤ M := fun x hx => by
    obtain ⟨r, hr, rfl⟩ := List.mem_map.1 hx
    obtain ⟨j, hj⟩ := List.mem_iff_getElem?.1 hr
    have hjl : j < L.length := by have := (List.getElem?_eq_some_iff.1 hj).1; rw [h.rlen] at this; rw [h.len]; exact this
    have := (h.each j _ r (List.getElem?_eq_getElem hjl) hj).len
    have := hM _ (List.getElem_mem hjl)
    omega
  have h2 : ∀ l : List Nat, (∀ x ∈ l, x ≤ M) → l.sum ≤ l.length * M := fun l => by
    induction l with
    | nil => simp
    | cons a l ih =>
      intro hl
      have := ih fun x hx => hl x (List.mem_cons_of_mem _ hx)
      have := hl a List.mem_cons_self
      simp only [List.sum_cons, List.length_cons, Nat.succ_mul]
      omega
  have := h2 _ h1
  rw [List.length_map, h.rlen] at this
  exact this
/-- One path's steps written anew. -/
theorem PR.put {w w' : World} {lo n c : Nat} {A : Option Addr} {L : List Pth} {rs : List Pl} (h : PR w lo A n c L rs) {j : Nat} {r : Pl} {q : Pth} (hr : rs[j]? = some r) (hf : Fr (blkOf r.A) w w') (hs : SS w' lo r.A r.n r.c q) : PR w' lo A n c (L.set j q) rs := by
  refine ⟨row_heap h.row fun g hg => hf.block g (row_lt h.row hg).2 (fun h2 => h.apart g hg (plFp_mem hr h2)), by rw [List.length_set]; exact h.len, h.rlen, fun i p u a b => ?_, h.nodup, h.apart⟩
  rw [List.getElem?_set] at a
  by_cases e : j = i
  · subst e
    have := (List.getElem?_eq_some_iff.1 hr).1
    rw [if_pos rfl, if_pos (by rw [h.len, ← h.rlen]; exact this)] at a
    obtain rfl := Option.some.inj a
    rw [hr] at b
    obtain rfl := Option.some.inj b
    exact hs
  · rw [if_neg e] at a
    exact (h.each i p u a b).fr hf (h.apart2 (fun h2 => e h2.symm) b hr)
end Go.Proofs.YtpafgmlkbbbmhaaDoor
