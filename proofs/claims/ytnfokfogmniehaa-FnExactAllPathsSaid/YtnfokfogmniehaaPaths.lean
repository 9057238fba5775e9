/- The paths of a tree, and rows of paths that the call itself builds. No function of the program in sight. -/
import Derived.Test.YtnfokfogmniehaaSteps
import Derived.Test.YtnfokfogmniehaaTree
import Derived.Test.YtnfokfogmniehaaRowVal
set_option linter.unusedVariables false
set_option maxRecDepth 100000
set_option linter.unusedSimpArgs false
namespace Go.Proofs.Ytnfokfogmniehaa
open Go.RowKit

abbrev Pth := List (Int × Bool)
/-- The step to the element at j of a value of kind k. -/
def stepTo (k : Int) (j : Nat) : Int × Bool := if k = 10 then (((j / 2 : Nat) : Int), decide (j % 2 = 0)) else ((j : Int), false)
def pathsG (k : Int) : List (Pth → List Pth) → Nat → Pth → List Pth
  | [], _, _ => []
  | f :: fs, j, p => f (p ++ [stepTo k j]) ++ pathsG k fs (j + 1) p
/-- The paths of all values of a tree that itself lies at p. -/
noncomputable def pathsT : Tr → Pth → List Pth := Tr.fold fun k _ _ _ _ ih p => p :: pathsG k ih 0 p
/-- The paths of the first j trees below. -/
noncomputable def pathsK (t : Tr) (p : Pth) : Nat → List Pth
  | 0 => []
  | j + 1 => pathsK t p j ++ (match t.l[j]? with | some u => pathsT u (p ++ [stepTo t.k j]) | none => [])
theorem pathsG_snoc (k : Int) (f : Pth → List Pth) (p : Pth) : ∀ (fs : List (Pth → List Pth)) (j : Nat), pathsG k (fs ++ [f]) j p = pathsG k fs j p ++ f (p ++ [stepTo k (j + fs.length)])
  | [], j => by simp [pathsG]
  | g :: fs, j => by
    simp only [List.cons_append, pathsG, pathsG_snoc k f p fs (j + 1), List.append_assoc, List.length_cons]
    rw [show j + 1 + fs.length = j + (fs.length + 1) by omega]
theorem pathsK_eq (t : Tr) (p : Pth) : ∀ j, j ≤ t.l.length → pathsK t p j = pathsG t.k ((t.l.take j).map pathsT) 0 p
  | 0, _ => by simp [pathsK, pathsG]
  | j + 1, h => by
    have hj : j < t.l.length := by omega
    rw [List.take_succ_eq_append_getElem hj, List.map_append, List.map_cons, List.map_nil, pathsG_snoc, ← pathsK_eq t p j (by omega)]
    simp only [pathsK, List.getElem?_eq_getElem hj, List.length_map, List.length_take, Nat.zero_add]
    rw [Nat.min_eq_left (by omega)]
theorem pathsT_eq (t : Tr) (p : Pth) : pathsT t p = p :: pathsK t p t.l.length := by
  rw [pathsK_eq t p _ (Nat.le_refl _), List.take_of_length_le (Nat.le_refl _)]
  obtain ⟨k, n, x, s, l⟩ := t
  unfold pathsT
  rw [Tr.fold_mk]
theorem pathsK_succ {t : Tr} {p : Pth} {j : Nat} (h : j < t.l.length) : pathsK t p (j + 1) = pathsK t p j ++ pathsT t.l[j] (p ++ [stepTo t.k j]) := by
  simp [pathsK, List.getElem?_eq_getElem h]
/-- How many there are, and how long each is. -/
theorem pathsT_bd (t : Tr) : ∀ p : Pth, (pathsT t p).length ≤ t.sz + 1 ∧ ∀ q ∈ pathsT t p, q.length ≤ p.length + t.sz := by
  refine Tr.ind (P := fun t => ∀ p : Pth, (pathsT t p).length ≤ t.sz + 1 ∧ ∀ q ∈ pathsT t p, q.length ≤ p.length + t.sz) (fun t ih p => ?_) t
  have key : ∀ j, j ≤ t.l.length → (pathsK t p j).length ≤ j + szT t.l j ∧ ∀ q ∈ pathsK t p j, q.length ≤ p.length + (1 + szT t.l j) := by
    intro j
    induction j with
    | zero => intro _; simp [pathsK]
    | succ j ihj =>
      intro hj
      obtain ⟨h1, h2⟩ := ihj (by omega)
      have hlt : j < t.l.length := by omega
      obtain ⟨h3, h4⟩ := ih t.l[j] (List.getElem_mem hlt) (p ++ [stepTo t.k j])
      have hs := szT_succ hlt
      rw [pathsK_succ hlt]
      refine ⟨by rw [List.length_append]; omega, fun q hq => ?_⟩
      rcases List.mem_append.1 hq with h5 | h5
      · have := h2 q h5; omega
      · have := h4 q h5
        rw [List.length_append, List.length_singleton] at this
        omega
  have hall := key t.l.length (Nat.le_refl _)
  have hsz := t.sz_eq
  have hza := szT_all (l := t.l) (j := t.l.length) (Nat.le_refl _)
  rw [pathsT_eq]
  refine ⟨by simp only [List.length_cons]; omega, fun q hq => ?_⟩
  rcases List.mem_cons.1 hq with rfl | hq
  · omega
  · have := hall.2 q hq
    rcases Nat.eq_zero_or_pos t.l.length with h0 | h0
    · rw [h0] at hq; simp [pathsK] at hq
    · omega
theorem pathsK_bd (t : Tr) (p : Pth) : ∀ j, j ≤ t.l.length → (pathsK t p j).length ≤ j + szT t.l j ∧ ∀ q ∈ pathsK t p j, q.length ≤ p.length + (1 + szT t.l j) := by
  intro j
  induction j with
  | zero => intro _; simp [pathsK]
  | succ j ihj =>
    intro hj
    obtain ⟨h1, h2⟩ := ihj (by omega)
    have hlt : j < t.l.length := by omega
    obtain ⟨h3, h4⟩ := pathsT_bd t.l[j] (p ++ [stepTo t.k j])
    have hs := szT_succ hlt
    rw [pathsK_succ hlt]
    refine ⟨by rw [List.length_append]; omega, fun q hq => ?_⟩
    rcases List.mem_append.1 hq with h5 | h5
    · have := h2 q h5; omega
    · have := h4 q h5
      rw [List.length_append, List.length_singleton] at this
      omega
/-- Where a path's steps lie. -/
structure Pl where
  A : Option Addr
  n : Nat
  c : Nat
def plFp (rs : List Pl) : List Nat := (rs.map fun r => blkOf r.A).flatten
def plCells (rs : List Pl) : List Value := rs.map fun r => .slice r.A r.n r.c
theorem plFp_mem {rs : List Pl} {j : Nat} {r : Pl} (h : rs[j]? = some r) {g : Nat} (hg : g ∈ blkOf r.A) : g ∈ plFp rs :=
  List.mem_flatten.2 ⟨blkOf r.A, List.mem_map.2 ⟨r, List.mem_of_getElem? h, rfl⟩, hg⟩
theorem plFp_snoc (rs : List Pl) (r : Pl) : plFp (rs ++ [r]) = plFp rs ++ blkOf r.A := by simp [plFp]
/-- A row of paths of the call's own: the slice '.slice A n c' holds L, its paths' steps at rs; all from lo up, no two in one block. -/
structure PR (w : World) (lo : Nat) (A : Option Addr) (n c : Nat) (L : List Pth) (rs : List Pl) : Prop where
  row : w.ownsRow lo 92 1 (.slice A n c) n (plCells rs)
  len : L.length = n
  rlen : rs.length = n
  each : ∀ (j : Nat) (p : Pth) (r : Pl), L[j]? = some p → rs[j]? = some r → SS w lo r.A r.n r.c p
  nodup : (plFp rs).Nodup
  apart : ∀ g ∈ blkOf A, g ∉ plFp rs
theorem SS.mono {w : World} {lo lo' n c : Nat} {A : Option Addr} {ps : Pth} (h : SS w lo A n c ps) (hl : lo' ≤ lo) : SS w lo' A n c ps := own_mono h hl
section
variable {w w' : World} {lo n c : Nat} {A : Option Addr} {L : List Pth} {rs : List Pl}
theorem PR.kid (h : PR w lo A n c L rs) {g : Nat} (hg : g ∈ plFp rs) : lo ≤ g ∧ g < w.heap.size := by
  obtain ⟨l, hl, hgl⟩ := List.mem_flatten.1 hg
  obtain ⟨r, hr, rfl⟩ := List.mem_map.1 hl
  obtain ⟨j, hj⟩ := List.mem_iff_getElem?.1 hr
  have hjl : j < L.length := by have := (List.getElem?_eq_some_iff.1 hj).1; rw [h.rlen] at this; rw [h.len]; exact this
  exact (h.each j _ r (List.getElem?_eq_getElem hjl) hj).lt hgl
theorem PR.fr {fp : List Nat} (h : PR w lo A n c L rs) (hf : Fr fp w w') (hA : ∀ g ∈ blkOf A, g ∉ fp) (hk : ∀ g ∈ plFp rs, g ∉ fp) : PR w' lo A n c L rs :=
  ⟨row_heap h.row fun g hg => hf.block g (row_lt h.row hg).2 (hA g hg), h.len, h.rlen, fun j p r a b => (h.each j p r a b).fr hf (fun g hg => hk g (plFp_mem b hg)), h.nodup, h.apart⟩
theorem PR.below (h : PR w lo A n c L rs) (hb : Below w.heap.size w w') : PR w' lo A n c L rs := h.fr (fp := []) (Fr.of_below hb) (fun _ _ h => by cases h) (fun _ _ h => by cases h)
theorem PR.mono {lo' : Nat} (h : PR w lo A n c L rs) (hl : lo' ≤ lo) : PR w lo' A n c L rs := ⟨own_mono h.row hl, h.len, h.rlen, fun j p r a b => (h.each j p r a b).mono hl, h.nodup, h.apart⟩
theorem PR.nil_ (w : World) (lo : Nat) : PR w lo none 0 0 [] [] := ⟨World.ownsRow_nil _ _ _ _, rfl, rfl, fun j p r h => by simp at h, by simp [plFp], fun g hg => by simp [blkOf] at hg⟩
theorem PR.cap (h : PR w lo A n c L rs) : n ≤ c ∧ c ≤ maxLen := by
  rcases h.row.2 with ⟨e, e2⟩ | ⟨g, cap, cur, e, _, _, h3, h4, _⟩
  · simp only [Value.slice.injEq] at e; omega
  · simp only [Value.slice.injEq] at e; omega
theorem PR.sl (h : PR w lo A n c L rs) : Sl w w.heap.size 1 A n c (plCells rs) := Sl.of_own h.row
end
theorem plCells_one (rs : List Pl) : ∀ x ∈ plCells rs, x.oneCell' = true := fun x hx => by
  obtain ⟨r, _, rfl⟩ := List.mem_map.1 hx
  rfl
theorem info_path : (Try.prog.info? 92).map (fun i => (i.zero, i.size, i.bytes)) = some (some (.agg #[.slice none 0 0]), 1, 24) := by kernel_rfl
/-- Paths appended to a row, their steps of the call's own. -/
theorem PR.app {w w1 w' : World} {lo n c n' c' : Nat} {A A' : Option Addr} {L L2 : List Pth} {rs rs2 : List Pl} (h : PR w lo A n c L rs) (hrow : w'.ownsRow lo 92 1 (.slice A' n' c') n' (plCells rs ++ plCells rs2)) (hg : Gr A A' w w')
    (h2 : ∀ (j : Nat) (p : Pth) (r : Pl), L2[j]? = some p → rs2[j]? = some r → SS w lo r.A r.n r.c p) (hl2 : L2.length = rs2.length) (hn2 : (plFp rs2).Nodup) (hd : ∀ g ∈ plFp rs2, g ∉ blkOf A ∧ g ∉ plFp rs) (hn' : n' = n + rs2.length) :
    PR w' lo A' n' c' (L ++ L2) (rs ++ rs2) := by
  have hk2 : ∀ g ∈ plFp rs2, g < w.heap.size := fun g hg => by
    obtain ⟨l, hl, hgl⟩ := List.mem_flatten.1 hg
    obtain ⟨r, hr, rfl⟩ := List.mem_map.1 hl
    obtain ⟨j, hj⟩ := List.mem_iff_getElem?.1 hr
    have hjl : j < L2.length := by have := (List.getElem?_eq_some_iff.1 hj).1; omega
    exact ((h2 j _ r (List.getElem?_eq_getElem hjl) hj).lt hgl).2
  have e1 : plFp (rs ++ rs2) = plFp rs ++ plFp rs2 := by simp [plFp]
  refine ⟨by simpa [plCells] using hrow, by rw [List.length_append, h.len]; omega, by rw [List.length_append, h.rlen]; omega, fun j p r a b => ?_, ?_, fun g hgA hg2 => ?_⟩
  · rcases Nat.lt_or_ge j n with hj | hj
    · rw [List.getElem?_append_left (by rw [h.len]; exact hj)] at a
      rw [List.getElem?_append_left (by rw [h.rlen]; exact hj)] at b
      exact (h.each j p r a b).fr hg.fr (fun g hg2 hgA => h.apart g hgA (plFp_mem b hg2))
    · rw [List.getElem?_append_right (by rw [h.len]; exact hj), h.len] at a
      rw [List.getElem?_append_right (by rw [h.rlen]; exact hj), h.rlen] at b
      exact (h2 _ p r a b).fr hg.fr (fun g hg2 => (hd g (plFp_mem b hg2)).1)
  · rw [e1]
    exact List.nodup_append.2 ⟨h.nodup, hn2, fun x hx y hy e => (hd y hy).2 (e ▸ hx)⟩
  · rw [e1] at hg2
    rcases hg.own g hgA with h5 | h5
    · rcases List.mem_append.1 hg2 with h6 | h6
      · exact h.apart g h5 h6
      · exact (hd g h6).1 h5
    · rcases List.mem_append.1 hg2 with h6 | h6
      · have := (h.kid h6).2; omega
      · have := hk2 g h6; omega
end Go.Proofs.Ytnfokfogmniehaa
