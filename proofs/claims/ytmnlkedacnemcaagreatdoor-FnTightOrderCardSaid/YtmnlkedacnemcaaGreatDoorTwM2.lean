/- Trees (a Val: three numbers, a text, and the list of its trees), and how memory holds one. No function of the program in sight. HexText: impl and spec. -/
import Derived.Test.YtmnlkedacnemcaaGreatDoorTwM1
import Derived.Deep.RegionLaw
import Derived.BigRegion
import Derived.Deep.LoopGhost
import Derived.Laws.BytesArg
set_option linter.unusedVariables false
set_option maxRecDepth 100000
set_option linter.unusedSimpArgs false
namespace Go.Proofs.YtmnlkedacnemcaaGreatDoor
open Go.RowKit

structure Tr where
  k : Int
  n : Int
  x : Int
  s : ByteArray
  l : List Tr
noncomputable def Tr.fold {α : Type} (f : Int → Int → Int → ByteArray → List Tr → List α → α) (t : Tr) : α :=
  Tr.rec (motive_1 := fun _ => α) (motive_2 := fun _ => List α) (fun k n x s l ih => f k n x s l ih) [] (fun _ _ a b => a :: b) t
theorem Tr.fold_mk {α : Type} (f : Int → Int → Int → ByteArray → List Tr → List α → α) (k n x : Int) (s : ByteArray) (l : List Tr) : Tr.fold f ⟨k, n, x, s, l⟩ = f k n x s l (l.map (Tr.fold f)) := by
  have h : ∀ l : List Tr, Tr.rec_1 (motive_1 := fun _ => α) (motive_2 := fun _ => List α) (fun k n x s l ih => f k n x s l ih) [] (fun _ _ a b => a :: b) l = l.map (Tr.fold f) := by
    intro l
    induction l with
    | nil => rfl
    | cons a l ih => rw [List.map_cons, ← ih]; rfl
  rw [← h l]
  rfl
theorem Tr.ind {P : Tr → Prop} (h : ∀ t : Tr, (∀ u ∈ t.l, P u) → P t) (t : Tr) : P t :=
  Tr.rec (motive_1 := P) (motive_2 := fun l => ∀ u ∈ l, P u) (fun k n x s l ih => h ⟨k, n, x, s, l⟩ ih) (fun _ hu => by cases hu)
    (fun a l ha hl u hu => by rcases List.mem_cons.1 hu with rfl | h2; exact ha; exact hl u h2) t
/-- The size of a tree, as the laws count it: the bytes of its texts, and its values below the root. -/
noncomputable def Tr.sz : Tr → Nat := Tr.fold fun _ _ _ s _ ih => s.size + (ih.length + ih.sum)
noncomputable def szL (l : List Tr) : Nat := l.length + (l.map Tr.sz).sum
theorem Tr.sz_eq (t : Tr) : t.sz = t.s.size + szL t.l := by
  obtain ⟨k, n, x, s, l⟩ := t
  show Tr.fold _ _ = _
  rw [Tr.fold_mk, List.length_map]
  rfl
/-- Where a tree's list lies: the slice, and the blocks of it and of all lists below. -/
structure El where
  A : Option Addr
  n : Nat
  c : Nat
  fp : List Nat
def elFp (es : List El) : List Nat := (es.map El.fp).flatten
/-- The five cells of a tree. -/
def Cells5 (w : World) (g o : Nat) (t : Tr) (e : El) : Prop :=
  w.cell? ⟨g, o, none⟩ = some (.int .i64 t.k) ∧ w.cell? ⟨g, o + 1, none⟩ = some (.int .i64 t.n) ∧ w.cell? ⟨g, o + 2, none⟩ = some (.int .i64 t.x) ∧ w.cell? ⟨g, o + 3, none⟩ = some (.string t.s) ∧ w.cell? ⟨g, o + 4, none⟩ = some (.slice e.A e.n e.c)
def TrBody (w : World) (l : List Tr) (ih : List (El → Prop)) (e : El) : Prop :=
  l.length = e.n ∧ e.n ≤ e.c ∧ e.c ≤ maxLen ∧ ∃ es : List El, es.length = e.n ∧ (e.n = 0 → e.fp = []) ∧
    (0 < e.n → ∃ g o, e.A = some ⟨g, o, none⟩ ∧ e.fp = g :: elFp es ∧ ∀ (j : Nat) (t : Tr) (u : El), l[j]? = some t → es[j]? = some u → Cells5 w g (o + j * 5) t u) ∧
    ∀ (j : Nat) (P : El → Prop) (u : El), ih[j]? = some P → es[j]? = some u → P u
/-- The tree's list lies at e. -/
noncomputable def TrAt (w : World) : Tr → El → Prop := Tr.fold fun _ _ _ _ l ih => TrBody w l ih
def LsAt (w : World) (l : List Tr) (e : El) : Prop := TrAt w ⟨0, 0, 0, ByteArray.empty, l⟩ e
theorem trAt_ls {w : World} (t : Tr) (e : El) : TrAt w t e ↔ LsAt w t.l e := by
  obtain ⟨k, n, x, s, l⟩ := t
  unfold LsAt TrAt
  rw [Tr.fold_mk, Tr.fold_mk]
theorem lsAt_iff {w : World} (l : List Tr) (e : El) : LsAt w l e ↔ l.length = e.n ∧ e.n ≤ e.c ∧ e.c ≤ maxLen ∧ ∃ es : List El, es.length = e.n ∧ (e.n = 0 → e.fp = []) ∧
    (0 < e.n → ∃ g o, e.A = some ⟨g, o, none⟩ ∧ e.fp = g :: elFp es ∧ ∀ (j : Nat) (t : Tr) (u : El), l[j]? = some t → es[j]? = some u → Cells5 w g (o + j * 5) t u) ∧
    ∀ (j : Nat) (t : Tr) (u : El), l[j]? = some t → es[j]? = some u → TrAt w t u := by
  unfold LsAt
  rw [show TrAt w ⟨0, 0, 0, ByteArray.empty, l⟩ = TrBody w l (l.map (TrAt w)) from Tr.fold_mk _ _ _ _ _ _]
  unfold TrBody
  have h : ∀ es : List El, (∀ (j : Nat) (P : El → Prop) (u : El), (l.map (TrAt w))[j]? = some P → es[j]? = some u → P u) ↔ (∀ (j : Nat) (t : Tr) (u : El), l[j]? = some t → es[j]? = some u → TrAt w t u) := by
    intro es
    constructor
    · intro h j t u h1 h2
      exact h j _ u (by rw [List.getElem?_map, h1]; rfl) h2
    · intro h j P u h1 h2
      rw [List.getElem?_map] at h1
      obtain ⟨t, ht, rfl⟩ := Option.map_eq_some_iff.1 h1
      exact h j t u ht h2
  constructor
  · rintro ⟨h1, h2, h3, es, h4, h5, h6, h7⟩
    exact ⟨h1, h2, h3, es, h4, h5, h6, (h es).1 h7⟩
  · rintro ⟨h1, h2, h3, es, h4, h5, h6, h7⟩
    exact ⟨h1, h2, h3, es, h4, h5, h6, (h es).2 h7⟩
theorem elFp_mem {es : List El} {j : Nat} {u : El} (h : es[j]? = some u) {g : Nat} (hg : g ∈ u.fp) : g ∈ elFp es :=
  List.mem_flatten.2 ⟨u.fp, List.mem_map.2 ⟨u, List.mem_of_getElem? h, rfl⟩, hg⟩
theorem TrAt.keep {w w' : World} (t : Tr) : ∀ e : El, TrAt w t e → (∀ g ∈ e.fp, ∀ o, w'.cell? ⟨g, o, none⟩ = w.cell? ⟨g, o, none⟩) → TrAt w' t e := by
  refine Tr.ind (P := fun t => ∀ e : El, TrAt w t e → (∀ g ∈ e.fp, ∀ o, w'.cell? ⟨g, o, none⟩ = w.cell? ⟨g, o, none⟩) → TrAt w' t e) (fun t ih e h hk => ?_) t
  rw [trAt_ls, lsAt_iff] at h ⊢
  obtain ⟨h1, h2, h3, es, h4, h5, h6, h7⟩ := h
  rcases Nat.eq_zero_or_pos e.n with h0 | h0
  · refine ⟨h1, h2, h3, es, h4, h5, fun h => absurd h (by omega), fun j t2 u hj hu => ?_⟩
    have := (List.getElem?_eq_some_iff.1 hj).1
    omega
  · obtain ⟨g, o, hA, hf, hc⟩ := h6 h0
    refine ⟨h1, h2, h3, es, h4, h5, fun _ => ⟨g, o, hA, hf, fun j t2 u hj hu => ?_⟩, fun j t2 u hj hu => ?_⟩
    · obtain ⟨c0, c1, c2, c3, c4⟩ := hc j t2 u hj hu
      have hg := hk g (by rw [hf]; exact List.mem_cons_self)
      exact ⟨(hg _).trans c0, (hg _).trans c1, (hg _).trans c2, (hg _).trans c3, (hg _).trans c4⟩
    · exact ih t2 (List.mem_of_getElem? hj) u (h7 j t2 u hj hu) fun g2 hg2 => hk g2 (by rw [hf]; exact List.mem_cons_of_mem _ (elFp_mem hu hg2))
theorem LsAt.keep {w w' : World} {l : List Tr} {e : El} (h : LsAt w l e) (hk : ∀ g ∈ e.fp, ∀ o, w'.cell? ⟨g, o, none⟩ = w.cell? ⟨g, o, none⟩) : LsAt w' l e := TrAt.keep _ e h hk
/-- The tree's blocks lie below B. -/
def El.lt (e : El) (B : Nat) : Prop := ∀ g ∈ e.fp, g < B
theorem LsAt.below {w w' : World} {l : List Tr} {e : El} {B : Nat} (h : LsAt w l e) (hl : e.lt B) (hb : Below B w w') : LsAt w' l e := h.keep fun g hg o => hb.cell (p := ⟨g, o, none⟩) (hl g hg)
theorem El.lt.mono {e : El} {B B' : Nat} (h : e.lt B) (hB : B ≤ B') : e.lt B' := fun g hg => Nat.lt_of_lt_of_le (h g hg) hB
theorem LsAt.len {w : World} {l : List Tr} {e : El} (h : LsAt w l e) : l.length = e.n := ((lsAt_iff l e).1 h).1
/-- The tree at j. -/
theorem LsAt.elem {w : World} {l : List Tr} {e : El} (h : LsAt w l e) {j : Nat} (hj : j < e.n) :
    ∃ g o u, ∃ hl : j < l.length, e.A = some ⟨g, o, none⟩ ∧ g ∈ e.fp ∧ Cells5 w g (o + j * 5) l[j] u ∧ LsAt w l[j].l u ∧ ∀ g2 ∈ u.fp, g2 ∈ e.fp := by
  obtain ⟨h1, h2, h3, es, h4, h5, h6, h7⟩ := (lsAt_iff l e).1 h
  obtain ⟨g, o, hA, hf, hc⟩ := h6 (by omega)
  have hl : j < l.length := by omega
  have he : j < es.length := by omega
  have e1 : l[j]? = some l[j] := List.getElem?_eq_getElem hl
  have e2 : es[j]? = some es[j] := List.getElem?_eq_getElem he
  refine ⟨g, o, es[j], hl, hA, by rw [hf]; exact List.mem_cons_self, hc j _ _ e1 e2, (trAt_ls _ _).1 (h7 j _ _ e1 e2), fun g2 hg2 => ?_⟩
  rw [hf]
  exact List.mem_cons_of_mem _ (elFp_mem e2 hg2)
theorem LsAt.nil_ (w : World) (A : Option Addr) : LsAt w [] ⟨A, 0, 0, []⟩ :=
  (lsAt_iff _ _).2 ⟨rfl, Nat.le_refl _, by simp, [], rfl, fun _ => rfl, fun h => absurd h (Nat.lt_irrefl 0), fun j t u h => by simp at h⟩
/-- The sizes of the first j trees. -/
noncomputable def szT (l : List Tr) (j : Nat) : Nat := ((l.take j).map Tr.sz).sum
theorem szT_zero (l : List Tr) : szT l 0 = 0 := by simp [szT]
theorem szT_succ {l : List Tr} {j : Nat} (h : j < l.length) : szT l (j + 1) = szT l j + l[j].sz := by
  unfold szT
  rw [List.take_succ_eq_append_getElem h, List.map_append, List.sum_append]; simp
theorem szT_all {l : List Tr} {j : Nat} (h : l.length ≤ j) : szL l = l.length + szT l j := by
  unfold szL szT
  rw [List.take_of_length_le h]
theorem szT_le (l : List Tr) (j : Nat) : l.length + szT l j ≤ szL l := by
  unfold szT szL
  conv => rhs; rw [← List.take_append_drop j l]
  rw [List.map_append, List.sum_append, List.length_append]
  have : (l.take j).length + (l.drop j).length = l.length := by rw [← List.length_append, List.take_append_drop]
  omega
/-- A tree's five cells written. -/
def set5 (w : World) (g o : Nat) (t : Tr) (e : El) : World :=
  ((((w.setCell ⟨g, o, none⟩ (.int .i64 t.k)).setCell ⟨g, o + 1, none⟩ (.int .i64 t.n)).setCell ⟨g, o + 2, none⟩ (.int .i64 t.x)).setCell ⟨g, o + 3, none⟩ (.string t.s)).setCell ⟨g, o + 4, none⟩ (.slice e.A e.n e.c)
theorem size_setCell (w : World) (p : Addr) (u : Value) : (w.setCell p u).heap.size = w.heap.size := by simp [World.setCell]
theorem set5_size (w : World) (g o : Nat) (t : Tr) (e : El) : (set5 w g o t e).heap.size = w.heap.size := by simp only [set5, size_setCell]
theorem set5_other (w : World) (g o : Nat) (t : Tr) (e : El) (g2 o2 : Nat) (h : g2 ≠ g ∨ o2 < o ∨ o + 5 ≤ o2) : (set5 w g o t e).cell? ⟨g2, o2, none⟩ = w.cell? ⟨g2, o2, none⟩ := by
  have hne : ∀ i, i < 5 → (⟨g, o + i, none⟩ : Addr) ≠ ⟨g2, o2, none⟩ := fun i hi e => by
    simp only [Addr.mk.injEq] at e; omega
  unfold set5
  rw [World.cell?_setCell_other _ _ _ _ (hne 4 (by omega)), World.cell?_setCell_other _ _ _ _ (hne 3 (by omega)), World.cell?_setCell_other _ _ _ _ (hne 2 (by omega)), World.cell?_setCell_other _ _ _ _ (hne 1 (by omega))]
  exact World.cell?_setCell_other _ _ _ _ (hne 0 (by omega))
theorem Cells5.set5_ {w : World} {g g2 o o2 : Nat} {t t2 : Tr} {e e2 : El} (h : Cells5 w g2 o2 t2 e2) (hd : g2 ≠ g ∨ o2 + 5 ≤ o ∨ o + 5 ≤ o2) : Cells5 (set5 w g o t e) g2 o2 t2 e2 := by
  obtain ⟨c0, c1, c2, c3, c4⟩ := h
  exact ⟨(set5_other w g o t e g2 _ (by omega)).trans c0, (set5_other w g o t e g2 _ (by omega)).trans c1, (set5_other w g o t e g2 _ (by omega)).trans c2, (set5_other w g o t e g2 _ (by omega)).trans c3, (set5_other w g o t e g2 _ (by omega)).trans c4⟩
theorem Blk.set5_ {w : World} {g o : Nat} {T : TypeId} {cs : Array Value} (t : Tr) (e : El) (h : Blk w g T cs) : ∃ cs2 : Array Value, cs2.size = cs.size ∧ Blk (set5 w g o t e) g T cs2 :=
  ⟨_, by simp, ((((h.set_ o _).set_ (o + 1) _).set_ (o + 2) _).set_ (o + 3) _).set_ (o + 4) _⟩
theorem Blk.cells5 {w : World} {g o : Nat} {T : TypeId} {cs : Array Value} (t : Tr) (e : El) (h : Blk w g T cs) (hs : o + 5 ≤ cs.size) : Cells5 (set5 w g o t e) g o t e := by
  have hb : Blk (set5 w g o t e) g T _ := ((((h.set_ o _).set_ (o + 1) _).set_ (o + 2) _).set_ (o + 3) _).set_ (o + 4) _
  refine ⟨?_, ?_, ?_, ?_, ?_⟩
  all_goals
    rw [hb.cell]
    simp [Array.getElem?_setIfInBounds]
    try omega
theorem Blk.five {w : World} {g o : Nat} {T : TypeId} {cs : Array Value} (h : Blk w g T cs) (hs : o + 5 ≤ cs.size) (a b c d : Value) : ∃ x0 x1 x2 x3 x4,
    (w.cell? ⟨g, o, none⟩ = some x0 ∧ w.frozen? ⟨g, o, none⟩ = false) ∧ ((w.setCell ⟨g, o, none⟩ a).cell? ⟨g, o + 1, none⟩ = some x1 ∧ (w.setCell ⟨g, o, none⟩ a).frozen? ⟨g, o + 1, none⟩ = false) ∧
    (((w.setCell ⟨g, o, none⟩ a).setCell ⟨g, o + 1, none⟩ b).cell? ⟨g, o + 2, none⟩ = some x2 ∧ ((w.setCell ⟨g, o, none⟩ a).setCell ⟨g, o + 1, none⟩ b).frozen? ⟨g, o + 2, none⟩ = false) ∧
    ((((w.setCell ⟨g, o, none⟩ a).setCell ⟨g, o + 1, none⟩ b).setCell ⟨g, o + 2, none⟩ c).cell? ⟨g, o + 3, none⟩ = some x3 ∧ (((w.setCell ⟨g, o, none⟩ a).setCell ⟨g, o + 1, none⟩ b).setCell ⟨g, o + 2, none⟩ c).frozen? ⟨g, o + 3, none⟩ = false) ∧
    (((((w.setCell ⟨g, o, none⟩ a).setCell ⟨g, o + 1, none⟩ b).setCell ⟨g, o + 2, none⟩ c).setCell ⟨g, o + 3, none⟩ d).cell? ⟨g, o + 4, none⟩ = some x4 ∧ ((((w.setCell ⟨g, o, none⟩ a).setCell ⟨g, o + 1, none⟩ b).setCell ⟨g, o + 2, none⟩ c).setCell ⟨g, o + 3, none⟩ d).frozen? ⟨g, o + 4, none⟩ = false) := by
  have one : ∀ {w : World} {cs : Array Value} (h : Blk w g T cs) (i : Nat), i < cs.size → ∃ x, w.cell? ⟨g, i, none⟩ = some x ∧ w.frozen? ⟨g, i, none⟩ = false := fun h i hi =>
    ⟨_, (h.cell i).trans (Array.getElem?_eq_getElem hi), h.frozen i⟩
  obtain ⟨x0, h0⟩ := one h o (by omega)
  obtain ⟨x1, h1⟩ := one (h.set_ o a) (o + 1) (by simp; omega)
  obtain ⟨x2, h2⟩ := one ((h.set_ o a).set_ (o + 1) b) (o + 2) (by simp; omega)
  obtain ⟨x3, h3⟩ := one (((h.set_ o a).set_ (o + 1) b).set_ (o + 2) c) (o + 3) (by simp; omega)
  obtain ⟨x4, h4⟩ := one ((((h.set_ o a).set_ (o + 1) b).set_ (o + 2) c).set_ (o + 3) d) (o + 4) (by simp; omega)
  exact ⟨x0, x1, x2, x3, x4, h0, h1, h2, h3, h4⟩
theorem Blk.five_ {w : World} {g : Nat} {T : TypeId} {a b c d f : Value} (h : Blk w g T #[a, b, c, d, f]) (t : Tr) (e : El) : Blk (set5 w g 0 t e) g T #[.int .i64 t.k, .int .i64 t.n, .int .i64 t.x, .string t.s, .slice e.A e.n e.c] := by
  simpa [set5] using ((((h.set_ 0 (.int .i64 t.k)).set_ 1 (.int .i64 t.n)).set_ 2 (.int .i64 t.x)).set_ 3 (.string t.s)).set_ 4 (.slice e.A e.n e.c)
theorem below_set5 {B : Nat} {w w' : World} {g o : Nat} {t : Tr} {e : El} (h : Below B w w') (hg : B ≤ g) : Below B w (set5 w' g o t e) :=
  ((((h.setCell (p := ⟨g, o, none⟩) hg _).setCell (p := ⟨g, o + 1, none⟩) hg _).setCell (p := ⟨g, o + 2, none⟩) hg _).setCell (p := ⟨g, o + 3, none⟩) hg _).setCell (p := ⟨g, o + 4, none⟩) hg _
theorem Blk.far5 {w : World} {g g2 o : Nat} {T : TypeId} {cs : Array Value} {t : Tr} {e : El} (h : Blk w g2 T cs) (hg : g2 ≠ g) : Blk (set5 w g o t e) g2 T cs :=
  ((((h.far (p := ⟨g, o, none⟩) hg _).far (p := ⟨g, o + 1, none⟩) hg _).far (p := ⟨g, o + 2, none⟩) hg _).far (p := ⟨g, o + 3, none⟩) hg _).far (p := ⟨g, o + 4, none⟩) hg _
/-- Each block of the list is a plain row of cells from lo up, and none comes twice. -/
def Own (w : World) (lo : Nat) (fp : List Nat) : Prop := fp.Nodup ∧ ∀ g ∈ fp, lo ≤ g ∧ ∃ T cs, Blk w g T cs
theorem Own.lt {w : World} {lo : Nat} {fp : List Nat} (h : Own w lo fp) {g : Nat} (hg : g ∈ fp) : g < w.heap.size := by
  obtain ⟨_, T, cs, hb⟩ := h.2 g hg
  exact hb.lt
theorem Own.mono {w : World} {lo lo2 : Nat} {fp : List Nat} (h : Own w lo fp) (hl : lo2 ≤ lo) : Own w lo2 fp := ⟨h.1, fun g hg => ⟨Nat.le_trans hl (h.2 g hg).1, (h.2 g hg).2⟩⟩
theorem Own.nil_ (w : World) (lo : Nat) : Own w lo [] := ⟨List.nodup_nil, fun g hg => by cases hg⟩
theorem Own.below {w w' : World} {lo B : Nat} {fp : List Nat} (h : Own w lo fp) (hB : ∀ g ∈ fp, g < B) (hb : Below B w w') : Own w' lo fp :=
  ⟨h.1, fun g hg => by
    obtain ⟨h1, T, cs, h2⟩ := h.2 g hg
    exact ⟨h1, T, cs, h2.below hb (hB g hg)⟩⟩
theorem Own.set5_ {w : World} {lo g o : Nat} {fp : List Nat} {t : Tr} {e : El} (h : Own w lo fp) (hg : g ∉ fp) : Own (set5 w g o t e) lo fp :=
  ⟨h.1, fun g2 hg2 => by
    obtain ⟨h1, T, cs, h2⟩ := h.2 g2 hg2
    exact ⟨h1, T, cs, h2.far5 (fun e => hg (e ▸ hg2))⟩⟩
theorem Own.app {w : World} {lo : Nat} {a b : List Nat} (ha : Own w lo a) (hb : Own w lo b) (hd : ∀ g ∈ a, g ∉ b) : Own w lo (a ++ b) :=
  ⟨List.nodup_append.2 ⟨ha.1, hb.1, fun x hx y hy e => hd x hx (e ▸ hy)⟩, fun g hg => (List.mem_append.1 hg).elim (ha.2 g) (hb.2 g)⟩
theorem Own.cons {w : World} {lo : Nat} {a : List Nat} {g : Nat} (ha : Own w lo a) (hg : g ∉ a) (hl : lo ≤ g) (hb : ∃ T cs, Blk w g T cs) : Own w lo (g :: a) :=
  ⟨List.nodup_cons.2 ⟨hg, ha.1⟩, fun g2 h2 => by
    rcases List.mem_cons.1 h2 with rfl | h2
    · exact ⟨hl, hb⟩
    · exact ha.2 g2 h2⟩
theorem Own.far {w : World} {lo : Nat} {fp : List Nat} (h : Own w lo fp) {p : Addr} (hp : p.block ∉ fp) (u : Value) : Own (w.setCell p u) lo fp :=
  ⟨h.1, fun g2 hg2 => by
    obtain ⟨h1, T, cs, h2⟩ := h.2 g2 hg2
    exact ⟨h1, T, cs, h2.far (fun e => hp (by rw [← e]; exact hg2)) u⟩⟩
theorem LsAt.far {w : World} {l : List Tr} {e : El} (h : LsAt w l e) {p : Addr} (hp : p.block ∉ e.fp) (u : Value) : LsAt (w.setCell p u) l e :=
  h.keep fun g hg o => World.cell?_setCell_other _ _ _ _ (fun e2 => hp (by rw [e2]; exact hg))
theorem LsAt.set5_ {w : World} {l : List Tr} {e e2 : El} {g o : Nat} {t : Tr} (h : LsAt w l e) (hp : g ∉ e.fp) : LsAt (set5 w g o t e2) l e :=
  h.keep fun g2 hg o2 => set5_other _ _ _ _ _ _ _ (.inl (fun e2 => hp (by rw [← e2]; exact hg)))
theorem elFp_snoc (es : List El) (u : El) : elFp (es ++ [u]) = elFp es ++ u.fp := by simp [elFp]
end Go.Proofs.YtmnlkedacnemcaaGreatDoor

namespace Go.Proofs.YtmnlkedacnemcaaGreatDoor
open Go.RowKit

theorem info_u8h : (Tryz.prog.info? 5).map (fun i => (i.zero, i.size, i.bytes)) = some (some (.int .u8 0), 1, 1) := by kernel_rfl
theorem and15 (c : UInt8) : bits BinOp.and IntKind.u8 (c.toNat : Int) 15 = (c.toNat : Int) % 16 :=
  u8_all (p := fun c => bits BinOp.and IntKind.u8 (c.toNat : Int) 15 = (c.toNat : Int) % 16) (by decide +kernel) c
def hexd (k : Nat) : UInt8 := if k < 10 then UInt8.ofNat (48 + k) else UInt8.ofNat (87 + k)
def hexOf (l : List UInt8) : List UInt8 := l.flatMap fun c => [hexd (c.toNat / 16), hexd (c.toNat % 16)]
theorem hexOf_len (l : List UInt8) : (hexOf l).length = 2 * l.length := by
  induction l with
  | nil => rfl
  | cons c l ih => simp only [hexOf, List.flatMap_cons, List.length_append, List.length_cons, List.length_nil] at ih ⊢; omega
theorem hexOf_snoc (l : List UInt8) (c : UInt8) : hexOf (l ++ [c]) = hexOf l ++ [hexd (c.toNat / 16), hexd (c.toNat % 16)] := by simp [hexOf, List.flatMap_append]
theorem hex_at (k : Nat) (h : k < 16) : ((⟨#[48, 49, 50, 51, 52, 53, 54, 55, 56, 57, 97, 98, 99, 100, 101, 102]⟩ : ByteArray)[k]'h) = hexd k := by
  have : ∀ k : Fin 16, ((⟨#[48, 49, 50, 51, 52, 53, 54, 55, 56, 57, 97, 98, 99, 100, 101, 102]⟩ : ByteArray)[k.val]'k.isLt) = hexd k.val := by decide +kernel
  exact this ⟨k, h⟩
theorem hex_news (c : UInt8) (h1 : ((c.toNat : Int) / 16).toNat < 16) (h2 : ((c.toNat : Int) % 16).toNat < 16) :
    [Value.int .u8 (((⟨#[48, 49, 50, 51, 52, 53, 54, 55, 56, 57, 97, 98, 99, 100, 101, 102]⟩ : ByteArray)[((c.toNat : Int) / 16).toNat]'h1).toNat : Int),
     Value.int .u8 (((⟨#[48, 49, 50, 51, 52, 53, 54, 55, 56, 57, 97, 98, 99, 100, 101, 102]⟩ : ByteArray)[((c.toNat : Int) % 16).toNat]'h2).toNat : Int)] = u8s [hexd (c.toNat / 16), hexd (c.toNat % 16)] := by
  rw [hex_at, hex_at]
  have e1 : ((c.toNat : Int) / 16).toNat = c.toNat / 16 := by omega
  have e2 : ((c.toNat : Int) % 16).toNat = c.toNat % 16 := by omega
  rw [e1, e2]; rfl
theorem Sl.congr {w : World} {B m n c : Nat} {A : Option Addr} {xs ys : List Value} (h : xs = ys) (hs : Sl w B m A n c xs) : Sl w B m A n c ys := h ▸ hs
theorem run_loadCells_sl {P : Program} {w : World} {B n c : Nat} {a : Addr} {xs : List Value} (h : Sl w B 1 (some a) n c xs) : (loadCells a n).run P w = .ok xs.toArray w := by
  have hl := h.len
  by_cases hn : 0 < n
  · obtain ⟨g, o, e, _, hc⟩ := h.at_ hn
    injection e with e
    subst e
    have := run_loadCells_list (P := P) w ⟨g, o, none⟩ xs (fun j v hj => by
      have hplain : (⟨g, o, none⟩ : Addr).add j = ⟨g, o + j, none⟩ := by unfold Addr.add; split <;> simp_all
      rw [hplain]; exact hc j v hj)
    rwa [show xs.length = n by omega] at this
  · have hn0 : n = 0 := by omega
    subst hn0
    have hx : xs = [] := List.eq_nil_of_length_eq_zero (by omega)
    subst hx
    exact run_loadCells_list (P := P) w a [] (fun j v hj => by simp at hj)
/-- string(b), b a []byte. -/
theorem run_str_sl {P : Program} {w : World} {B n c : Nat} {A : Option Addr} {b : List UInt8} (src e : TypeId) (hs : P.underlying src = some (.slice e)) (he : P.underlying e = some (.int .u8))
    (h : Sl w B 1 A n c (u8s b)) : ∀ dst, P.underlying dst = some .string → (convert src dst (.slice A n c)).run P w = .ok (.string ⟨b.toArray⟩) w := by
  intro dst hd
  cases A with
  | none =>
    rw [run_convert_bytes_nil w src e hs he n c dst hd]
    have hn : n = 0 := by
      rcases Nat.eq_zero_or_pos n with h0 | h0
      · exact h0
      · obtain ⟨g, o, e, _⟩ := h.at_ h0; cases e
    have hb : b = [] := List.eq_nil_of_length_eq_zero (by have := h.blen; omega)
    subst hb
    rfl
  | some a =>
    have hl := run_loadCells_sl (P := P) h
    have e1 : u8s b = (b.map fun x => (x.toNat : Int)).map (Value.int .u8) := by simp [u8s]
    rw [e1] at hl
    rw [run_convert_bytes_string w src dst e _ n c hs he hd, run_bytesToString w _ n c (b.map fun x => (x.toNat : Int)) hl, foldl_push_bytes]
    congr 2
    apply ByteArray.ext
    show (#[] : Array UInt8) ++ ((b.map fun x => (x.toNat : Int)).map fun n => UInt8.ofNat n.toNat).toArray = b.toArray
    simp [Function.comp_def]
end Go.Proofs.YtmnlkedacnemcaaGreatDoor
