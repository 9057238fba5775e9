/- Sorting pairs of trees: the plain law, and a list of trees whose elements change their places. No function of the program in sight. -/
import Derived.Test.YtjjcdlghichmdaaPlug
import Derived.Test.YtjjcdlghichmdaaRowVal
import Derived.Test.YtjjcdlghichmdaaLessTight
set_option linter.unusedVariables false
set_option maxRecDepth 100000
set_option linter.unusedSimpArgs false
namespace Go.Proofs.Ytjjcdlghichmdaa
open Go.RowKit

noncomputable def lessT (a b : Tr) : Bool := ltB (tightT false false a) (tightT false false b)
/-- How many of the first k pairs of s stay ahead of a. -/
noncomputable def posG {α : Type} (f : α → Tr) (s : List α) (a : α) : Nat → Nat
  | 0 => 0
  | k + 1 => match s[2 * k]? with
    | none => k + 1
    | some y => if lessT (f a) (f y) = true then posG f s a k else k + 1
def insG {α : Type} (s : List α) (a b : α) (p : Nat) : List α := s.take (2 * p) ++ a :: b :: s.drop (2 * p)
noncomputable def accG {α : Type} (f : α → Tr) (X : List α) : Nat → List α
  | 0 => []
  | j + 1 => match X[2 * j]?, X[2 * j + 1]? with
    | some a, some b => insG (accG f X j) a b (posG f (accG f X j) a j)
    | _, _ => accG f X j
theorem posG_map {α : Type} (f : α → Tr) (s : List α) (a : α) : ∀ k, posG id (s.map f) (f a) k = posG f s a k
  | 0 => rfl
  | k + 1 => by
    simp only [posG, List.getElem?_map]
    cases s[2 * k]? with
    | none => rfl
    | some y => simp only [Option.map_some, id]; rw [posG_map f s a k]
theorem insG_map {α : Type} (f : α → Tr) (s : List α) (a b : α) (p : Nat) : (insG s a b p).map f = insG (s.map f) (f a) (f b) p := by
  simp [insG, List.map_take, List.map_drop]
theorem accG_map {α : Type} (f : α → Tr) (X : List α) : ∀ j, (accG f X j).map f = accG id (X.map f) j
  | 0 => rfl
  | j + 1 => by
    simp only [accG, List.getElem?_map]
    cases X[2 * j]? with
    | none => simp only [Option.map_none]; exact accG_map f X j
    | some a =>
      cases X[2 * j + 1]? with
      | none => simp only [Option.map_none]; exact accG_map f X j
      | some b =>
        simp only [Option.map_some]
        rw [insG_map, accG_map f X j, ← posG_map, accG_map f X j]
theorem posG_le {α : Type} (f : α → Tr) (s : List α) (a : α) : ∀ k, posG f s a k ≤ k
  | 0 => Nat.le_refl _
  | k + 1 => by
    simp only [posG]
    cases s[2 * k]? with
    | none => exact Nat.le_refl _
    | some y =>
      simp only []
      split
      · have := posG_le f s a k; omega
      · exact Nat.le_refl _
theorem posG_no {α : Type} {f : α → Tr} {s : List α} {a y : α} {k : Nat} (h : s[2 * k]? = some y) (hl : lessT (f a) (f y) = false) : posG f s a (k + 1) = k + 1 := by simp [posG, h, hl]
theorem posG_yes {α : Type} {f : α → Tr} {s : List α} {a y : α} {k : Nat} (h : s[2 * k]? = some y) (hl : lessT (f a) (f y) = true) : posG f s a (k + 1) = posG f s a k := by simp [posG, h, hl]
theorem insG_len {α : Type} {s : List α} {a b : α} {p : Nat} (h : 2 * p ≤ s.length) : (insG s a b p).length = s.length + 2 := by simp [insG]; omega
theorem insG_perm {α : Type} (s : List α) (a b : α) (p : Nat) : (insG s a b p).Perm (a :: b :: s) := by
  unfold insG
  have h := List.take_append_drop (2 * p) s
  calc (s.take (2 * p) ++ a :: b :: s.drop (2 * p)).Perm (a :: b :: (s.take (2 * p) ++ s.drop (2 * p))) := by
        refine (List.perm_middle).trans ((List.Perm.cons _ (List.perm_middle)))
    _ = a :: b :: s := by rw [h]
theorem accG_len {α : Type} (f : α → Tr) (X : List α) : ∀ j, 2 * j ≤ X.length → (accG f X j).length = 2 * j
  | 0, _ => rfl
  | j + 1, h => by
    have ih := accG_len f X j (by omega)
    simp only [accG, List.getElem?_eq_getElem (show 2 * j < X.length by omega), List.getElem?_eq_getElem (show 2 * j + 1 < X.length by omega)]
    rw [insG_len (by have := posG_le f (accG f X j) X[2 * j] j; omega), ih]; omega
theorem accG_succ {α : Type} {f : α → Tr} {X : List α} {j : Nat} (h : 2 * j + 1 < X.length) : accG f X (j + 1) = insG (accG f X j) X[2 * j] X[2 * j + 1] (posG f (accG f X j) X[2 * j] j) := by
  simp only [accG, List.getElem?_eq_getElem (show 2 * j < X.length by omega), List.getElem?_eq_getElem h]
theorem accG_perm {α : Type} (f : α → Tr) (X : List α) : ∀ j, 2 * j ≤ X.length → (accG f X j ++ X.drop (2 * j)).Perm X
  | 0, _ => by simp [accG]
  | j + 1, h => by
    have ih := accG_perm f X j (by omega)
    rw [accG_succ (by omega)]
    refine ((insG_perm _ _ _ _).append_right _).trans ?_
    refine List.Perm.trans ?_ ih
    have e : X.drop (2 * j) = X[2 * j] :: X[2 * j + 1] :: X.drop (2 * (j + 1)) := by
      rw [List.drop_eq_getElem_cons (show 2 * j < X.length by omega), List.drop_eq_getElem_cons (show 2 * j + 1 < X.length by omega)]
      rfl
    rw [e]
    simp only [List.cons_append]
    exact ((List.perm_middle).trans (List.Perm.cons _ List.perm_middle)).symm
theorem accG_one {α : Type} {f : α → Tr} {X : List α} (h : 2 ≤ X.length) : accG f X 1 ++ X.drop 2 = X := by
  rw [accG_succ (by omega)]
  simp only [accG, insG, posG, Nat.mul_zero, List.take_nil, List.drop_nil, List.nil_append, List.cons_append]
  conv => rhs; rw [← List.drop_zero (l := X), List.drop_eq_getElem_cons (show 0 < X.length by omega), List.drop_eq_getElem_cons (show 0 + 1 < X.length by omega)]
/-- A row of pairs, parted ahead of the last pair that stays ahead of p. -/
theorem insG_split {α : Type} {s : List α} {f : Nat} (h : 2 * (f + 1) ≤ s.length) (a b : α) : ∃ P p q S, P.length = 2 * f ∧ s[2 * f]? = some p ∧ p ∈ s ∧ insG s a b (f + 1) = P ++ p :: q :: a :: b :: S ∧ insG s a b f = P ++ a :: b :: p :: q :: S := by
  have e1 : s.take (2 * (f + 1)) = s.take (2 * f) ++ [s[2 * f], s[2 * f + 1]] := by
    rw [show 2 * (f + 1) = 2 * f + 1 + 1 by omega, List.take_succ_eq_append_getElem (by omega), List.take_succ_eq_append_getElem (by omega), List.append_assoc]; rfl
  have e2 : s.drop (2 * f) = s[2 * f] :: s[2 * f + 1] :: s.drop (2 * (f + 1)) := by
    rw [List.drop_eq_getElem_cons (show 2 * f < s.length by omega), List.drop_eq_getElem_cons (show 2 * f + 1 < s.length by omega)]
    rfl
  refine ⟨s.take (2 * f), s[2 * f], s[2 * f + 1], s.drop (2 * (f + 1)), by simp; omega, List.getElem?_eq_getElem (by omega), List.getElem_mem _, ?_, ?_⟩
  · unfold insG; rw [e1]; simp
  · unfold insG; rw [e2]
/-- The sorted tree. -/
noncomputable def sortT (t : Tr) : Tr := if t.k = 10 ∧ t.l.length % 2 = 0 then ⟨t.k, t.n, t.x, t.s, accG id t.l (t.l.length / 2)⟩ else t
/-- Two pairs that change their places, cell by cell. -/
theorem swap_pairs {α : Type} (P S : List α) (p q a b : α) (i : Nat) (h : P.length = i) :
    ((((P ++ p :: q :: a :: b :: S).set (i + 2) p).set i a).set (i + 3) q).set (i + 1) b = P ++ a :: b :: p :: q :: S := by
  subst h
  simp [List.set_append]
/-- Trees with their lists, that lie in block g from o on. -/
structure RX (w : World) (lo g o : Nat) (X : List (Tr × El)) : Prop where
  cells : ∀ (i : Nat) (x : Tr × El), X[i]? = some x → Cells5 w g (o + i * 5) x.1 x.2
  kids : ∀ x ∈ X, LsAt w x.1.l x.2
  own : Own w lo (g :: elFp (X.map Prod.snd))
  room : ∃ T cs, Blk w g T cs ∧ o + X.length * 5 ≤ cs.size
theorem RX.of {w : World} {lo : Nat} {l : List Tr} {e : El} {g o : Nat} {es : List El} (h : LsV w l e g o es) (ho : Own w lo e.fp) (hn : 0 < e.n) : RX w lo g o (l.zip es) := by
  have hl := h.len
  have he := h.eslen
  have hz : (l.zip es).map Prod.snd = es := List.map_snd_zip (by omega)
  have hsp : ∀ (i : Nat) (x : Tr × El), (l.zip es)[i]? = some x → l[i]? = some x.1 ∧ es[i]? = some x.2 := fun i x hx => by
    rw [List.getElem?_zip_eq_some] at hx; exact hx
  refine ⟨fun i x hx => h.cells i _ _ (hsp i x hx).1 (hsp i x hx).2, fun x hx => ?_, by rw [hz, ← h.fp]; exact ho, ?_⟩
  · obtain ⟨i, hi⟩ := List.mem_iff_getElem?.1 hx
    exact h.kids i _ _ (hsp i x hi).1 (hsp i x hi).2
  · obtain ⟨_, T, cs, hb⟩ := ho.2 g (by rw [h.fp]; exact List.mem_cons_self)
    refine ⟨T, cs, hb, ?_⟩
    have h1 : e.n - 1 < l.length := by omega
    have h2 : e.n - 1 < es.length := by omega
    obtain ⟨_, _, _, _, c4⟩ := h.cells (e.n - 1) _ _ (List.getElem?_eq_getElem h1) (List.getElem?_eq_getElem h2)
    have := hb.size_of c4
    rw [List.length_zip]
    omega
theorem RX.list {w : World} {lo g o n c : Nat} {X : List (Tr × El)} (h : RX w lo g o X) (hn : X.length = n) (h0 : 0 < n) (hc : n ≤ c) (hm : c ≤ maxLen) :
    LsAt w (X.map Prod.fst) ⟨some ⟨g, o, none⟩, n, c, g :: elFp (X.map Prod.snd)⟩ := by
  refine LsV.close (g := g) (o := o) (es := X.map Prod.snd) ⟨by simpa using hn, hc, hm, by simpa using hn, rfl, rfl, fun j t u a b => ?_, fun j t u a b => ?_⟩ h0
  · rw [List.getElem?_map] at a b
    obtain ⟨x, hx, rfl⟩ := Option.map_eq_some_iff.1 a
    rw [hx] at b
    obtain rfl := Option.some.inj b
    exact h.cells j x hx
  · rw [List.getElem?_map] at a b
    obtain ⟨x, hx, rfl⟩ := Option.map_eq_some_iff.1 a
    rw [hx] at b
    obtain rfl := Option.some.inj b
    exact h.kids x (List.mem_of_getElem? hx)
theorem RX.notin {w : World} {lo g o : Nat} {X : List (Tr × El)} (h : RX w lo g o X) {x : Tr × El} (hx : x ∈ X) : g ∉ x.2.fp := fun hg => by
  have hd := h.own.1
  rw [List.nodup_cons] at hd
  exact hd.1 (List.mem_flatten.2 ⟨x.2.fp, List.mem_map.2 ⟨x.2, List.mem_map.2 ⟨x, hx, rfl⟩, rfl⟩, hg⟩)
theorem RX.lt {w : World} {lo g o : Nat} {X : List (Tr × El)} (h : RX w lo g o X) {x : Tr × El} (hx : x ∈ X) : x.2.lt w.heap.size := fun g2 hg2 =>
  h.own.lt (List.mem_cons_of_mem _ (List.mem_flatten.2 ⟨x.2.fp, List.mem_map.2 ⟨x.2, List.mem_map.2 ⟨x, hx, rfl⟩, rfl⟩, hg2⟩))
theorem RX.below {w w' : World} {lo g o : Nat} {X : List (Tr × El)} (h : RX w lo g o X) (hb : Below w.heap.size w w') : RX w' lo g o X := by
  obtain ⟨T, cs, hB, hr⟩ := h.room
  exact ⟨fun i x hx => (h.cells i x hx).eq5 fun j hj => hb.cell (p := ⟨g, _, none⟩) hB.lt, fun x hx => (h.kids x hx).below (h.lt hx) hb, h.own.below (fun g hg => h.own.lt hg) hb, T, cs, hB.below hb hB.lt, hr⟩
theorem fp_perm {X Y : List (Tr × El)} (h : X.Perm Y) : (elFp (X.map Prod.snd)).Perm (elFp (Y.map Prod.snd)) := ((h.map Prod.snd).map El.fp).flatten
theorem Own.perm {w : World} {lo : Nat} {a b : List Nat} (h : Own w lo a) (hp : a.Perm b) : Own w lo b := ⟨hp.nodup_iff.1 h.1, fun g hg => h.2 g (hp.mem_iff.2 hg)⟩
/-- One tree written over another. -/
theorem set_cells {w : World} {g o i : Nat} {X : List (Tr × El)} {T : TypeId} {cs : Array Value} (hb : Blk w g T cs) (hr : o + X.length * 5 ≤ cs.size) (h : ∀ (i : Nat) (x : Tr × El), X[i]? = some x → Cells5 w g (o + i * 5) x.1 x.2) (hi : i < X.length) (x : Tr × El) :
    (∀ (j : Nat) (y : Tr × El), (X.set i x)[j]? = some y → Cells5 (set5 w g (o + i * 5) x.1 x.2) g (o + j * 5) y.1 y.2) ∧ ∃ cs2, Blk (set5 w g (o + i * 5) x.1 x.2) g T cs2 ∧ cs2.size = cs.size := by
  obtain ⟨cs2, hs, hb2⟩ := hb.set5_ (o := o + i * 5) x.1 x.2
  refine ⟨fun j y hy => ?_, cs2, hb2, hs⟩
  rw [List.getElem?_set] at hy
  by_cases e : i = j
  · subst e
    rw [if_pos rfl, if_pos hi] at hy
    obtain rfl := Option.some.inj hy
    exact hb.cells5 _ _ (by omega)
  · rw [if_neg e] at hy
    exact (h j y hy).set5_ (.inr (by omega))
/-- Two neighbouring pairs change their places. -/
theorem RX.swap {w : World} {lo g o i : Nat} {P S : List (Tr × El)} {p q a b : Tr × El} (h : RX w lo g o (P ++ p :: q :: a :: b :: S)) (hP : P.length = i) :
    RX (set5 (set5 (set5 (set5 w g (o + (i + 2) * 5) p.1 p.2) g (o + i * 5) a.1 a.2) g (o + (i + 3) * 5) q.1 q.2) g (o + (i + 1) * 5) b.1 b.2) lo g o (P ++ a :: b :: p :: q :: S) := by
  obtain ⟨T, cs, hb, hr⟩ := h.room
  have hlen : (P ++ p :: q :: a :: b :: S).length = i + 4 + S.length := by simp [hP]; omega
  have hl2 : (P ++ a :: b :: p :: q :: S).length = i + 4 + S.length := by simp [hP]; omega
  obtain ⟨c1, cs1, hb1, hs1⟩ := set_cells hb hr h.cells (show i + 2 < _ by omega) p
  obtain ⟨c2, cs2, hb2, hs2⟩ := set_cells hb1 (by rw [List.length_set]; omega) c1 (show i < _ by rw [List.length_set]; omega) a
  obtain ⟨c3, cs3, hb3, hs3⟩ := set_cells hb2 (by rw [List.length_set, List.length_set]; omega) c2 (show i + 3 < _ by rw [List.length_set, List.length_set]; omega) q
  obtain ⟨c4, cs4, hb4, hs4⟩ := set_cells hb3 (by rw [List.length_set, List.length_set, List.length_set]; omega) c3 (show i + 1 < _ by rw [List.length_set, List.length_set, List.length_set]; omega) b
  rw [swap_pairs P S p q a b i hP] at c4
  have hp : (P ++ p :: q :: a :: b :: S).Perm (P ++ a :: b :: p :: q :: S) := by
    refine List.Perm.append_left P ?_
    have : ([p, q] ++ ([a, b] ++ S)).Perm ([a, b] ++ ([p, q] ++ S)) := by
      rw [← List.append_assoc, ← List.append_assoc]
      exact (List.perm_append_comm).append_right S
    exact this
  have hkeep : ∀ x ∈ P ++ p :: q :: a :: b :: S, LsAt (set5 (set5 (set5 (set5 w g (o + (i + 2) * 5) p.1 p.2) g (o + i * 5) a.1 a.2) g (o + (i + 3) * 5) q.1 q.2) g (o + (i + 1) * 5) b.1 b.2) x.1.l x.2 := fun x hx =>
    ((((h.kids x hx).set5_ (h.notin hx)).set5_ (h.notin hx)).set5_ (h.notin hx)).set5_ (h.notin hx)
  refine ⟨c4, fun x hx => hkeep x (hp.mem_iff.2 hx), ?_, T, cs4, hb4, by omega⟩
  have ho := h.own.perm ((fp_perm hp).cons g)
  refine ⟨ho.1, fun g2 hg2 => ?_⟩
  obtain ⟨hlo, T2, cs5, hB5⟩ := ho.2 g2 hg2
  by_cases e : g2 = g
  · subst e; exact ⟨hlo, T, cs4, hb4⟩
  · exact ⟨hlo, T2, cs5, (((hB5.far5 e).far5 e).far5 e).far5 e⟩
/-- A row some of whose places hold other trees of it. -/
structure RH (w : World) (lo g o : Nat) (Y X : List (Tr × El)) : Prop where
  cells : ∀ (i : Nat) (x : Tr × El), X[i]? = some x → Cells5 w g (o + i * 5) x.1 x.2
  kids : ∀ x ∈ Y, LsAt w x.1.l x.2
  own : Own w lo (g :: elFp (Y.map Prod.snd))
  room : ∃ T cs, Blk w g T cs ∧ o + X.length * 5 ≤ cs.size
theorem RX.half {w : World} {lo g o : Nat} {X : List (Tr × El)} (h : RX w lo g o X) : RH w lo g o X X := ⟨h.cells, h.kids, h.own, h.room⟩
theorem RH.notin {w : World} {lo g o : Nat} {Y X : List (Tr × El)} (h : RH w lo g o Y X) {x : Tr × El} (hx : x ∈ Y) : g ∉ x.2.fp := fun hg => by
  have hd := h.own.1
  rw [List.nodup_cons] at hd
  exact hd.1 (List.mem_flatten.2 ⟨x.2.fp, List.mem_map.2 ⟨x.2, List.mem_map.2 ⟨x, hx, rfl⟩, rfl⟩, hg⟩)
theorem RH.set_ {w : World} {lo g o i : Nat} {Y X : List (Tr × El)} (h : RH w lo g o Y X) (hi : i < X.length) (x : Tr × El) : RH (set5 w g (o + i * 5) x.1 x.2) lo g o Y (X.set i x) := by
  obtain ⟨T, cs, hb, hr⟩ := h.room
  obtain ⟨c, cs2, hb2, hs⟩ := set_cells hb hr h.cells hi x
  refine ⟨c, fun y hy => (h.kids y hy).set5_ (h.notin hy), ⟨h.own.1, fun g2 hg2 => ?_⟩, T, cs2, hb2, by rw [List.length_set]; omega⟩
  obtain ⟨hlo, T2, cs5, hB5⟩ := h.own.2 g2 hg2
  by_cases e : g2 = g
  · subst e; exact ⟨hlo, T, cs2, hb2⟩
  · exact ⟨hlo, T2, cs5, hB5.far5 e⟩
theorem RH.drew {w : World} {lo g o : Nat} {Y X : List (Tr × El)} (h : RH w lo g o Y X) : RH w.drew lo g o Y X := ⟨h.cells, fun x hx => (h.kids x hx).keep (fun _ _ _ => rfl), h.own, h.room⟩
theorem RH.full {w : World} {lo g o : Nat} {Y X : List (Tr × El)} (h : RH w lo g o Y X) (hp : Y.Perm X) : RX w lo g o X := ⟨h.cells, fun x hx => h.kids x (hp.mem_iff.2 hx), h.own.perm ((fp_perm hp).cons g), h.room⟩
theorem swap_perm {α : Type} (P S : List α) (p q a b : α) : (P ++ p :: q :: a :: b :: S).Perm (P ++ a :: b :: p :: q :: S) := by
  refine List.Perm.append_left P ?_
  have : ([p, q] ++ ([a, b] ++ S)).Perm ([a, b] ++ ([p, q] ++ S)) := by
    rw [← List.append_assoc, ← List.append_assoc]
    exact (List.perm_append_comm).append_right S
  exact this
end Go.Proofs.Ytjjcdlghichmdaa
