/- Sorting pairs of trees: the plain law, and a list of trees whose elements change their places. No function of the program in sight. A tree loaded from five cells, and stored into five cells, as a step of a drawn region. A row of trees whose lists are borrowed. No function of the program in sight. Steps of the drawn region that inserts a pair into a row: two literals, appends. -/
import Derived.Test.YtmnlkedacnemcaaGreatDoorTwM10
import Derived.Test.YtmnlkedacnemcaaGreatDoorTwM7
import Derived.Test.YtmnlkedacnemcaaGreatDoorTwM17
import Derived.Test.YtmnlkedacnemcaaGreatDoorTwM8
import Derived.Test.YtmnlkedacnemcaaGreatDoorTwM4
set_option linter.unusedVariables false
set_option maxRecDepth 100000
set_option linter.unusedSimpArgs false
namespace Go.Proofs.YtmnlkedacnemcaaGreatDoor
open Go.RowKit

noncomputable def lessT (a b : Tr) : Bool := ltB (tightT false false a) (tightT false false b)
/-- How many of the first k pairs of s stay ahead of a. -/
noncomputable def posG {α : Type} (f : α → Tr) (s : List α) (a : α) : Nat → Nat
  | 0 => 0
  | k + 1 => match s[2 * k]? with
    | none => k + 1
    | some y => if lessT (f a) (f y) = true then posG f s a k else k + 1
def insG {α : Type} (s : List α) (a b : α) (p : Nat) : List α := s.take (2 * p) ++ a :: b :: s.drop (2 * p)
noncomputable def accG {α : Type} (f : α → Tr) (X : List α) : Nat → List α
  | 0 => []
  | j + 1 => match X[2 * j]?, X[2 * j + 1]? with
    | some a, some b => insG (accG f X j) a b (posG f (accG f X j) a j)
    | _, _ => accG f X j
theorem posG_map {α : Type} (f : α → Tr) (s : List α) (a : α) : ∀ k, posG id (s.map f) (f a) k = posG f s a k
  | 0 => rfl
  | k + 1 => by
    simp only [posG, List.getElem?_map]
    cases s[2 * k]? with
    | none => rfl
    | some y => simp only [Option.map_some, id]; rw [posG_map f s a k]
theorem insG_map {α : Type} (f : α → Tr) (s : List α) (a b : α) (p : Nat) : (insG s a b p).map f = insG (s.map f) (f a) (f b) p := by
  simp [insG, List.map_take, List.map_drop]
theorem accG_map {α : Type} (f : α → Tr) (X : List α) : ∀ j, (accG f X j).map f = accG id (X.map f) j
  | 0 => rfl
  | j + 1 => by
    simp only [accG, List.getElem?_map]
    cases X[2 * j]? with
    | none => simp only [Option.map_none]; exact accG_map f X j
    | some a =>
      cases X[2 * j + 1]? with
      | none => simp only [Option.map_none]; exact accG_map f X j
      | some b =>
        simp only [Option.map_some]
        rw [insG_map, accG_map f X j, ← posG_map, accG_map f X j]
theorem posG_le {α : Type} (f : α → Tr) (s : List α) (a : α) : ∀ k, posG f s a k ≤ k
  | 0 => Nat.le_refl _
  | k + 1 => by
    simp only [posG]
    cases s[2 * k]? with
    | none => exact Nat.le_refl _
    | some y =>
      simp only []
      split
      · have := posG_le f s a k; omega
      · exact Nat.le_refl _
theorem posG_no {α : Type} {f : α → Tr} {s : List α} {a y : α} {k : Nat} (h : s[2 * k]? = some y) (hl : lessT (f a) (f y) = false) : posG f s a (k + 1) = k + 1 := by simp [posG, h, hl]
theorem posG_yes {α : Type} {f : α → Tr} {s : List α} {a y : α} {k : Nat} (h : s[2 * k]? = some y) (hl : lessT (f a) (f y) = true) : posG f s a (k + 1) = posG f s a k := by simp [posG, h, hl]
theorem insG_len {α : Type} {s : List α} {a b : α} {p : Nat} (h : 2 * p ≤ s.length) : (insG s a b p).length = s.length + 2 := by simp [insG]; omega
theorem insG_perm {α : Type} (s : List α) (a b : α) (p : Nat) : (insG s a b p).Perm (a :: b :: s) := by
  unfold insG
  have h := List.take_append_drop (2 * p) s
  calc (s.take (2 * p) ++ a :: b :: s.drop (2 * p)).Perm (a :: b :: (s.take (2 * p) ++ s.drop (2 * p))) := by
        refine (List.perm_middle).trans ((List.Perm.cons _ (List.perm_middle)))
    _ = a :: b :: s := by rw [h]
theorem accG_len {α : Type} (f : α → Tr) (X : List α) : ∀ j, 2 * j ≤ X.length → (accG f X j).length = 2 * j
  | 0, _ => rfl
  | j + 1, h => by
    have ih := accG_len f X j (by omega)
    simp only [accG, List.getElem?_eq_getElem (show 2 * j < X.length by omega), List.getElem?_eq_getElem (show 2 * j + 1 < X.length by omega)]
    rw [insG_len (by have := posG_le f (accG f X j) X[2 * j] j; omega), ih]; omega
theorem accG_succ {α : Type} {f : α → Tr} {X : List α} {j : Nat} (h : 2 * j + 1 < X.length) : accG f X (j + 1) = insG (accG f X j) X[2 * j] X[2 * j + 1] (posG f (accG f X j) X[2 * j] j) := by
  simp only [accG, List.getElem?_eq_getElem (show 2 * j < X.length by omega), List.getElem?_eq_getElem h]
theorem accG_perm {α : Type} (f : α → Tr) (X : List α) : ∀ j, 2 * j ≤ X.length → (accG f X j ++ X.drop (2 * j)).Perm X
  | 0, _ => by simp [accG]
  | j + 1, h => by
    have ih := accG_perm f X j (by omega)
    rw [accG_succ (by omega)]
    refine ((insG_perm _ _ _ _).append_right _).trans ?_
    refine List.Perm.trans ?_ ih
    have e : X.drop (2 * j) = X[2 * j] :: X[2 * j + 1] :: X.drop (2 * (j + 1)) := by
      rw [List.drop_eq_getElem_cons (show 2 * j < X.length by omega), List.drop_eq_getElem_cons (show 2 * j + 1 < X.length by omega)]
      rfl
    rw [e]
    simp only [List.cons_append]
    exact ((List.perm_middle).trans (List.Perm.cons _ List.perm_middle)).symm
theorem accG_one {α : Type} {f : α → Tr} {X : List α} (h : 2 ≤ X.length) : accG f X 1 ++ X.drop 2 = X := by
  rw [accG_succ (by omega)]
  simp only [accG, insG, posG, Nat.mul_zero, List.take_nil, List.drop_nil, List.nil_append, List.cons_append]
  conv => rhs; rw [← List.drop_zero (l := X), List.drop_eq_getElem_cons (show 0 < X.length by omega), List.drop_eq_getElem_cons (show 0 + 1 < X.length by omega)]
/-- A row of pairs, parted ahead of the last pair that stays ahead of p. -/
theorem insG_split {α : Type} {s : List α} {f : Nat} (h : 2 * (f + 1) ≤ s.length) (a b : α) : ∃ P p q S, P.length = 2 * f ∧ s[2 * f]? = some p ∧ p ∈ s ∧ insG s a b (f + 1) = P ++ p :: q :: a :: b :: S ∧ insG s a b f = P ++ a :: b :: p :: q :: S := by
  have e1 : s.take (2 * (f + 1)) = s.take (2 * f) ++ [s[2 * f], s[2 * f + 1]] := by
    rw [show 2 * (f + 1) = 2 * f + 1 + 1 by omega, List.take_succ_eq_append_getElem (by omega), List.take_succ_eq_append_getElem (by omega), List.append_assoc]; rfl
  have e2 : s.drop (2 * f) = s[2 * f] :: s[2 * f + 1] :: s.drop (2 * (f + 1)) := by
    rw [List.drop_eq_getElem_cons (show 2 * f < s.length by omega), List.drop_eq_getElem_cons (show 2 * f + 1 < s.length by omega)]
    rfl
  refine ⟨s.take (2 * f), s[2 * f], s[2 * f + 1], s.drop (2 * (f + 1)), by simp; omega, List.getElem?_eq_getElem (by omega), List.getElem_mem _, ?_, ?_⟩
  · unfold insG; rw [e1]; simp
  · unfold insG; rw [e2]
/-- The sorted tree. -/
noncomputable def sortT (t : Tr) : Tr := if t.k = 10 ∧ t.l.length % 2 = 0 then ⟨t.k, t.n, t.x, t.s, accG id t.l (t.l.length / 2)⟩ else t
/-- Two pairs that change their places, cell by cell. -/
theorem swap_pairs {α : Type} (P S : List α) (p q a b : α) (i : Nat) (h : P.length = i) :
    ((((P ++ p :: q :: a :: b :: S).set (i + 2) p).set i a).set (i + 3) q).set (i + 1) b = P ++ a :: b :: p :: q :: S := by
  subst h
  simp [List.set_append]
/-- Trees with their lists, that lie in block g from o on. -/
structure RX (w : World) (lo g o : Nat) (X : List (Tr × El)) : Prop where
  cells : ∀ (i : Nat) (x : Tr × El), X[i]? = some x → Cells5 w g (o + i * 5) x.1 x.2
  kids : ∀ x ∈ X, LsAt w x.1.l x.2
  own : Own w lo (g :: elFp (X.map Prod.snd))
  room : ∃ T cs, Blk w g T cs ∧ o + X.length * 5 ≤ cs.size
theorem RX.of {w : World} {lo : Nat} {l : List Tr} {e : El} {g o : Nat} {es : List El} (h : LsV w l e g o es) (ho : Own w lo e.fp) (hn : 0 < e.n) : RX w lo g o (l.zip es) := by
  have hl := h.len
  have he := h.eslen
  have hz : (l.zip es).map Prod.snd = es := List.map_snd_zip (by omega)
  have hsp : ∀ (i : Nat) (x : Tr × El), (l.zip es)[i]? = some x → l[i]? = some x.1 ∧ es[i]? = some x.2 := fun i x hx => by
    rw [List.getElem?_zip_eq_some] at hx; exact hx
  refine ⟨fun i x hx => h.cells i _ _ (hsp i x hx).1 (hsp i x hx).2, fun x hx => ?_, by rw [hz, ← h.fp]; exact ho, ?_⟩
  · obtain ⟨i, hi⟩ := List.mem_iff_getElem?.1 hx
    exact h.kids i _ _ (hsp i x hi).1 (hsp i x hi).2
  · obtain ⟨_, T, cs, hb⟩ := ho.2 g (by rw [h.fp]; exact List.mem_cons_self)
    refine ⟨T, cs, hb, ?_⟩
    have h1 : e.n - 1 < l.length := by omega
    have h2 : e.n - 1 < es.length := by omega
    obtain ⟨_, _, _, _, c4⟩ := h.cells (e.n - 1) _ _ (List.getElem?_eq_getElem h1) (List.getElem?_eq_getElem h2)
    have := hb.size_of c4
    rw [List.length_zip]
    omega
theorem RX.list {w : World} {lo g o n c : Nat} {X : List (Tr × El)} (h : RX w lo g o X) (hn : X.length = n) (h0 : 0 < n) (hc : n ≤ c) (hm : c ≤ maxLen) :
    LsAt w (X.map Prod.fst) ⟨some ⟨g, o, none⟩, n, c, g :: elFp (X.map Prod.snd)⟩ := by
  refine LsV.close (g := g) (o := o) (es := X.map Prod.snd) ⟨by simpa using hn, hc, hm, by simpa using hn, rfl, rfl, fun j t u a b => ?_, fun j t u a b => ?_⟩ h0
  · rw [List.getElem?_map] at a b
    obtain ⟨x, hx, rfl⟩ := Option.map_eq_some_iff.1 a
    rw [hx] at b
    obtain rfl := Option.some.inj b
    exact h.cells j x hx
  · rw [List.getElem?_map] at a b
    obtain ⟨x, hx, rfl⟩ := Option.map_eq_some_iff.1 a
    rw [hx] at b
    obtain rfl := Option.some.inj b
    exact h.kids x (List.mem_of_getElem? hx)
theorem RX.notin {w : World} {lo g o : Nat} {X : List (Tr × El)} (h : RX w lo g o X) {x : Tr × El} (hx : x ∈ X) : g ∉ x.2.fp := fun hg => by
  have hd := h.own.1
  rw [List.nodup_cons] at hd
  exact hd.1 (List.mem_flatten.2 ⟨x.2.fp, List.mem_map.2 ⟨x.2, List.mem_map.2 ⟨x, hx, rfl⟩, rfl⟩, hg⟩)
theorem RX.lt {w : World} {lo g o : Nat} {X : List (Tr × El)} (h : RX w lo g o X) {x : Tr × El} (hx : x ∈ X) : x.2.lt w.heap.size := fun g2 hg2 =>
  h.own.lt (List.mem_cons_of_mem _ (List.mem_flatten.2 ⟨x.2.fp, List.mem_map.2 ⟨x.2, List.mem_map.2 ⟨x, hx, rfl⟩, rfl⟩, hg2⟩))
theorem RX.below {w w' : World} {lo g o : Nat} {X : List (Tr × El)} (h : RX w lo g o X) (hb : Below w.heap.size w w') : RX w' lo g o X := by
  obtain ⟨T, cs, hB, hr⟩ := h.room
  exact ⟨fun i x hx => (h.cells i x hx).eq5 fun j hj => hb.cell (p := ⟨g, _, none⟩) hB.lt, fun x hx => (h.kids x hx).below (h.lt hx) hb, h.own.below (fun g hg => h.own.lt hg) hb, T, cs, hB.below hb hB.lt, hr⟩
theorem fp_perm {X Y : List (Tr × El)} (h : X.Perm Y) : (elFp (X.map Prod.snd)).Perm (elFp (Y.map Prod.snd)) := ((h.map Prod.snd).map El.fp).flatten
theorem Own.perm {w : World} {lo : Nat} {a b : List Nat} (h : Own w lo a) (hp : a.Perm b) : Own w lo b := ⟨hp.nodup_iff.1 h.1, fun g hg => h.2 g (hp.mem_iff.2 hg)⟩
/-- One tree written over another. -/
theorem set_cells {w : World} {g o i : Nat} {X : List (Tr × El)} {T : TypeId} {cs : Array Value} (hb : Blk w g T cs) (hr : o + X.length * 5 ≤ cs.size) (h : ∀ (i : Nat) (x : Tr × El), X[i]? = some x → Cells5 w g (o + i * 5) x.1 x.2) (hi : i < X.length) (x : Tr × El) :
    (∀ (j : Nat) (y : Tr × El), (X.set i x)[j]? = some y → Cells5 (set5 w g (o + i * 5) x.1 x.2) g (o + j * 5) y.1 y.2) ∧ ∃ cs2, Blk (set5 w g (o + i * 5) x.1 x.2) g T cs2 ∧ cs2.size = cs.size := by
  obtain ⟨cs2, hs, hb2⟩ := hb.set5_ (o := o + i * 5) x.1 x.2
  refine ⟨fun j y hy => ?_, cs2, hb2, hs⟩
  rw [List.getElem?_set] at hy
  by_cases e : i = j
  · subst e
    rw [if_pos rfl, if_pos hi] at hy
    obtain rfl := Option.some.inj hy
    exact hb.cells5 _ _ (by omega)
  · rw [if_neg e] at hy
    exact (h j y hy).set5_ (.inr (by omega))
/-- Two neighbouring pairs change their places. -/
theorem RX.swap {w : World} {lo g o i : Nat} {P S : List (Tr × El)} {p q a b : Tr × El} (h : RX w lo g o (P ++ p :: q :: a :: b :: S)) (hP : P.length = i) :
    RX (set5 (set5 (set5 (set5 w g (o + (i + 2) * 5) p.1 p.2) g (o + i * 5) a.1 a.2) g (o + (i + 3) * 5) q.1 q.2) g (o + (i + 1) * 5) b.1 b.2) lo g o (P ++ a :: b :: p :: q :: S) := by
  obtain ⟨T, cs, hb, hr⟩ := h.room
  have hlen : (P ++ p :: q :: a :: b :: S).length = i + 4 + S.length := by simp [hP]; omega
  have hl2 : (P ++ a :: b :: p :: q :: S).length = i + 4 + S.length := by simp [hP]; omega
  obtain ⟨c1, cs1, hb1, hs1⟩ := set_cells hb hr h.cells (show i + 2 < _ by omega) p
  obtain ⟨c2, cs2, hb2, hs2⟩ := set_cells hb1 (by rw [List.length_set]; omega) c1 (show i < _ by rw [List.length_set]; omega) a
  obtain ⟨c3, cs3, hb3, hs3⟩ := set_cells hb2 (by rw [List.length_set, List.length_set]; omega) c2 (show i + 3 < _ by rw [List.length_set, List.length_set]; omega) q
  obtain ⟨c4, cs4, hb4, hs4⟩ := set_cells hb3 (by rw [List.length_set, List.length_set, List.length_set]; omega) c3 (show i + 1 < _ by rw [List.length_set, List.length_set, List.length_set]; omega) b
  rw [swap_pairs P S p q a b i hP] at c4
  have hp : (P ++ p :: q :: a :: b :: S).Perm (P ++ a :: b :: p :: q :: S) := by
    refine List.Perm.append_left P ?_
    have : ([p, q] ++ ([a, b] ++ S)).Perm ([a, b] ++ ([p, q] ++ S)) := by
      rw [← List.append_assoc, ← List.append_assoc]
      exact (List.perm_append_comm).append_right S
    exact this
  have hkeep : ∀ x ∈ P ++ p :: q :: a :: b :: S, LsAt (set5 (set5 (set5 (set5 w g (o + (i + 2) * 5) p.1 p.2) g (o + i * 5) a.1 a.2) g (o + (i + 3) * 5) q.1 q.2) g (o + (i + 1) * 5) b.1 b.2) x.1.l x.2 := fun x hx =>
    ((((h.kids x hx).set5_ (h.notin hx)).set5_ (h.notin hx)).set5_ (h.notin hx)).set5_ (h.notin hx)
  refine ⟨c4, fun x hx => hkeep x (hp.mem_iff.2 hx), ?_, T, cs4, hb4, by omega⟩
  have ho := h.own.perm ((fp_perm hp).cons g)
  refine ⟨ho.1, fun g2 hg2 => ?_⟩
  obtain ⟨hlo, T2, cs5, hB5⟩ := ho.2 g2 hg2
  by_cases e : g2 = g
  · subst e; exact ⟨hlo, T, cs4, hb4⟩
  · exact ⟨hlo, T2, cs5, (((hB5.far5 e).far5 e).far5 e).far5 e⟩
/-- A row some of whose places hold other trees of it. -/
structure RH (w : World) (lo g o : Nat) (Y X : List (Tr × El)) : Prop where
  cells : ∀ (i : Nat) (x : Tr × El), X[i]? = some x → Cells5 w g (o + i * 5) x.1 x.2
  kids : ∀ x ∈ Y, LsAt w x.1.l x.2
  own : Own w lo (g :: elFp (Y.map Prod.snd))
  room : ∃ T cs, Blk w g T cs ∧ o + X.length * 5 ≤ cs.size
theorem RX.half {w : World} {lo g o : Nat} {X : List (Tr × El)} (h : RX w lo g o X) : RH w lo g o X X := ⟨h.cells, h.kids, h.own, h.room⟩
theorem RH.notin {w : World} {lo g o : Nat} {Y X : List (Tr × El)} (h : RH w lo g o Y X) {x : Tr × El} (hx : x ∈ Y) : g ∉ x.2.fp := fun hg => by
  have hd := h.own.1
  rw [List.nodup_cons] at hd
  exact hd.1 (List.mem_flatten.2 ⟨x.2.fp, List.mem_map.2 ⟨x.2, List.mem_map.2 ⟨x, hx, rfl⟩, rfl⟩, hg⟩)
theorem RH.set_ {w : World} {lo g o i : Nat} {Y X : List (Tr × El)} (h : RH w lo g o Y X) (hi : i < X.length) (x : Tr × El) : RH (set5 w g (o + i * 5) x.1 x.2) lo g o Y (X.set i x) := by
  obtain ⟨T, cs, hb, hr⟩ := h.room
  obtain ⟨c, cs2, hb2, hs⟩ := set_cells hb hr h.cells hi x
  refine ⟨c, fun y hy => (h.kids y hy).set5_ (h.notin hy), ⟨h.own.1, fun g2 hg2 => ?_⟩, T, cs2, hb2, by rw [List.length_set]; omega⟩
  obtain ⟨hlo, T2, cs5, hB5⟩ := h.own.2 g2 hg2
  by_cases e : g2 = g
  · subst e; exact ⟨hlo, T, cs2, hb2⟩
  · exact ⟨hlo, T2, cs5, hB5.far5 e⟩
theorem RH.drew {w : World} {lo g o : Nat} {Y X : List (Tr × El)} (h : RH w lo g o Y X) : RH w.drew lo g o Y X := ⟨h.cells, fun x hx => (h.kids x hx).keep (fun _ _ _ => rfl), h.own, h.room⟩
theorem RH.full {w : World} {lo g o : Nat} {Y X : List (Tr × El)} (h : RH w lo g o Y X) (hp : Y.Perm X) : RX w lo g o X := ⟨h.cells, fun x hx => h.kids x (hp.mem_iff.2 hx), h.own.perm ((fp_perm hp).cons g), h.room⟩
theorem swap_perm {α : Type} (P S : List α) (p q a b : α) : (P ++ p :: q :: a :: b :: S).Perm (P ++ a :: b :: p :: q :: S) := by
  refine List.Perm.append_left P ?_
  have : ([p, q] ++ ([a, b] ++ S)).Perm ([a, b] ++ ([p, q] ++ S)) := by
    rw [← List.append_assoc, ← List.append_assoc]
    exact (List.perm_append_comm).append_right S
  exact this
end Go.Proofs.YtmnlkedacnemcaaGreatDoor

namespace Go.Proofs.YtmnlkedacnemcaaGreatDoor
open Go.RowKit

set_option maxHeartbeats 1000000 in
theorem step_load5 {ops : Array Oper} {d : Option Tmp} {ty : TypeId} {pos : String} {af : Array Edge} {x : Tmp} {a : Act} {K : Act → World → Prop} {Q : Exit → Act → World → Prop} {E : Prop} {w : World} {g off : Nat} {t : Tr} {e : El}
    (hx : a.tmps[x]?.getD undef = .pointer (some ⟨g, off, none⟩)) (h : Cells5 w g off t e) (hK : K (a.put d (.agg #[.int .i64 t.k, .int .i64 t.n, .int .i64 t.x, .string t.s, .slice e.A e.n e.c])) w) :
    if Region.wanted { dst := d, op := .load 26 (.tmp x), type := ty, pos := pos, after := af, guard := none } (yielded ops a.tmps) = true then Oper.wp Tryz.prog { dst := d, op := .load 26 (.tmp x), type := ty, pos := pos, after := af, guard := none } a w K Q else E := by
  rw [if_pos (by simp [Region.wanted])]
  obtain ⟨c0, c1, c2, c3, c4⟩ := h
  try go_simp
  try simp only [hx]
  try go_simp
  exact hK
set_option maxHeartbeats 1000000 in
theorem step_store5 {ops : Array Oper} {ty : TypeId} {pos : String} {af : Array Edge} {x y : Tmp} {a : Act} {K : Act → World → Prop} {Q : Exit → Act → World → Prop} {E : Prop} {w : World} {g off : Nat} {t : Tr} {e : El} {T : TypeId} {cs : Array Value}
    (hx : a.tmps[x]?.getD undef = .pointer (some ⟨g, off, none⟩)) (hy : a.tmps[y]?.getD undef = .agg #[.int .i64 t.k, .int .i64 t.n, .int .i64 t.x, .string t.s, .slice e.A e.n e.c]) (hb : Blk w g T cs) (hr : off + 5 ≤ cs.size) (hK : K a (set5 w g off t e)) :
    if Region.wanted { dst := none, op := .store 26 (.tmp x) (.tmp y), type := ty, pos := pos, after := af, guard := none } (yielded ops a.tmps) = true then Oper.wp Tryz.prog { dst := none, op := .store 26 (.tmp x) (.tmp y), type := ty, pos := pos, after := af, guard := none } a w K Q else E := by
  rw [if_pos (by simp [Region.wanted])]
  obtain ⟨x0, x1, x2, x3, x4, ⟨s0, t0⟩, ⟨s1, t1⟩, ⟨s2, t2⟩, ⟨s3, t3⟩, s4, t4⟩ := hb.five (o := off) hr (.int .i64 t.k) (.int .i64 t.n) (.int .i64 t.x) (.string t.s)
  unfold set5 at hK
  try go_simp
  try simp only [hx, hy]
  try go_simp
  exact hK
end Go.Proofs.YtmnlkedacnemcaaGreatDoor

namespace Go.Proofs.YtmnlkedacnemcaaGreatDoor
open Go.RowKit

/-- A row of trees of the call's own; the trees' lists lie below lo. -/
structure NV (w : World) (lo : Nat) (A : Option Addr) (n c : Nat) (l : List Tr) (es : List El) : Prop where
  row : w.ownsRow lo 26 5 (.slice A n c) n (cellsOf l es)
  len : l.length = n
  eslen : es.length = n
  kids : ∀ (j : Nat) (t : Tr) (u : El), l[j]? = some t → es[j]? = some u → LsAt w t.l u
  low : ∀ g ∈ elFp es, g < lo
theorem NV.nil_ (w : World) (lo : Nat) : NV w lo none 0 0 [] [] := ⟨World.ownsRow_nil _ _ _ _, rfl, rfl, fun j t u h => by simp at h, fun g hg => by simp [elFp] at hg⟩
theorem NV.new (w : World) (g : Nat) (hg : w.heap.size = g) : NV (w.alloc (.cells #[] 26)) g (some ⟨g, 0, none⟩) 0 0 [] [] := by
  subst hg
  exact ⟨World.ownsRow_lit w #[] 0 (Nat.le_refl _) (by decide) rfl, rfl, rfl, fun j t u h => by simp at h, fun g hg => by simp [elFp] at hg⟩
theorem NV.below {w w' : World} {lo n c : Nat} {A : Option Addr} {l : List Tr} {es : List El} (h : NV w lo A n c l es) (hlo : lo ≤ w.heap.size) (hb : Below w.heap.size w w') : NV w' lo A n c l es :=
  ⟨row_heap h.row fun g hg => hb.block g (row_lt h.row hg).2, h.len, h.eslen, fun j t u a b => (h.kids j t u a b).below (fun g hg => Nat.lt_of_lt_of_le (h.low g (elFp_mem b hg)) hlo) hb, h.low⟩
theorem NV.cap {w : World} {lo n c : Nat} {A : Option Addr} {l : List Tr} {es : List El} (h : NV w lo A n c l es) : n ≤ c ∧ c ≤ maxLen := by
  rcases h.row.2 with ⟨e, e2⟩ | ⟨g, cap, cur, e, _, _, h3, h4, _⟩
  · simp only [Value.slice.injEq] at e; omega
  · simp only [Value.slice.injEq] at e; omega
/-- The row as a list. -/
theorem NV.list {w : World} {lo n c : Nat} {A : Option Addr} {l : List Tr} {es : List El} (h : NV w lo A n c l es) (hlo : lo ≤ w.heap.size) : ∃ fp, LsAt w l ⟨A, n, c, fp⟩ ∧ ∀ g ∈ fp, g < w.heap.size := by
  obtain ⟨hc, hm⟩ := h.cap
  rcases Nat.eq_zero_or_pos n with h0 | h0
  · subst h0
    obtain rfl := List.eq_nil_of_length_eq_zero h.len
    exact ⟨[], (lsAt_iff _ _).2 ⟨rfl, hc, hm, [], rfl, fun _ => rfl, fun h => absurd h (Nat.lt_irrefl 0), fun j t u h => by simp at h⟩, fun g hg => by cases hg⟩
  · rcases h.row.2 with ⟨e, _⟩ | ⟨g, cap, cur, e, hb, hh, _⟩
    · simp only [Value.slice.injEq] at e; omega
    · simp only [Value.slice.injEq] at e
      have hA : A = some ⟨g, 0, none⟩ := e.1
      have hg : g ∈ blkOf A := by rw [hA]; simp [blkOf]
      have hcl := h.row.cells (g := g) (by rw [hA]; rfl)
      have ea : ∀ k, (⟨g, 0, none⟩ : Addr).add k = ⟨g, 0 + k, none⟩ := fun k => by unfold Addr.add; split <;> simp_all
      have f := fun k v hv => by have := hcl k v hv; rw [ea] at this; exact this
      refine ⟨g :: elFp es, (lsAt_iff _ _).2 ⟨h.len, hc, hm, es, h.eslen, fun h => absurd h (Nat.ne_of_gt h0), fun _ => ⟨g, 0, hA, rfl, fun j t u a b => ?_⟩, fun j t u a b => (trAt_ls _ _).2 (h.kids j t u a b)⟩, fun x hx => ?_⟩
      · obtain ⟨a0, a1, a2, a3, a4⟩ := cellsOf_get l es j t u a b (by rw [h.len, h.eslen])
        exact ⟨f _ _ a0, f _ _ a1, f _ _ a2, f _ _ a3, f _ _ a4⟩
      · rcases List.mem_cons.1 hx with rfl | hx
        · exact (row_lt h.row hg).2
        · exact Nat.lt_of_lt_of_le (h.low x hx) hlo
end Go.Proofs.YtmnlkedacnemcaaGreatDoor

namespace Go.Proofs.YtmnlkedacnemcaaGreatDoor
open Go.RowKit

/-- A tree loaded, whatever the world that holds it. -/
theorem yields_load5 {ops : Array Oper} {S : World → Prop} {d : Option Tmp} {ty : TypeId} {pos : String} {af : Array Edge} {x : Tmp} {a : Act} {g off : Nat} {t : Tr} {e : El}
    (hx : a.tmps[x]?.getD undef = .pointer (some ⟨g, off, none⟩)) (h : ∀ w, S w → Cells5 w g off t e) :
    YieldsIf Tryz.prog ops S { dst := d, op := .load 26 (.tmp x), type := ty, pos := pos, after := af, guard := none } (.agg #[.int .i64 t.k, .int .i64 t.n, .int .i64 t.x, .string t.s, .slice e.A e.n e.c]) a := by
  refine .inl ⟨by simp [Region.wanted], fun w hS => ?_⟩
  obtain ⟨c0, c1, c2, c3, c4⟩ := h w hS
  go_simp
theorem step_build0 {ops : Array Oper} {d : Option Tmp} {ty : TypeId} {pos : String} {af : Array Edge} {a : Act} {K : Act → World → Prop} {Q : Exit → Act → World → Prop} {E : Prop} {w : World}
    (hK : K (a.put d (.slice (some ⟨w.heap.size, 0, none⟩) 0 0)) (w.alloc (.cells #[] 26))) :
    if Region.wanted { dst := d, op := .buildSlice 24 0 #[], type := ty, pos := pos, after := af, guard := none } (yielded ops a.tmps) = true then Oper.wp Tryz.prog { dst := d, op := .buildSlice 24 0 #[], type := ty, pos := pos, after := af, guard := none } a w K Q else E := by
  rw [if_pos (by simp [Region.wanted])]
  go_simp
  exact hK
theorem step_build2 {ops : Array Oper} {d : Option Tmp} {ty : TypeId} {pos : String} {af : Array Edge} {x y : Tmp} {a : Act} {K : Act → World → Prop} {Q : Exit → Act → World → Prop} {E : Prop} {w : World} {t u : Tr} {e f : El}
    (hx : a.tmps[x]?.getD undef = .agg #[.int .i64 t.k, .int .i64 t.n, .int .i64 t.x, .string t.s, .slice e.A e.n e.c]) (hy : a.tmps[y]?.getD undef = .agg #[.int .i64 u.k, .int .i64 u.n, .int .i64 u.x, .string u.s, .slice f.A f.n f.c])
    (hK : K (a.put d (.slice (some ⟨w.heap.size, 0, none⟩) 2 2)) (w.alloc (.cells #[.int .i64 t.k, .int .i64 t.n, .int .i64 t.x, .string t.s, .slice e.A e.n e.c, .int .i64 u.k, .int .i64 u.n, .int .i64 u.x, .string u.s, .slice f.A f.n f.c] 26))) :
    if Region.wanted { dst := d, op := .buildSlice 24 2 #[(0, .tmp x), (1, .tmp y)], type := ty, pos := pos, after := af, guard := none } (yielded ops a.tmps) = true then Oper.wp Tryz.prog { dst := d, op := .buildSlice 24 2 #[(0, .tmp x), (1, .tmp y)], type := ty, pos := pos, after := af, guard := none } a w K Q else E := by
  rw [if_pos (by simp [Region.wanted])]
  go_simp
  exact hK
/-- append(row, cells...), the row being of the call's own. -/
theorem step_appr {ops : Array Oper} {d : Option Tmp} {ty : TypeId} {pos : String} {af : Array Edge} {s x : Tmp} {a : Act} {K : Act → World → Prop} {Q : Exit → Act → World → Prop} {E : Prop} {w : World} {lo n c m c1 B : Nat} {A A1 : Option Addr} {cs news : List Value}
    (hs : a.tmps[s]?.getD undef = .slice A n c) (hx : a.tmps[x]?.getD undef = .slice A1 m c1) (h : w.ownsRow lo 26 5 (.slice A n c) n cs) (hr : Sl w B 5 A1 m c1 news) (h1 : ∀ v ∈ news, v.oneCell' = true) (hn : n + m ≤ 1099511627776) (hbase : lo ≤ w.heap.size)
    (hK : ∀ A' c' w', w'.ownsRow lo 26 5 (.slice A' (n + m) c') (n + m) (cs ++ news) → Gr A A' w w' → K (a.put d (.slice A' (n + m) c')) w') :
    if Region.wanted { dst := d, op := .call { callee := .builtin .append, args := #[.tmp s, .tmp x], argTypes := #[24, 24] }, type := ty, pos := pos, after := af, guard := none } (yielded ops a.tmps) = true then Oper.wp Tryz.prog { dst := d, op := .call { callee := .builtin .append, args := #[.tmp s, .tmp x], argTypes := #[24, 24] }, type := ty, pos := pos, after := af, guard := none } a w K Q else E := by
  obtain ⟨i0, hi, hz0, hz1, hz2⟩ := info_parts info_val
  refine step_append_sl (ops := ops) (o := { dst := d, op := .call { callee := .builtin .append, args := #[.tmp s, .tmp x], argTypes := #[24, 24] }, type := ty, pos := pos, after := af, guard := none }) _ rfl (.tmp s) (.tmp x) 24 rfl lo 26 i0 (.agg #[.int .i64 0, .int .i64 0, .int .i64 0, .string ByteArray.empty, .slice none 0 0]) 5 64 Tryz.underlying24 hi hz0 hz1 hz2 rfl (by decide) (.slice A n c) n cs (by first | exact hs | simpa [Act.eval] using hs) h B A1 m c1 news (by first | exact hx | simpa [Act.eval] using hx) hr h1 (by unfold maxLen; omega) (by omega) hbase ?_
  intro A' c' w' h2 h3 h4
  have hg := gr_of (n' := n + m) (c' := c') h3 h4
  exact hK A' c' w' h2 hg
abbrev XT (X : List (Tr × El)) : List Tr := X.map Prod.fst
abbrev XE (X : List (Tr × El)) : List El := X.map Prod.snd
/-- The cells of trees with their lists. -/
def cellsX : List (Tr × El) → List Value
  | [] => []
  | x :: X => [.int .i64 x.1.k, .int .i64 x.1.n, .int .i64 x.1.x, .string x.1.s, .slice x.2.A x.2.n x.2.c] ++ cellsX X
theorem cellsX_of : ∀ X : List (Tr × El), cellsOf (XT X) (XE X) = cellsX X
  | [] => rfl
  | x :: X => by simp only [XT, XE, List.map_cons, cellsOf, cellsX]; rw [← cellsX_of X]
theorem cellsX_app : ∀ X Y : List (Tr × El), cellsX (X ++ Y) = cellsX X ++ cellsX Y
  | [], Y => rfl
  | x :: X, Y => by simp only [List.cons_append, cellsX, cellsX_app X Y, List.append_assoc]
theorem cellsX_len : ∀ X : List (Tr × El), (cellsX X).length = X.length * 5
  | [] => rfl
  | x :: X => by simp only [cellsX, List.length_append, cellsX_len X, List.length_cons]; simp; omega
theorem cellsX_one : ∀ (X : List (Tr × El)), ∀ v ∈ cellsX X, v.oneCell' = true
  | [], v, h => by cases h
  | x :: X, v, h => by
    simp only [cellsX, List.mem_append, List.mem_cons, List.not_mem_nil, or_false] at h
    rcases h with (rfl | rfl | rfl | rfl | rfl) | h
    · rfl
    · rfl
    · rfl
    · rfl
    · rfl
    · exact cellsX_one X v h
theorem cellsX_take (X : List (Tr × El)) (k : Nat) (h : k ≤ X.length) : (cellsX X).take (k * 5) = cellsX (X.take k) := by
  conv => lhs; rw [← List.take_append_drop k X, cellsX_app]
  rw [List.take_append_of_le_length (by rw [cellsX_len, List.length_take]; omega), List.take_of_length_le (by rw [cellsX_len, List.length_take]; omega)]
theorem cellsX_drop (X : List (Tr × El)) (k : Nat) (h : k ≤ X.length) : (cellsX X).drop (k * 5) = cellsX (X.drop k) := by
  conv => lhs; rw [← List.take_append_drop k X, cellsX_app]
  rw [List.drop_append_of_le_length (by rw [cellsX_len, List.length_take]; omega), List.drop_eq_nil_of_le (by rw [cellsX_len, List.length_take]; omega), List.nil_append]
/-- The first trees of a row, and the others. -/
theorem sl_take {w : World} {B n c g k : Nat} {X : List (Tr × El)} (h : Sl w B 5 (some ⟨g, 0, none⟩) n c (cellsX X)) (hn : X.length = n) (hk : k ≤ n) : Sl w B 5 (some ⟨g, 0, none⟩) k c (cellsX (X.take k)) := by
  refine ⟨by rw [cellsX_len, List.length_take]; omega, by have := h.cap; omega, h.max, fun h0 => ?_⟩
  obtain ⟨g2, o2, e, hb, hc⟩ := h.at_ (by omega)
  refine ⟨g2, o2, e, hb, fun j u hu => hc j u ?_⟩
  rw [← cellsX_take X k (by omega)] at hu
  rw [List.getElem?_take] at hu
  split at hu
  · exact hu
  · cases hu
theorem sl_drop {w : World} {B n c g k : Nat} {X : List (Tr × El)} (h : Sl w B 5 (some ⟨g, 0, none⟩) n c (cellsX X)) (hn : X.length = n) (hk : k ≤ n) : Sl w B 5 (some ⟨g, k * 5, none⟩) (n - k) (c - k) (cellsX (X.drop k)) := by
  refine ⟨by rw [cellsX_len, List.length_drop]; omega, by have := h.cap; omega, by have := h.max; omega, fun h0 => ?_⟩
  obtain ⟨g2, o2, e, hb, hc⟩ := h.at_ (by omega)
  simp only [Option.some.injEq, Addr.mk.injEq, and_true] at e
  obtain ⟨rfl, rfl⟩ := e
  refine ⟨g, k * 5, rfl, hb, fun j u hu => ?_⟩
  rw [← cellsX_drop X k (by omega), List.getElem?_drop] at hu
  have := hc _ _ hu
  rw [Nat.zero_add] at this
  exact this
theorem sl_drop2 {w : World} {B n c g k : Nat} {X : List (Tr × El)} (h : Sl w B 5 (some ⟨g, 0, none⟩) n c (cellsX X)) (hn : X.length = n) (hk : k ≤ n) : Sl w B 5 (if c = k then some ⟨g, 0, none⟩ else some ⟨g, k * 5, none⟩) (n - k) (c - k) (cellsX (X.drop k)) := by
  have h2 := sl_drop h hn hk
  by_cases e : c = k
  · rw [if_pos e]
    have hc := h.cap
    exact ⟨h2.len, h2.cap, h2.max, fun h0 => by omega⟩
  · rw [if_neg e]; exact h2
theorem blk_fr {w w' : World} {g : Nat} {T : TypeId} {cs : Array Value} {fp : List Nat} (h : Blk w g T cs) (hf : Fr fp w w') (hn : g ∉ fp) : Blk w' g T cs := (hf.block g h.lt hn).trans h
theorem sl_lit {w : World} {g : Nat} {T : TypeId} {a b : Tr × El} (h : Blk w g T #[.int .i64 a.1.k, .int .i64 a.1.n, .int .i64 a.1.x, .string a.1.s, .slice a.2.A a.2.n a.2.c, .int .i64 b.1.k, .int .i64 b.1.n, .int .i64 b.1.x, .string b.1.s, .slice b.2.A b.2.n b.2.c]) : Sl w (g + 1) 5 (some ⟨g, 0, none⟩) 2 2 (cellsX [a, b]) := by
  refine ⟨by simp [cellsX], Nat.le_refl _, by unfold maxLen; omega, fun _ => ⟨g, 0, rfl, Nat.lt_succ_self _, fun j u hu => ?_⟩⟩
  rw [Nat.zero_add, h.cell j]
  simpa [cellsX] using hu
theorem own_bel {w w' : World} {lo : Nat} {e : TypeId} {m n n2 c : Nat} {A : Option Addr} {xs : List Value} (h : w.ownsRow lo e m (.slice A n c) n2 xs) (hb : Below w.heap.size w w') : w'.ownsRow lo e m (.slice A n c) n2 xs :=
  row_heap h fun g hg => hb.block g (row_lt h hg).2
/-- A row of borrowed trees out of its cells. -/
theorem NV.mk_ {w : World} {lo L n c : Nat} {A : Option Addr} {Y : List (Tr × El)} {cs : List Value} (h : w.ownsRow L 26 5 (.slice A n c) n cs) (hlo : lo ≤ L) (hcs : cs = cellsX Y) (hn : Y.length = n) (kids : ∀ x ∈ Y, LsAt w x.1.l x.2) (low : ∀ x ∈ Y, ∀ g ∈ x.2.fp, g < lo) : NV w lo A n c (XT Y) (XE Y) := by
  refine ⟨by rw [cellsX_of, ← hcs]; exact own_mono h hlo, by simpa [XT] using hn, by simpa [XE] using hn, fun j t u a b => ?_, fun g hg => ?_⟩
  · simp only [XT, XE, List.getElem?_map] at a b
    obtain ⟨x, hx, rfl⟩ := Option.map_eq_some_iff.1 a
    rw [hx] at b
    obtain rfl := Option.some.inj b
    exact kids x (List.mem_of_getElem? hx)
  · obtain ⟨l, hl, hgl⟩ := List.mem_flatten.1 hg
    obtain ⟨e, he, rfl⟩ := List.mem_map.1 hl
    obtain ⟨x, hx, rfl⟩ := List.mem_map.1 he
    exact low x hx g hgl
theorem own_some {w : World} {L n c : Nat} {A : Option Addr} {cs : List Value} {e : TypeId} {m n2 : Nat} (h : w.ownsRow L e m (.slice A n c) n2 cs) (hn : 0 < n) : ∃ g, A = some ⟨g, 0, none⟩ := by
  rcases h.2 with ⟨e, _⟩ | ⟨g, cap, cur, e, _⟩
  · simp only [Value.slice.injEq] at e; omega
  · simp only [Value.slice.injEq] at e; exact ⟨g, e.1⟩
theorem NV.sl_ {w : World} {lo n c : Nat} {A : Option Addr} {X : List (Tr × El)} (h : NV w lo A n c (XT X) (XE X)) : Sl w w.heap.size 5 A n c (cellsX X) := by
  have := Sl.of_own h.row
  rw [cellsX_of] at this
  exact this
/-- The row as a list of the call's own. -/
theorem NV.own_ {w : World} {lo lo0 n c : Nat} {A : Option Addr} {l : List Tr} {es : List El} (h : NV w lo A n c l es) (ho : Own w lo0 (elFp es)) (hl : lo0 ≤ lo) (h0 : 0 < n) : ∃ fp, LsAt w l ⟨A, n, c, fp⟩ ∧ Own w lo0 fp ∧ ∀ x ∈ fp, lo ≤ x ∨ x ∈ elFp es := by
  obtain ⟨hc, hm⟩ := h.cap
  rcases h.row.2 with ⟨e, _⟩ | ⟨g, cap, cur, e, hb, hh, _⟩
  · simp only [Value.slice.injEq] at e; omega
  · simp only [Value.slice.injEq] at e
    have hA : A = some ⟨g, 0, none⟩ := e.1
    have hg : g ∈ blkOf A := by rw [hA]; simp [blkOf]
    have hcl := h.row.cells (g := g) (by rw [hA]; rfl)
    have ea : ∀ k, (⟨g, 0, none⟩ : Addr).add k = ⟨g, 0 + k, none⟩ := fun k => by unfold Addr.add; split <;> simp_all
    have f := fun k v hv => by have := hcl k v hv; rw [ea] at this; exact this
    have hgl := (row_lt h.row hg).1
    refine ⟨g :: elFp es, (lsAt_iff _ _).2 ⟨h.len, hc, hm, es, h.eslen, fun h => absurd h (Nat.ne_of_gt h0), fun _ => ⟨g, 0, hA, rfl, fun j t u a b => ?_⟩, fun j t u a b => (trAt_ls _ _).2 (h.kids j t u a b)⟩, ⟨List.nodup_cons.2 ⟨fun hx => by have := h.low g hx; omega, ho.1⟩, fun x hx => ?_⟩, fun x hx => ?_⟩
    · obtain ⟨a0, a1, a2, a3, a4⟩ := cellsOf_get l es j t u a b (by rw [h.len, h.eslen])
      exact ⟨f _ _ a0, f _ _ a1, f _ _ a2, f _ _ a3, f _ _ a4⟩
    · rcases List.mem_cons.1 hx with rfl | hx
      · exact ⟨by omega, _, _, hh⟩
      · exact ho.2 x hx
    · rcases List.mem_cons.1 hx with rfl | hx
      · exact .inl hgl
      · exact .inr hx
theorem insG_cells (Y : List (Tr × El)) (a b : Tr × El) (P : Nat) : cellsX (insG Y a b P) = cellsX (Y.take (2 * P)) ++ cellsX [a, b] ++ cellsX (Y.drop (2 * P)) := by
  unfold insG
  rw [cellsX_app, List.append_assoc, ← cellsX_app [a, b]]
  rfl
theorem insG_mem {Y : List (Tr × El)} {a b x : Tr × El} {P : Nat} (h : x ∈ insG Y a b P) : x = a ∨ x = b ∨ x ∈ Y := by
  unfold insG at h
  rcases List.mem_append.1 h with h | h
  · exact .inr (.inr (List.mem_of_mem_take h))
  · rcases List.mem_cons.1 h with rfl | h
    · exact .inl rfl
    · rcases List.mem_cons.1 h with rfl | h
      · exact .inr (.inl rfl)
      · exact .inr (.inr (List.mem_of_mem_drop h))
end Go.Proofs.YtmnlkedacnemcaaGreatDoor
