/- Sorting pairs by their names, plain: what is sorted, what is kept, and when two sorts agree. No function of the program in sight. Sorting by LessVal, plain; both sorts as sorts of pairs. No function of the program in sight. -/
import Derived.Test.YtmnlkedacnemcaaGreatDoorTwM18
set_option linter.unusedVariables false
set_option maxRecDepth 100000
set_option linter.unusedSimpArgs false
namespace Go.Proofs.YtmnlkedacnemcaaGreatDoor
open Go.RowKit

section
variable {α β : Type}
def insP (S : List (α × β)) (x : α × β) (p : Nat) : List (α × β) := S.take p ++ x :: S.drop p
def posP (lt : α → α → Bool) (S : List (α × β)) (a : α) : Nat → Nat
  | 0 => 0
  | k + 1 => match S[k]? with
    | none => k + 1
    | some y => if lt a y.1 = true then posP lt S a k else k + 1
def accP (lt : α → α → Bool) (Q : List (α × β)) : Nat → List (α × β)
  | 0 => []
  | j + 1 => match Q[j]? with
    | some x => insP (accP lt Q j) x (posP lt (accP lt Q j) x.1 j)
    | none => accP lt Q j
theorem posP_le (lt : α → α → Bool) (S : List (α × β)) (a : α) : ∀ k, posP lt S a k ≤ k
  | 0 => Nat.le_refl _
  | k + 1 => by
    simp only [posP]
    split
    · exact Nat.le_refl _
    · split
      · have := posP_le lt S a k; omega
      · exact Nat.le_refl _
/-- What stands from the place on is greater, what stands ahead of it is not. -/
theorem posP_spec (lt : α → α → Bool) (S : List (α × β)) (a : α) : ∀ k, k ≤ S.length → (∀ i y, S[i]? = some y → posP lt S a k ≤ i → i < k → lt a y.1 = true) ∧ (∀ y, S[posP lt S a k - 1]? = some y → 0 < posP lt S a k → lt a y.1 = false)
  | 0, _ => ⟨fun i y h h1 h2 => by omega, fun y h h1 => by simp [posP] at h1⟩
  | k + 1, hk => by
    have hlt : k < S.length := by omega
    have ih := posP_spec lt S a k (by omega)
    by_cases hc : lt a S[k].1 = true
    · have e : posP lt S a (k + 1) = posP lt S a k := by simp only [posP, List.getElem?_eq_getElem hlt]; rw [if_pos hc]
      rw [e]
      refine ⟨fun i y h h1 h2 => ?_, ih.2⟩
      by_cases e : i = k
      · subst e
        rw [List.getElem?_eq_getElem hlt] at h
        obtain rfl := Option.some.inj h
        exact hc
      · exact ih.1 i y h h1 (by omega)
    · have e : posP lt S a (k + 1) = k + 1 := by simp only [posP, List.getElem?_eq_getElem hlt]; rw [if_neg hc]
      rw [e]
      refine ⟨fun i y h h1 h2 => by omega, fun y h h1 => ?_⟩
      rw [Nat.add_sub_cancel, List.getElem?_eq_getElem hlt] at h
      obtain rfl := Option.some.inj h
      simpa using hc
theorem insP_len {S : List (α × β)} {x : α × β} {p : Nat} (h : p ≤ S.length) : (insP S x p).length = S.length + 1 := by simp [insP]; omega
theorem accP_len (lt : α → α → Bool) (Q : List (α × β)) : ∀ j, j ≤ Q.length → (accP lt Q j).length = j
  | 0, _ => rfl
  | j + 1, h => by
    have ih := accP_len lt Q j (by omega)
    simp only [accP, List.getElem?_eq_getElem (show j < Q.length by omega)]
    rw [insP_len (by rw [ih]; exact posP_le _ _ _ _), ih]
theorem accP_mem (lt : α → α → Bool) (Q : List (α × β)) : ∀ j, j ≤ Q.length → ∀ x ∈ accP lt Q j, x ∈ Q
  | 0, _, x, h => by cases h
  | j + 1, hj, x, h => by
    simp only [accP, List.getElem?_eq_getElem (show j < Q.length by omega)] at h
    unfold insP at h
    rcases List.mem_append.1 h with h | h
    · exact accP_mem lt Q j (by omega) x (List.mem_of_mem_take h)
    · rcases List.mem_cons.1 h with rfl | h
      · exact List.getElem_mem _
      · exact accP_mem lt Q j (by omega) x (List.mem_of_mem_drop h)
/-- No name stands behind a greater one. -/
def Adj (lt : α → α → Bool) (S : List (α × β)) : Prop := ∀ i x y, S[i]? = some x → S[i + 1]? = some y → lt y.1 x.1 = false
theorem insP_get {S : List (α × β)} {x : α × β} {p : Nat} (hp : p ≤ S.length) (k : Nat) : (insP S x p)[k]? = if k < p then S[k]? else if k = p then some x else S[k - 1]? := by
  unfold insP
  have hl : (S.take p).length = p := by simp; omega
  by_cases c1 : k < p
  · rw [if_pos c1, List.getElem?_append_left (by omega), List.getElem?_take, if_pos c1]
  · rw [if_neg c1, List.getElem?_append_right (by omega), hl]
    by_cases c2 : k = p
    · subst c2; simp
    · rw [if_neg c2]
      obtain ⟨m, rfl⟩ : ∃ m, k = p + m + 1 := ⟨k - p - 1, by omega⟩
      rw [show p + m + 1 - p = m + 1 by omega, List.getElem?_cons_succ, List.getElem?_drop]
      rfl
theorem insP_adj {lt : α → α → Bool} (hs : ∀ a b, lt a b = true → lt b a = false) {S : List (α × β)} (hS : Adj lt S) (x : α × β) {p : Nat} (hp : p ≤ S.length) (h1 : ∀ i y, S[i]? = some y → p ≤ i → lt x.1 y.1 = true) (h2 : ∀ y, S[p - 1]? = some y → 0 < p → lt x.1 y.1 = false) : Adj lt (insP S x p) := by
  intro i u v hu hv
  rw [insP_get hp] at hu hv
  by_cases c1 : i + 1 < p
  · rw [if_pos c1] at hv
    rw [if_pos (by omega)] at hu
    exact hS i u v hu hv
  · rw [if_neg c1] at hv
    by_cases c2 : i + 1 = p
    · rw [if_pos c2] at hv
      rw [if_pos (by omega)] at hu
      obtain rfl := Option.some.inj hv
      refine h2 u ?_ (by omega)
      rw [show p - 1 = i by omega]; exact hu
    · rw [if_neg c2] at hv
      rw [Nat.add_sub_cancel] at hv
      by_cases c3 : i = p
      · rw [if_neg (by omega), if_pos c3] at hu
        obtain rfl := Option.some.inj hu
        exact hs _ _ (h1 i v hv (by omega))
      · rw [if_neg (by omega), if_neg c3] at hu
        refine hS (i - 1) u v hu ?_
        rw [show i - 1 + 1 = i by omega]; exact hv
theorem accP_adj {lt : α → α → Bool} (hs : ∀ a b, lt a b = true → lt b a = false) (Q : List (α × β)) : ∀ j, j ≤ Q.length → Adj lt (accP lt Q j)
  | 0, _ => fun i x y h => by simp [accP] at h
  | j + 1, hj => by
    have ih := accP_adj hs Q j (by omega)
    have hl := accP_len lt Q j (by omega)
    simp only [accP, List.getElem?_eq_getElem (show j < Q.length by omega)]
    have sp := posP_spec lt (accP lt Q j) Q[j].1 j (by omega)
    have hle := posP_le lt (accP lt Q j) Q[j].1 j
    exact insP_adj hs ih _ (by omega) (fun i y h h1 => sp.1 i y h h1 (by have := (List.getElem?_eq_some_iff.1 h).1; omega)) sp.2
/-- What is sorted stays. -/
theorem accP_self {lt : α → α → Bool} {Q : List (α × β)} (h : Adj lt Q) : ∀ j, j ≤ Q.length → accP lt Q j = Q.take j
  | 0, _ => rfl
  | j + 1, hj => by
    have ih := accP_self h j (by omega)
    have hlt : j < Q.length := by omega
    simp only [accP, List.getElem?_eq_getElem hlt]
    have hp : posP lt (accP lt Q j) Q[j].1 j = j := by
      rw [ih]
      cases j with
      | zero => rfl
      | succ k =>
        have hg : (Q.take (k + 1))[k]? = some Q[k] := by rw [List.getElem?_take, if_pos (Nat.lt_succ_self _)]; exact List.getElem?_eq_getElem _
        simp only [posP, hg]
        rw [if_neg (by rw [h k Q[k] Q[k + 1] (List.getElem?_eq_getElem _) (List.getElem?_eq_getElem hlt)]; decide)]
    rw [hp, ih]
    unfold insP
    rw [List.take_of_length_le (by rw [List.length_take]; omega), List.drop_eq_nil_of_le (by rw [List.length_take]; omega), List.take_succ_eq_append_getElem hlt]
open Classical in
/-- The pairs of one name. -/
noncomputable def onlyP (k : α) (S : List (α × β)) : List (α × β) := S.filter fun x => decide (x.1 = k)
theorem onlyP_app (k : α) (S T : List (α × β)) : onlyP k (S ++ T) = onlyP k S ++ onlyP k T := by unfold onlyP; rw [List.filter_append]
open Classical in
theorem onlyP_none {k : α} {S : List (α × β)} (h : ∀ x ∈ S, x.1 ≠ k) : onlyP k S = [] := by
  unfold onlyP
  rw [List.filter_eq_nil_iff]
  intro x hx
  simpa using h x hx
open Classical in
theorem onlyP_one (k : α) (x : α × β) (S : List (α × β)) : onlyP k (x :: S) = if x.1 = k then x :: onlyP k S else onlyP k S := by
  unfold onlyP
  rw [List.filter_cons]
  by_cases e : x.1 = k <;> simp [e]
open Classical in
theorem accP_only {lt : α → α → Bool} (hi : ∀ a, lt a a = false) (Q : List (α × β)) (k : α) : ∀ j, j ≤ Q.length → onlyP k (accP lt Q j) = onlyP k (Q.take j)
  | 0, _ => rfl
  | j + 1, hj => by
    have ih := accP_only hi Q k j (by omega)
    have hlt : j < Q.length := by omega
    have hl := accP_len lt Q j (by omega)
    simp only [accP, List.getElem?_eq_getElem hlt]
    have sp := posP_spec lt (accP lt Q j) Q[j].1 j (by omega)
    have hle := posP_le lt (accP lt Q j) Q[j].1 j
    generalize posP lt (accP lt Q j) Q[j].1 j = p at sp hle
    rw [List.take_succ_eq_append_getElem hlt, onlyP_app, ← ih]
    unfold insP
    rw [onlyP_app, onlyP_one]
    conv => rhs; rw [← List.take_append_drop p (accP lt Q j), onlyP_app]
    have e1 : onlyP k [Q[j]] = if Q[j].1 = k then [Q[j]] else [] := by rw [onlyP_one]; simp [onlyP]
    rw [e1]
    by_cases e : Q[j].1 = k
    · rw [if_pos e, if_pos e]
      have hd : onlyP k ((accP lt Q j).drop p) = [] := onlyP_none fun x hx hk => by
        obtain ⟨i, hi2, rfl⟩ := List.getElem_of_mem hx
        rw [List.length_drop] at hi2
        rw [List.getElem_drop] at hk
        have := sp.1 (p + i) _ (List.getElem?_eq_getElem (by omega)) (by omega) (by omega)
        rw [hk, ← e, hi] at this
        cases this
      rw [hd]
      simp
    · rw [if_neg e, if_neg e, List.append_nil]
open Classical in
/-- Two sorted rows with the same pairs of each name are one. -/
theorem sorted_one {lt : α → α → Bool} {N : α → Prop} (ht : ∀ a b, N a → N b → lt a b = false → lt b a = false → a = b) : ∀ (S T : List (α × β)), (∀ x ∈ S, N x.1) → (∀ x ∈ T, N x.1) →
    S.Pairwise (fun x y => lt y.1 x.1 = false) → T.Pairwise (fun x y => lt y.1 x.1 = false) → (∀ k, onlyP k S = onlyP k T) → S = T
  | [], T, _, _, _, _, h => by
    cases T with
    | nil => rfl
    | cons y T => have := h y.1; rw [onlyP_one, if_pos rfl] at this; cases this
  | x :: S, [], _, _, _, _, h => by have := h x.1; rw [onlyP_one, if_pos rfl] at this; cases this
  | x :: S, y :: T, hS, hT, pS, pT, h => by
    have pS2 := List.pairwise_cons.1 pS
    have pT2 := List.pairwise_cons.1 pT
    have memT : ∀ z ∈ x :: S, z ∈ y :: T := fun z hz => by
      have h1 : z ∈ onlyP z.1 (x :: S) := by unfold onlyP; exact List.mem_filter.2 ⟨hz, by simp⟩
      rw [h z.1] at h1
      unfold onlyP at h1
      exact (List.mem_filter.1 h1).1
    have memS : ∀ z ∈ y :: T, z ∈ x :: S := fun z hz => by
      have h1 : z ∈ onlyP z.1 (y :: T) := by unfold onlyP; exact List.mem_filter.2 ⟨hz, by simp⟩
      rw [← h z.1] at h1
      unfold onlyP at h1
      exact (List.mem_filter.1 h1).1
    have hxy : x.1 = y.1 := by
      rcases List.mem_cons.1 (memT x List.mem_cons_self) with e | e
      · rw [e]
      · rcases List.mem_cons.1 (memS y List.mem_cons_self) with e2 | e2
        · rw [e2]
        · exact ht _ _ (hS x List.mem_cons_self) (hT y List.mem_cons_self) (pT2.1 x e) (pS2.1 y e2)
    have hk := h x.1
    rw [onlyP_one, onlyP_one, if_pos rfl, if_pos hxy.symm] at hk
    obtain ⟨rfl, hk2⟩ := List.cons.inj hk
    congr 1
    refine sorted_one ht S T (fun z hz => hS z (List.mem_cons_of_mem _ hz)) (fun z hz => hT z (List.mem_cons_of_mem _ hz)) pS2.2 pT2.2 fun k => ?_
    have h3 := h k
    rw [onlyP_one, onlyP_one] at h3
    by_cases e : x.1 = k
    · rw [if_pos e, if_pos e] at h3; exact (List.cons.inj h3).2
    · rw [if_neg e, if_neg e] at h3; exact h3
theorem adj_pairwise {lt : α → α → Bool} {N : α → Prop} (htr : ∀ a b c, N a → N b → N c → lt b a = false → lt c b = false → lt c a = false) : ∀ (S : List (α × β)), (∀ x ∈ S, N x.1) → Adj lt S → S.Pairwise (fun x y => lt y.1 x.1 = false)
  | [], _, _ => List.Pairwise.nil
  | x :: S, hN, hA => by
    have hA2 : Adj lt S := fun i u v hu hv => hA (i + 1) u v (by simpa using hu) (by simpa using hv)
    have ih := adj_pairwise htr S (fun z hz => hN z (List.mem_cons_of_mem _ hz)) hA2
    refine List.pairwise_cons.2 ⟨fun y hy => ?_, ih⟩
    cases S with
    | nil => cases hy
    | cons z S =>
      have h0 := hA 0 x z rfl rfl
      rcases List.mem_cons.1 hy with rfl | hy
      · exact h0
      · exact htr _ _ _ (hN x List.mem_cons_self) (hN z (by simp)) (hN y (by simp [hy])) h0 ((List.pairwise_cons.1 ih).1 y hy)
/-- A sort ahead of another one that respects the names does nothing. -/
theorem sort_sort {lt1 lt2 : α → α → Bool} {N : α → Prop} (hi1 : ∀ a, lt1 a a = false) (hi2 : ∀ a, lt2 a a = false) (hs2 : ∀ a b, lt2 a b = true → lt2 b a = false) (ht : ∀ a b, N a → N b → lt2 a b = false → lt2 b a = false → a = b)
    (htr : ∀ a b c, N a → N b → N c → lt2 b a = false → lt2 c b = false → lt2 c a = false) (Q : List (α × β)) (hN : ∀ x ∈ Q, N x.1) : accP lt2 (accP lt1 Q Q.length) Q.length = accP lt2 Q Q.length := by
  have hl := accP_len lt1 Q Q.length (Nat.le_refl _)
  have hm1 := accP_mem lt1 Q Q.length (Nat.le_refl _)
  have hm2 := accP_mem lt2 (accP lt1 Q Q.length) Q.length (by omega)
  have hm3 := accP_mem lt2 Q Q.length (Nat.le_refl _)
  have hN2 : ∀ x ∈ accP lt2 (accP lt1 Q Q.length) Q.length, N x.1 := fun x hx => hN x (hm1 x (hm2 x hx))
  have hN3 : ∀ x ∈ accP lt2 Q Q.length, N x.1 := fun x hx => hN x (hm3 x hx)
  refine sorted_one ht _ _ hN2 hN3 (adj_pairwise htr _ hN2 (accP_adj hs2 _ _ (by omega))) (adj_pairwise htr _ hN3 (accP_adj hs2 _ _ (Nat.le_refl _))) fun k => ?_
  rw [accP_only hi2 _ k _ (by omega), accP_only hi2 _ k _ (Nat.le_refl _), List.take_of_length_le (by omega), accP_only hi1 _ k _ (Nat.le_refl _)]
end
end Go.Proofs.YtmnlkedacnemcaaGreatDoor

namespace Go.Proofs.YtmnlkedacnemcaaGreatDoor
open Go.RowKit

/-- The order of names that have no trees below them. -/
def lessV (a b : Tr) : Bool := decide (a.k < b.k) || (decide (a.k = b.k) && (decide (a.n < b.n) || (decide (a.n = b.n) && (decide (a.x < b.x) || (decide (a.x = b.x) && ltB a.s.data.toList b.s.data.toList)))))
noncomputable def posV {α : Type} (f : α → Tr) (s : List α) (a : α) : Nat → Nat
  | 0 => 0
  | k + 1 => match s[2 * k]? with
    | none => k + 1
    | some y => if lessV (f a) (f y) = true then posV f s a k else k + 1
noncomputable def accV {α : Type} (f : α → Tr) (X : List α) : Nat → List α
  | 0 => []
  | j + 1 => match X[2 * j]?, X[2 * j + 1]? with
    | some a, some b => insG (accV f X j) a b (posV f (accV f X j) a j)
    | _, _ => accV f X j
theorem posV_map {α : Type} (f : α → Tr) (s : List α) (a : α) : ∀ k, posV id (s.map f) (f a) k = posV f s a k
  | 0 => rfl
  | k + 1 => by
    simp only [posV, List.getElem?_map]
    cases s[2 * k]? with
    | none => rfl
    | some y => simp only [Option.map_some, id]; rw [posV_map f s a k]
theorem accV_map {α : Type} (f : α → Tr) (X : List α) : ∀ j, (accV f X j).map f = accV id (X.map f) j
  | 0 => rfl
  | j + 1 => by
    simp only [accV, List.getElem?_map]
    cases X[2 * j]? with
    | none => simp only [Option.map_none]; exact accV_map f X j
    | some a =>
      cases X[2 * j + 1]? with
      | none => simp only [Option.map_none]; exact accV_map f X j
      | some b =>
        simp only [Option.map_some]
        rw [insG_map, accV_map f X j, ← posV_map, accV_map f X j]
theorem posV_le {α : Type} (f : α → Tr) (s : List α) (a : α) : ∀ k, posV f s a k ≤ k
  | 0 => Nat.le_refl _
  | k + 1 => by
    simp only [posV]
    cases s[2 * k]? with
    | none => exact Nat.le_refl _
    | some y =>
      simp only []
      split
      · have := posV_le f s a k; omega
      · exact Nat.le_refl _
theorem posV_no {α : Type} {f : α → Tr} {s : List α} {a y : α} {k : Nat} (h : s[2 * k]? = some y) (hl : lessV (f a) (f y) = false) : posV f s a (k + 1) = k + 1 := by simp [posV, h, hl]
theorem posV_yes {α : Type} {f : α → Tr} {s : List α} {a y : α} {k : Nat} (h : s[2 * k]? = some y) (hl : lessV (f a) (f y) = true) : posV f s a (k + 1) = posV f s a k := by simp [posV, h, hl]
theorem accV_len {α : Type} (f : α → Tr) (X : List α) : ∀ j, 2 * j ≤ X.length → (accV f X j).length = 2 * j
  | 0, _ => rfl
  | j + 1, h => by
    have ih := accV_len f X j (by omega)
    simp only [accV, List.getElem?_eq_getElem (show 2 * j < X.length by omega), List.getElem?_eq_getElem (show 2 * j + 1 < X.length by omega)]
    rw [insG_len (by have := posV_le f (accV f X j) X[2 * j] j; omega), ih]; omega
theorem accV_succ {α : Type} {f : α → Tr} {X : List α} {j : Nat} (h : 2 * j + 1 < X.length) : accV f X (j + 1) = insG (accV f X j) X[2 * j] X[2 * j + 1] (posV f (accV f X j) X[2 * j] j) := by
  simp only [accV, List.getElem?_eq_getElem (show 2 * j < X.length by omega), List.getElem?_eq_getElem h]
theorem accV_perm {α : Type} (f : α → Tr) (X : List α) : ∀ j, 2 * j ≤ X.length → (accV f X j ++ X.drop (2 * j)).Perm X
  | 0, _ => by simp [accV]
  | j + 1, h => by
    have ih := accV_perm f X j (by omega)
    rw [accV_succ (by omega)]
    refine ((insG_perm _ _ _ _).append_right _).trans ?_
    refine List.Perm.trans ?_ ih
    have e : X.drop (2 * j) = X[2 * j] :: X[2 * j + 1] :: X.drop (2 * (j + 1)) := by
      rw [List.drop_eq_getElem_cons (show 2 * j < X.length by omega), List.drop_eq_getElem_cons (show 2 * j + 1 < X.length by omega)]
      rfl
    rw [e]
    simp only [List.cons_append]
    exact ((List.perm_middle).trans (List.Perm.cons _ List.perm_middle)).symm
theorem accV_one {α : Type} {f : α → Tr} {X : List α} (h : 2 ≤ X.length) : accV f X 1 ++ X.drop 2 = X := by
  rw [accV_succ (by omega)]
  simp only [accV, insG, posV, Nat.mul_zero, List.take_nil, List.drop_nil, List.nil_append, List.cons_append]
  conv => rhs; rw [← List.drop_zero (l := X), List.drop_eq_getElem_cons (show 0 < X.length by omega), List.drop_eq_getElem_cons (show 0 + 1 < X.length by omega)]
noncomputable def sortV (t : Tr) : Tr := if t.k = 10 ∧ t.l.length % 2 = 0 then ⟨t.k, t.n, t.x, t.s, accV id t.l (t.l.length / 2)⟩ else t
theorem cmpB_anti : ∀ a b : List UInt8, Lib.compareBytes b a = - Lib.compareBytes a b
  | [], [] => rfl
  | [], _ :: _ => rfl
  | _ :: _, [] => rfl
  | a :: x, b :: y => by
    simp only [Lib.compareBytes]
    have h1 : a < b ↔ a.toNat < b.toNat := UInt8.lt_iff_toNat_lt
    have h2 : b < a ↔ b.toNat < a.toNat := UInt8.lt_iff_toNat_lt
    by_cases c1 : a < b
    · rw [if_pos c1, if_neg (by rw [h2]; rw [h1] at c1; omega), if_pos c1]; rfl
    · rw [if_neg c1]
      by_cases c2 : b < a
      · simp [c1, c2]
      · simp only [c1, c2, if_false]; exact cmpB_anti x y
theorem cmpB_zero : ∀ a b : List UInt8, Lib.compareBytes a b = 0 → a = b
  | [], [], _ => rfl
  | [], _ :: _, h => by simp [Lib.compareBytes] at h
  | _ :: _, [], h => by simp [Lib.compareBytes] at h
  | a :: x, b :: y, h => by
    simp only [Lib.compareBytes] at h
    have h1 : a < b ↔ a.toNat < b.toNat := UInt8.lt_iff_toNat_lt
    have h2 : b < a ↔ b.toNat < a.toNat := UInt8.lt_iff_toNat_lt
    by_cases c1 : a < b
    · rw [if_pos c1] at h; omega
    · rw [if_neg c1] at h
      by_cases c2 : b < a
      · rw [if_pos c2] at h; omega
      · rw [if_neg c2] at h
        have : a = b := UInt8.toNat_inj.1 (by rw [h1] at c1; rw [h2] at c2; omega)
        rw [this, cmpB_zero x y h]
theorem cmpB_trans : ∀ a b c : List UInt8, Lib.compareBytes a b ≤ 0 → Lib.compareBytes b c ≤ 0 → Lib.compareBytes a c ≤ 0
  | [], _, [], _, _ => by simp [Lib.compareBytes]
  | [], _, _ :: _, _, _ => by simp [Lib.compareBytes]
  | _ :: _, [], _, h, _ => by simp [Lib.compareBytes] at h
  | _ :: _, _ :: _, [], _, h => by simp [Lib.compareBytes] at h
  | a :: x, b :: y, c :: z, h, k => by
    simp only [Lib.compareBytes] at h k ⊢
    have h1 : a < b ↔ a.toNat < b.toNat := UInt8.lt_iff_toNat_lt
    have h2 : b < a ↔ b.toNat < a.toNat := UInt8.lt_iff_toNat_lt
    have h3 : b < c ↔ b.toNat < c.toNat := UInt8.lt_iff_toNat_lt
    have h4 : c < b ↔ c.toNat < b.toNat := UInt8.lt_iff_toNat_lt
    have h5 : a < c ↔ a.toNat < c.toNat := UInt8.lt_iff_toNat_lt
    have h6 : c < a ↔ c.toNat < a.toNat := UInt8.lt_iff_toNat_lt
    simp only [h1, h2] at h
    simp only [h3, h4] at k
    simp only [h5, h6]
    by_cases c1 : a.toNat < b.toNat
    · by_cases c3 : b.toNat < c.toNat
      · rw [if_pos (by omega)]; omega
      · rw [if_neg c3] at k
        by_cases c4 : c.toNat < b.toNat
        · rw [if_pos c4] at k; omega
        · rw [if_pos (by omega)]; omega
    · rw [if_neg c1] at h
      by_cases c2 : b.toNat < a.toNat
      · rw [if_pos c2] at h; omega
      · rw [if_neg c2] at h
        by_cases c3 : b.toNat < c.toNat
        · rw [if_pos (by omega)]; omega
        · rw [if_neg c3] at k
          by_cases c4 : c.toNat < b.toNat
          · rw [if_pos c4] at k; omega
          · rw [if_neg c4] at k
            rw [if_neg (by omega), if_neg (by omega)]
            exact cmpB_trans x y z h k
theorem cmpB_self (a : List UInt8) : Lib.compareBytes a a = 0 := by have := cmpB_anti a a; omega
theorem ltB_self (a : List UInt8) : ltB a a = false := by unfold ltB; rw [cmpB_self]; rfl
theorem ltB_asym {a b : List UInt8} (h : ltB a b = true) : ltB b a = false := by
  unfold ltB at *
  have h1 := of_decide_eq_true h
  have := cmpB_anti a b
  exact decide_eq_false (by omega)
theorem lessT_self (a : Tr) : lessT a a = false := ltB_self _
theorem lessT_asym (a b : Tr) (h : lessT a b = true) : lessT b a = false := ltB_asym h
theorem lessV_iff (a b : Tr) : lessV a b = true ↔ a.k < b.k ∨ (a.k = b.k ∧ (a.n < b.n ∨ (a.n = b.n ∧ (a.x < b.x ∨ (a.x = b.x ∧ Lib.compareBytes a.s.data.toList b.s.data.toList < 0))))) := by
  unfold lessV ltB
  simp only [Bool.or_eq_true, Bool.and_eq_true, decide_eq_true_eq]
theorem lessV_no (a b : Tr) : lessV a b = false ↔ ¬ (a.k < b.k ∨ (a.k = b.k ∧ (a.n < b.n ∨ (a.n = b.n ∧ (a.x < b.x ∨ (a.x = b.x ∧ Lib.compareBytes a.s.data.toList b.s.data.toList < 0)))))) := by
  rw [← lessV_iff]; cases lessV a b <;> simp
theorem lessV_self (a : Tr) : lessV a a = false := by
  rw [lessV_no, cmpB_self]; omega
theorem lessV_asym (a b : Tr) (h : lessV a b = true) : lessV b a = false := by
  rw [lessV_iff] at h
  rw [lessV_no]
  have := cmpB_anti a.s.data.toList b.s.data.toList
  omega
theorem lessV_total (a b : Tr) (ha : a.l = []) (hb : b.l = []) (h1 : lessV a b = false) (h2 : lessV b a = false) : a = b := by
  rw [lessV_no] at h1 h2
  have h3 := cmpB_anti a.s.data.toList b.s.data.toList
  have h4 : Lib.compareBytes a.s.data.toList b.s.data.toList = 0 := by omega
  have h5 := cmpB_zero _ _ h4
  obtain ⟨k, n, x, ⟨⟨s⟩⟩, l⟩ := a
  obtain ⟨k2, n2, x2, ⟨⟨s2⟩⟩, l2⟩ := b
  simp only at *
  subst ha hb h5
  have : k = k2 := by omega
  have : n = n2 := by omega
  have : x = x2 := by omega
  subst_vars
  rfl
theorem lessV_trans (a b c : Tr) (h1 : lessV b a = false) (h2 : lessV c b = false) : lessV c a = false := by
  rw [lessV_no] at *
  have e1 := cmpB_anti a.s.data.toList b.s.data.toList
  have e2 := cmpB_anti b.s.data.toList c.s.data.toList
  have e3 := cmpB_anti a.s.data.toList c.s.data.toList
  have e4 := cmpB_trans a.s.data.toList b.s.data.toList c.s.data.toList
  omega
/-- A row of pairs as a row. -/
def flatP : List (Tr × Tr) → List Tr
  | [] => []
  | x :: S => x.1 :: x.2 :: flatP S
def prs : List Tr → List (Tr × Tr)
  | a :: b :: r => (a, b) :: prs r
  | _ => []
theorem flat_prs : ∀ l : List Tr, l.length % 2 = 0 → flatP (prs l) = l
  | [], _ => rfl
  | [_], h => by simp at h
  | a :: b :: r, h => by simp only [prs, flatP]; rw [flat_prs r (by simp at h; omega)]
theorem flat_len : ∀ S : List (Tr × Tr), (flatP S).length = 2 * S.length
  | [] => rfl
  | x :: S => by simp only [flatP, List.length_cons, flat_len S]; omega
theorem flat_get : ∀ (S : List (Tr × Tr)) (k : Nat), (flatP S)[2 * k]? = (S[k]?).map Prod.fst ∧ (flatP S)[2 * k + 1]? = (S[k]?).map Prod.snd
  | [], k => by simp [flatP]
  | x :: S, 0 => by simp [flatP]
  | x :: S, k + 1 => by
    have ih := flat_get S k
    rw [show 2 * (k + 1) = 2 * k + 1 + 1 by omega]
    simp only [flatP, List.getElem?_cons_succ]
    exact ih
theorem flat_app : ∀ S T : List (Tr × Tr), flatP (S ++ T) = flatP S ++ flatP T
  | [], T => rfl
  | x :: S, T => by simp only [List.cons_append, flatP, flat_app S T]
theorem insG_flat (S : List (Tr × Tr)) (x : Tr × Tr) {p : Nat} (hp : p ≤ S.length) : insG (flatP S) x.1 x.2 p = flatP (insP S x p) := by
  have h1 : (flatP S).take (2 * p) = flatP (S.take p) := by
    conv => lhs; rw [← List.take_append_drop p S, flat_app]
    have hl : (flatP (S.take p)).length = 2 * p := by rw [flat_len, List.length_take]; omega
    rw [List.take_append_of_le_length (by omega), List.take_of_length_le (by omega)]
  have h2 : (flatP S).drop (2 * p) = flatP (S.drop p) := by
    conv => lhs; rw [← List.take_append_drop p S, flat_app]
    have hl : (flatP (S.take p)).length = 2 * p := by rw [flat_len, List.length_take]; omega
    rw [List.drop_append_of_le_length (by omega), List.drop_eq_nil_of_le (by omega), List.nil_append]
  unfold insG insP
  rw [h1, h2, flat_app]
  rfl
theorem posG_flat (S : List (Tr × Tr)) (a : Tr) : ∀ k, posG id (flatP S) a k = posP lessT S a k
  | 0 => rfl
  | k + 1 => by
    simp only [posG, posP, (flat_get S k).1]
    cases S[k]? with
    | none => rfl
    | some y => simp only [Option.map_some, id]; rw [posG_flat S a k]
theorem accG_flat (Q : List (Tr × Tr)) : ∀ j, j ≤ Q.length → accG id (flatP Q) j = flatP (accP lessT Q j)
  | 0, _ => rfl
  | j + 1, hj => by
    have ih := accG_flat Q j (by omega)
    have hl := accP_len lessT Q j (by omega)
    simp only [accG, accP, (flat_get Q j).1, (flat_get Q j).2, List.getElem?_eq_getElem (show j < Q.length by omega), Option.map_some]
    rw [ih, posG_flat]
    exact insG_flat _ Q[j] (Nat.le_trans (posP_le lessT (accP lessT Q j) Q[j].1 j) (Nat.le_of_eq hl.symm))
theorem posV_flat (S : List (Tr × Tr)) (a : Tr) : ∀ k, posV id (flatP S) a k = posP lessV S a k
  | 0 => rfl
  | k + 1 => by
    simp only [posV, posP, (flat_get S k).1]
    cases S[k]? with
    | none => rfl
    | some y => simp only [Option.map_some, id]; rw [posV_flat S a k]
theorem accV_flat (Q : List (Tr × Tr)) : ∀ j, j ≤ Q.length → accV id (flatP Q) j = flatP (accP lessV Q j)
  | 0, _ => rfl
  | j + 1, hj => by
    have ih := accV_flat Q j (by omega)
    have hl := accP_len lessV Q j (by omega)
    simp only [accV, accP, (flat_get Q j).1, (flat_get Q j).2, List.getElem?_eq_getElem (show j < Q.length by omega), Option.map_some]
    rw [ih, posV_flat]
    exact insG_flat _ Q[j] (Nat.le_trans (posP_le lessV (accP lessV Q j) Q[j].1 j) (Nat.le_of_eq hl.symm))
end Go.Proofs.YtmnlkedacnemcaaGreatDoor
