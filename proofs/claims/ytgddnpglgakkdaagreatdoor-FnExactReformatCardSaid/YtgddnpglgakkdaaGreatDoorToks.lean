/- Lists of tokens in memory, and their texts joined: plain. -/
import Derived.Test.YtgddnpglgakkdaaGreatDoorTokText
import Derived.Test.YtgddnpglgakkdaaGreatDoorGr
import Derived.Lib.Join
set_option linter.unusedVariables false
set_option maxRecDepth 100000
set_option linter.unusedSimpArgs false
namespace Go.Proofs.YtgddnpglgakkdaaGreatDoor
open Go.RowKit

structure Tk where
  k : Int
  s : ByteArray
  n : Int
  x : Int
def Tk.wf (t : Tk) : Prop := (-9223372036854775808 ≤ t.k ∧ t.k ≤ 9223372036854775807) ∧ t.s.size ≤ maxLen ∧ (-9223372036854775808 ≤ t.n ∧ t.n ≤ 9223372036854775807) ∧ (-9223372036854775808 ≤ t.x ∧ t.x ≤ 9223372036854775807)
def Tk.v (t : Tk) : Value := tokV t.k t.s t.n t.x
def Tk.txt (t : Tk) : List UInt8 := tokL t.k t.s.data.toList t.n t.x
def tkC : List Tk → List Value
  | [] => []
  | t :: l => .int .i64 t.k :: .string t.s :: .int .i64 t.n :: .int .i64 t.x :: tkC l
theorem tkC_len : ∀ l : List Tk, (tkC l).length = l.length * 4
  | [] => rfl
  | t :: l => by simp only [tkC, List.length_cons, tkC_len l]; omega
theorem tkC_get : ∀ (l : List Tk) (j : Nat) (h : j < l.length), (tkC l)[j * 4]? = some (.int .i64 l[j].k) ∧ (tkC l)[j * 4 + 1]? = some (.string l[j].s) ∧ (tkC l)[j * 4 + 2]? = some (.int .i64 l[j].n) ∧ (tkC l)[j * 4 + 3]? = some (.int .i64 l[j].x)
  | [], j, h => by cases h
  | t :: l, 0, h => ⟨rfl, rfl, rfl, rfl⟩
  | t :: l, j + 1, h => by
    have ih := tkC_get l j (by simpa using h)
    have e : ∀ i, (tkC (t :: l))[(j + 1) * 4 + i]? = (tkC l)[j * 4 + i]? := fun i => by
      rw [show (j + 1) * 4 + i = (j * 4 + i) + 1 + 1 + 1 + 1 by omega]
      rfl
    exact ⟨(e 0).trans ih.1, (e 1).trans ih.2.1, (e 2).trans ih.2.2.1, (e 3).trans ih.2.2.2⟩
theorem Sl.tok {w : World} {B n c : Nat} {A : Option Addr} {l : List Tk} (h : Sl w B 4 A n c (tkC l)) {j : Nat} (hj : j < n) :
    ∃ g o, ∃ hl : j < l.length, A = some ⟨g, o, none⟩ ∧ g < B ∧ w.cell? ⟨g, o + j * 4, none⟩ = some (.int .i64 l[j].k) ∧ w.cell? ⟨g, o + j * 4 + 1, none⟩ = some (.string l[j].s) ∧ w.cell? ⟨g, o + j * 4 + 2, none⟩ = some (.int .i64 l[j].n) ∧ w.cell? ⟨g, o + j * 4 + 3, none⟩ = some (.int .i64 l[j].x) := by
  have hl : j < l.length := by have := h.len; rw [tkC_len] at this; omega
  obtain ⟨g, o, e, hg, hc⟩ := h.at_ (by omega)
  obtain ⟨a, b, c2, d⟩ := tkC_get l j hl
  exact ⟨g, o, hl, e, hg, hc _ _ a, by rw [Nat.add_assoc]; exact hc _ _ b, by rw [Nat.add_assoc]; exact hc _ _ c2, by rw [Nat.add_assoc]; exact hc _ _ d⟩
theorem Sl.tklen {w : World} {B n c : Nat} {A : Option Addr} {l : List Tk} (h : Sl w B 4 A n c (tkC l)) : l.length = n := by have := h.len; rw [tkC_len] at this; omega
/-- What the tokens hold: one each, and their letters. -/
def szK (l : List Tk) : Nat := (l.map fun t => 1 + t.s.size).sum
theorem szK_nil : szK [] = 0 := rfl
theorem szK_cons (t : Tk) (l : List Tk) : szK (t :: l) = 1 + t.s.size + szK l := by simp [szK]
theorem szK_mem : ∀ {l : List Tk} {t : Tk}, t ∈ l → 1 + t.s.size ≤ szK l
  | u :: l, t, h => by
    rw [szK_cons]
    rcases List.mem_cons.1 h with rfl | h
    · omega
    · have := szK_mem h; omega
theorem szK_snoc (l : List Tk) (t : Tk) : szK (l ++ [t]) = szK l + (1 + t.s.size) := by simp [szK]
theorem szK_take (l : List Tk) (j : Nat) (h : j < l.length) : szK (l.take (j + 1)) = szK (l.take j) + (1 + l[j].s.size) := by rw [List.take_succ_eq_append_getElem h, szK_snoc]
theorem szK_le (l : List Tk) (j : Nat) : szK (l.take j) ≤ szK l := by
  have : szK l = szK (l.take j) + szK (l.drop j) := by
    unfold szK
    rw [← List.sum_append, ← List.map_append, List.take_append_drop]
  omega
/-- The texts of the tokens, a blank between them. -/
def joinT (l : List Tk) : List UInt8 := Lib.join (l.map Tk.txt) [32]
theorem join_snoc (xs : List (List UInt8)) (y sep : List UInt8) : Lib.join (xs ++ [y]) sep = if xs = [] then y else Lib.join xs sep ++ (sep ++ y) := by
  cases xs with
  | nil => rw [if_pos rfl]; exact Lib.join_one y sep
  | cons a r =>
    rw [if_neg (by simp), List.cons_append, Lib.join_cons, Lib.join_cons]
    unfold Lib.joinTail
    simp
theorem joinT_snoc (l : List Tk) (t : Tk) : joinT (l ++ [t]) = if l = [] then t.txt else joinT l ++ ([32] ++ t.txt) := by
  unfold joinT
  rw [List.map_append, List.map_cons, List.map_nil, join_snoc]
  cases l <;> simp
theorem txt_len {t : Tk} (h : t.wf) : t.txt.length ≤ 8 * t.s.size + 43 := by
  have := tokL_len (k := t.k) (s := t.s.data.toList) h.2.2.1 h.2.2.2
  rw [blen_of] at this
  exact this
theorem joinT_take_len (l : List Tk) (h : ∀ t ∈ l, t.wf) : ∀ j, j ≤ l.length → (joinT (l.take j)).length ≤ 44 * szK (l.take j)
  | 0, _ => by rw [List.take_zero]; exact Nat.zero_le _
  | j + 1, hj => by
    have ih := joinT_take_len l h j (by omega)
    have ht := txt_len (h l[j] (List.getElem_mem _))
    rw [szK_take l j (by omega), List.take_succ_eq_append_getElem (by omega), joinT_snoc]
    split
    · omega
    · simp only [List.length_append, List.length_cons, List.length_nil]; omega
theorem joinT_len (l : List Tk) (h : ∀ t ∈ l, t.wf) : (joinT l).length ≤ 44 * szK l := by
  have := joinT_take_len l h l.length (Nat.le_refl _)
  rwa [List.take_length] at this
end Go.Proofs.YtgddnpglgakkdaaGreatDoor
