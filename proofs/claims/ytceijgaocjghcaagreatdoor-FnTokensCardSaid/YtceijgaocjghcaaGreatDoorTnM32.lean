/- TokenText: impl and spec. Lists of tokens in memory, and their texts joined: plain. -/
import Derived.Test.YtceijgaocjghcaaGreatDoorTnNumText
import Derived.Test.YtceijgaocjghcaaGreatDoorTnMarkVal
import Derived.Test.YtceijgaocjghcaaGreatDoorTnM10
import Derived.Lib.Join
set_option linter.unusedVariables false
set_option maxRecDepth 100000
set_option linter.unusedSimpArgs false
namespace Go.Proofs.YtceijgaocjghcaaGreatDoor
open Go.RowKit

/-- A token as text. -/
def tokL (k : Int) (s : List UInt8) (n x : Int) : List UInt8 :=
  if k = 1 ∨ k = 4 then s else if k = 2 then quoteL s else if k = 3 then (if x = 0 then numL n else numL n ++ (101 :: numL x)) else []
theorem tokL_len {k : Int} {s : List UInt8} {n x : Int} (hn : -9223372036854775808 ≤ n ∧ n ≤ 9223372036854775807) (hx : -9223372036854775808 ≤ x ∧ x ≤ 9223372036854775807) : (tokL k s n x).length ≤ 8 * s.length + 43 := by
  have h1 := quoteL_len s
  have h2 := numL_len hn
  have h3 := numL_len hx
  unfold tokL
  (repeat' split) <;> simp <;> omega
def tokV (k : Int) (s : ByteArray) (n x : Int) : Value := .agg #[.int .i64 k, .string s, .int .i64 n, .int .i64 x]
def tokC (k : Int) (s : ByteArray) (n x : Int) : Array Value := #[.int .i64 k, .string s, .int .i64 n, .int .i64 x]
abbrev BoxT (w0 : World) (g : Nat) (n x : Int) (w' : World) : Prop := (w'.cell? ⟨g, 2, none⟩ = some (.int .i64 n) ∧ w'.cell? ⟨g, 3, none⟩ = some (.int .i64 x)) ∧ Below w0.heap.size w0 w'
theorem boxT {w0 w' : World} {g : Nat} {T : TypeId} {k : Int} {s : ByteArray} {n x : Int} (h : Blk w0 g T (tokC k s n x)) (hb : Below w0.heap.size w0 w') : BoxT w0 g n x w' := by
  have h2 := h.below hb h.lt
  exact ⟨⟨h2.cell 2, h2.cell 3⟩, hb⟩
theorem ba_str (s : ByteArray) : (⟨s.data.toList.toArray⟩ : ByteArray) = s := by apply ByteArray.ext; simp
set_option maxHeartbeats 2000000 in
theorem i_TokenText (k : Int) (s : ByteArray) (n x : Int) (w : World) (hs : s.size ≤ 1073741824) (hn : -9223372036854775808 ≤ n ∧ n ≤ 9223372036854775807) (hx : -9223372036854775808 ≤ x ∧ x ≤ 9223372036854775807) (hT : Lib.Utf8Tabs 1 2 w) (hP : PowT w) :
    Calls Tryz.prog 36 #[tokV k s n x] w fun e w' => e = .returned (.string ⟨(tokL k s.data.toList n x).toArray⟩) ∧ Below w.heap.size w w' := by
  unfold tokV tokL
  have hb0 : Below w.heap.size w (w.alloc (.cells (tokC k s n x) 31)) := Below.one w _
  have hB : Blk (w.alloc (.cells (tokC k s n x) 31)) w.heap.size 31 (tokC k s n x) := Blk.new w _ _
  have b0 := hB.cell 0
  have b1 := hB.cell 1
  have b2 := hB.cell 2
  have b3 := hB.cell 3
  by_cases h1 : k = 1 ∨ k = 4
  · rw [if_pos h1, ba_str]
    clear b0 b1 b2 b3 hB
    rcases h1 with rfl | rfl
    all_goals
      go_enter Tryz.func36, Tryz.ntmps36
      go_wp2_with fail
      go_ret
      exact ⟨rfl, hb0⟩
  rw [if_neg h1]
  have k1 : (k == 1) = false := by simp; omega
  have k4 : (k == 4) = false := by simp; omega
  by_cases h2 : k = 2
  · subst h2
    rw [if_pos rfl]
    have hq : ∀ w', Below (w.alloc (.cells (tokC 2 s n x) 31)).heap.size (w.alloc (.cells (tokC 2 s n x) 31)) w' → Calls Tryz.prog 71 #[.string s] w' fun e w2 => e = .returned (.string ⟨(quoteL s.data.toList).toArray⟩) ∧ Below w'.heap.size w' w2 := fun w' hb => i_Quote s w' hs (Utf8Tabs_below (Utf8Tabs_below hT hb0) hb)
    have hq0 := hq _ (Below.refl _ _)
    clear b0 b1 b2 b3 hB hq k1 k4 h1
    generalize quoteL s.data.toList = q at hq0 ⊢
    go_enter Tryz.func36, Tryz.ntmps36
    go_wp2_with (go_at_call 71; refine hq0.mono ?_; rintro e w2 ⟨rfl, hb2⟩)
    go_ret
    exact ⟨rfl, hb0.up hb2⟩
  rw [if_neg h2]
  have k2 : (k == 2) = false := by simp; omega
  by_cases h3 : k = 3
  · subst h3
    rw [if_pos rfl]
    have hln := numL_len hn
    have hlx := numL_len hx
    have hN : ∀ (z : Int) (w' : World), (-9223372036854775808 ≤ z ∧ z ≤ 9223372036854775807) → BoxT (w.alloc (.cells (tokC 3 s n x) 31)) w.heap.size n x w' → Calls Tryz.prog 72 #[.int .i64 z] w' fun e w2 => e = .returned (.string ⟨(numL z).toArray⟩) ∧ Below w'.heap.size w' w2 := fun z w' hz hS => i_NumText z w' hz ((hP.below hb0).below hS.2)
    have hS0 := fun (w' : World) (hb : Below (w.alloc (.cells (tokC 3 s n x) 31)).heap.size (w.alloc (.cells (tokC 3 s n x) 31)) w') => boxT hB hb
    have hS2 := fun (w' w'' : World) (h : BoxT (w.alloc (.cells (tokC 3 s n x) 31)) w.heap.size n x w') (hb : Below w'.heap.size w' w'') => hS0 w'' (h.2.up hb)
    by_cases hx0 : x = 0
    · subst hx0
      rw [if_pos rfl]
      have hn1 := hN n _ hn (hS0 _ (Below.refl _ _))
      clear hS0 hS2 hN h1 h2 k1 k2 k4 hlx b0 b1 b2 b3
      go_enter Tryz.func36, Tryz.ntmps36
      go_wp2_with (go_at_call 72; refine hn1.mono ?_; rintro e w2 ⟨rfl, hb2⟩)
      go_ret
      exact ⟨rfl, hb0.up hb2⟩
    · rw [if_neg hx0]
      have hxb : (x == 0) = false := by simpa using hx0
      have hxc : (x != 0) = true := by simp only [bne, hxb]; rfl
      clear h1 h2 k1 k2 k4 b0 b1 b2 b3 hx0 hB
      unfold tokC at hN hS0 hS2 hb0
      have c1 : ∀ w', (Op.stringOp .add ⟨(numL n).toArray⟩ ⟨#[101]⟩).run Tryz.prog w' = .ok (.string ⟨(numL n ++ [101]).toArray⟩) w' := fun w' => (run_string_add_sum (P := Tryz.prog) (w := w') _ _ (by show (numL n).toArray.size + 1 ≤ _; simp; omega)).trans (by rw [← ba_add])
      have c2 : ∀ w', (Op.stringOp .add ⟨(numL n ++ [101]).toArray⟩ ⟨(numL x).toArray⟩).run Tryz.prog w' = .ok (.string ⟨(numL n ++ [101] ++ numL x).toArray⟩) w' := fun w' => (run_string_add_sum (P := Tryz.prog) (w := w') _ _ (by show (numL n ++ [101]).toArray.size + (numL x).toArray.size ≤ _; simp; omega)).trans (by rw [ba_add])
      go_enter Tryz.func36, Tryz.ntmps36
      go_wp2_with fail
      go_region_held3 (fun w' => BoxT (w.alloc (.cells #[.int .i64 3, .string s, .int .i64 n, .int .i64 x] 31)) w.heap.size n x w')
        (first | exact hS0 _ (Below.refl _ _).drew | (refine hS2 _ _ ?_ hbA; assumption))
        (first
          | (go_at_call 72; refine (hN _ _ (by assumption) (by assumption)).mono ?_; rintro r w6 ⟨rfl, hbA⟩))
      rename_i hHeld
      have kb := hb0.up hHeld.2
      clear hS0 hS2 hN hHeld
      go_wp2_with fail
      go_ret
      exact ⟨ret_str (by simp), kb⟩
  rw [if_neg h3]
  have k3 : (k == 3) = false := by simp; omega
  clear b0 b1 b2 b3 hB h1 h2 h3
  go_enter Tryz.func36, Tryz.ntmps36
  go_wp2_with fail
  go_ret
  exact ⟨rfl, hb0⟩
set_option maxHeartbeats 2000000 in
theorem s_TokenText (k : Int) (s : ByteArray) (n x : Int) (w : World) (hs : s.size ≤ 1073741824) (hn : -9223372036854775808 ≤ n ∧ n ≤ 9223372036854775807) (hx : -9223372036854775808 ≤ x ∧ x ≤ 9223372036854775807) :
    Calls Tryz.prog 37 #[tokV k s n x] w fun e w' => e = .returned (.string ⟨(tokL k s.data.toList n x).toArray⟩) ∧ Below w.heap.size w w' := by
  unfold tokV tokL
  have hb0 : Below w.heap.size w (w.alloc (.cells (tokC k s n x) 31)) := Below.one w _
  have hB : Blk (w.alloc (.cells (tokC k s n x) 31)) w.heap.size 31 (tokC k s n x) := Blk.new w _ _
  have b0 := hB.cell 0
  have b1 := hB.cell 1
  have b2 := hB.cell 2
  have b3 := hB.cell 3
  by_cases h1 : k = 1 ∨ k = 4
  · rw [if_pos h1, ba_str]
    clear b0 b1 b2 b3 hB
    rcases h1 with rfl | rfl
    all_goals
      go_enter Tryz.func37, Tryz.ntmps37
      go_wp2_with fail
      go_ret
      exact ⟨rfl, hb0⟩
  rw [if_neg h1]
  have k1 : (k == 1) = false := by simp; omega
  have k4 : (k == 4) = false := by simp; omega
  by_cases h2 : k = 2
  · subst h2
    rw [if_pos rfl]
    have hq : ∀ w', Below (w.alloc (.cells (tokC 2 s n x) 31)).heap.size (w.alloc (.cells (tokC 2 s n x) 31)) w' → Calls Tryz.prog 73 #[.string s] w' fun e w2 => e = .returned (.string ⟨(quoteL s.data.toList).toArray⟩) ∧ Below w'.heap.size w' w2 := fun w' hb => s_Quote s w' hs
    have hq0 := hq _ (Below.refl _ _)
    clear b0 b1 b2 b3 hB hq k1 k4 h1
    generalize quoteL s.data.toList = q at hq0 ⊢
    go_enter Tryz.func37, Tryz.ntmps37
    go_wp2_with (go_at_call 73; refine hq0.mono ?_; rintro e w2 ⟨rfl, hb2⟩)
    go_ret
    exact ⟨rfl, hb0.up hb2⟩
  rw [if_neg h2]
  have k2 : (k == 2) = false := by simp; omega
  by_cases h3 : k = 3
  · subst h3
    rw [if_pos rfl]
    have hln := numL_len hn
    have hlx := numL_len hx
    have hN : ∀ (z : Int) (w' : World), (-9223372036854775808 ≤ z ∧ z ≤ 9223372036854775807) → BoxT (w.alloc (.cells (tokC 3 s n x) 31)) w.heap.size n x w' → Calls Tryz.prog 74 #[.int .i64 z] w' fun e w2 => e = .returned (.string ⟨(numL z).toArray⟩) ∧ Below w'.heap.size w' w2 := fun z w' hz hS => s_NumText z w' hz
    have hS0 := fun (w' : World) (hb : Below (w.alloc (.cells (tokC 3 s n x) 31)).heap.size (w.alloc (.cells (tokC 3 s n x) 31)) w') => boxT hB hb
    have hS2 := fun (w' w'' : World) (h : BoxT (w.alloc (.cells (tokC 3 s n x) 31)) w.heap.size n x w') (hb : Below w'.heap.size w' w'') => hS0 w'' (h.2.up hb)
    by_cases hx0 : x = 0
    · subst hx0
      rw [if_pos rfl]
      have hn1 := hN n _ hn (hS0 _ (Below.refl _ _))
      clear hS0 hS2 hN h1 h2 k1 k2 k4 hlx b0 b1 b2 b3
      go_enter Tryz.func37, Tryz.ntmps37
      go_wp2_with (go_at_call 74; refine hn1.mono ?_; rintro e w2 ⟨rfl, hb2⟩)
      go_ret
      exact ⟨rfl, hb0.up hb2⟩
    · rw [if_neg hx0]
      have hxb : (x == 0) = false := by simpa using hx0
      have hxc : (x != 0) = true := by simp only [bne, hxb]; rfl
      clear h1 h2 k1 k2 k4 b0 b1 b2 b3 hx0 hB
      unfold tokC at hN hS0 hS2 hb0
      have c1 : ∀ w', (Op.stringOp .add ⟨(numL n).toArray⟩ ⟨#[101]⟩).run Tryz.prog w' = .ok (.string ⟨(numL n ++ [101]).toArray⟩) w' := fun w' => (run_string_add_sum (P := Tryz.prog) (w := w') _ _ (by show (numL n).toArray.size + 1 ≤ _; simp; omega)).trans (by rw [← ba_add])
      have c2 : ∀ w', (Op.stringOp .add ⟨(numL n ++ [101]).toArray⟩ ⟨(numL x).toArray⟩).run Tryz.prog w' = .ok (.string ⟨(numL n ++ [101] ++ numL x).toArray⟩) w' := fun w' => (run_string_add_sum (P := Tryz.prog) (w := w') _ _ (by show (numL n ++ [101]).toArray.size + (numL x).toArray.size ≤ _; simp; omega)).trans (by rw [ba_add])
      go_enter Tryz.func37, Tryz.ntmps37
      go_wp2_with fail
      go_region_held3 (fun w' => BoxT (w.alloc (.cells #[.int .i64 3, .string s, .int .i64 n, .int .i64 x] 31)) w.heap.size n x w')
        (first | exact hS0 _ (Below.refl _ _).drew | (refine hS2 _ _ ?_ hbA; assumption))
        (first
          | (go_at_call 74; refine (hN _ _ (by assumption) (by assumption)).mono ?_; rintro r w6 ⟨rfl, hbA⟩))
      rename_i hHeld
      have kb := hb0.up hHeld.2
      clear hS0 hS2 hN hHeld
      go_wp2_with fail
      go_ret
      exact ⟨ret_str (by simp), kb⟩
  rw [if_neg h3]
  have k3 : (k == 3) = false := by simp; omega
  clear b0 b1 b2 b3 hB h1 h2 h3
  go_enter Tryz.func37, Tryz.ntmps37
  go_wp2_with fail
  go_ret
  exact ⟨rfl, hb0⟩
end Go.Proofs.YtceijgaocjghcaaGreatDoor

namespace Go.Proofs.YtceijgaocjghcaaGreatDoor
open Go.RowKit

structure Tk where
  k : Int
  s : ByteArray
  n : Int
  x : Int
def Tk.wf (t : Tk) : Prop := (-9223372036854775808 ≤ t.k ∧ t.k ≤ 9223372036854775807) ∧ t.s.size ≤ maxLen ∧ (-9223372036854775808 ≤ t.n ∧ t.n ≤ 9223372036854775807) ∧ (-9223372036854775808 ≤ t.x ∧ t.x ≤ 9223372036854775807)
def Tk.v (t : Tk) : Value := tokV t.k t.s t.n t.x
def Tk.txt (t : Tk) : List UInt8 := tokL t.k t.s.data.toList t.n t.x
def tkC : List Tk → List Value
  | [] => []
  | t :: l => .int .i64 t.k :: .string t.s :: .int .i64 t.n :: .int .i64 t.x :: tkC l
theorem tkC_len : ∀ l : List Tk, (tkC l).length = l.length * 4
  | [] => rfl
  | t :: l => by simp only [tkC, List.length_cons, tkC_len l]; omega
theorem tkC_get : ∀ (l : List Tk) (j : Nat) (h : j < l.length), (tkC l)[j * 4]? = some (.int .i64 l[j].k) ∧ (tkC l)[j * 4 + 1]? = some (.string l[j].s) ∧ (tkC l)[j * 4 + 2]? = some (.int .i64 l[j].n) ∧ (tkC l)[j * 4 + 3]? = some (.int .i64 l[j].x)
  | [], j, h => by cases h
  | t :: l, 0, h => ⟨rfl, rfl, rfl, rfl⟩
  | t :: l, j + 1, h => by
    have ih := tkC_get l j (by simpa using h)
    have e : ∀ i, (tkC (t :: l))[(j + 1) * 4 + i]? = (tkC l)[j * 4 + i]? := fun i => by
      rw [show (j + 1) * 4 + i = (j * 4 + i) + 1 + 1 + 1 + 1 by omega]
      rfl
    exact ⟨(e 0).trans ih.1, (e 1).trans ih.2.1, (e 2).trans ih.2.2.1, (e 3).trans ih.2.2.2⟩
theorem Sl.tok {w : World} {B n c : Nat} {A : Option Addr} {l : List Tk} (h : Sl w B 4 A n c (tkC l)) {j : Nat} (hj : j < n) :
    ∃ g o, ∃ hl : j < l.length, A = some ⟨g, o, none⟩ ∧ g < B ∧ w.cell? ⟨g, o + j * 4, none⟩ = some (.int .i64 l[j].k) ∧ w.cell? ⟨g, o + j * 4 + 1, none⟩ = some (.string l[j].s) ∧ w.cell? ⟨g, o + j * 4 + 2, none⟩ = some (.int .i64 l[j].n) ∧ w.cell? ⟨g, o + j * 4 + 3, none⟩ = some (.int .i64 l[j].x) := by
  have hl : j < l.length := by have := h.len; rw [tkC_len] at this; omega
  obtain ⟨g, o, e, hg, hc⟩ := h.at_ (by omega)
  obtain ⟨a, b, c2, d⟩ := tkC_get l j hl
  exact ⟨g, o, hl, e, hg, hc _ _ a, by rw [Nat.add_assoc]; exact hc _ _ b, by rw [Nat.add_assoc]; exact hc _ _ c2, by rw [Nat.add_assoc]; exact hc _ _ d⟩
theorem Sl.tklen {w : World} {B n c : Nat} {A : Option Addr} {l : List Tk} (h : Sl w B 4 A n c (tkC l)) : l.length = n := by have := h.len; rw [tkC_len] at this; omega
/-- What the tokens hold: one each, and their letters. -/
def szK (l : List Tk) : Nat := (l.map fun t => 1 + t.s.size).sum
theorem szK_nil : szK [] = 0 := rfl
theorem szK_cons (t : Tk) (l : List Tk) : szK (t :: l) = 1 + t.s.size + szK l := by simp [szK]
theorem szK_mem : ∀ {l : List Tk} {t : Tk}, t ∈ l → 1 + t.s.size ≤ szK l
  | u :: l, t, h => by
    rw [szK_cons]
    rcases List.mem_cons.1 h with rfl | h
    · omega
    · have := szK_mem h; omega
theorem szK_snoc (l : List Tk) (t : Tk) : szK (l ++ [t]) = szK l + (1 + t.s.size) := by simp [szK]
theorem szK_take (l : List Tk) (j : Nat) (h : j < l.length) : szK (l.take (j + 1)) = szK (l.take j) + (1 + l[j].s.size) := by rw [List.take_succ_eq_append_getElem h, szK_snoc]
theorem szK_le (l : List Tk) (j : Nat) : szK (l.take j) ≤ szK l := by
  have : szK l = szK (l.take j) + szK (l.drop j) := by
    unfold szK
    rw [← List.sum_append, ← List.map_append, List.take_append_drop]
  omega
/-- The texts of the tokens, a blank between them. -/
def joinT (l : List Tk) : List UInt8 := Lib.join (l.map Tk.txt) [32]
theorem join_snoc (xs : List (List UInt8)) (y sep : List UInt8) : Lib.join (xs ++ [y]) sep = if xs = [] then y else Lib.join xs sep ++ (sep ++ y) := by
  cases xs with
  | nil => rw [if_pos rfl]; exact Lib.join_one y sep
  | cons a r =>
    rw [if_neg (by simp), List.cons_append, Lib.join_cons, Lib.join_cons]
    unfold Lib.joinTail
    simp
theorem joinT_snoc (l : List Tk) (t : Tk) : joinT (l ++ [t]) = if l = [] then t.txt else joinT l ++ ([32] ++ t.txt) := by
  unfold joinT
  rw [List.map_append, List.map_cons, List.map_nil, join_snoc]
  cases l <;> simp
theorem txt_len {t : Tk} (h : t.wf) : t.txt.length ≤ 8 * t.s.size + 43 := by
  have := tokL_len (k := t.k) (s := t.s.data.toList) h.2.2.1 h.2.2.2
  rw [blen_of] at this
  exact this
theorem joinT_take_len (l : List Tk) (h : ∀ t ∈ l, t.wf) : ∀ j, j ≤ l.length → (joinT (l.take j)).length ≤ 44 * szK (l.take j)
  | 0, _ => by rw [List.take_zero]; exact Nat.zero_le _
  | j + 1, hj => by
    have ih := joinT_take_len l h j (by omega)
    have ht := txt_len (h l[j] (List.getElem_mem _))
    rw [szK_take l j (by omega), List.take_succ_eq_append_getElem (by omega), joinT_snoc]
    split
    · omega
    · simp only [List.length_append, List.length_cons, List.length_nil]; omega
theorem joinT_len (l : List Tk) (h : ∀ t ∈ l, t.wf) : (joinT l).length ≤ 44 * szK l := by
  have := joinT_take_len l h l.length (Nat.le_refl _)
  rwa [List.take_length] at this
end Go.Proofs.YtceijgaocjghcaaGreatDoor
