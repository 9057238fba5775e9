/- append onto a row that came as an argument: the row's own block and new ones alone are written. Rows of trees that the call itself builds: append of one tree. -/
import Derived.Test.YtmnlkedacnemcaaGreatDoorTwM4
import Derived.Lib.AppendStr
import Derived.Test.YtmnlkedacnemcaaGreatDoorTwMarkVal
set_option linter.unusedVariables false
set_option maxRecDepth 100000
set_option linter.unusedSimpArgs false
namespace Go.Proofs.YtmnlkedacnemcaaGreatDoor
open Go.RowKit

/-- From w to w': the block of A and new blocks alone are written; A' lies in one of them. -/
structure Gr (A A' : Option Addr) (w w' : World) : Prop where
  fr : Fr (blkOf A) w w'
  own : ∀ g ∈ blkOf A', g ∈ blkOf A ∨ w.heap.size ≤ g
section
variable {A A1 A2 A' : Option Addr} {w w' w1 w2 : World} {lo n c : Nat} {b : List UInt8}
theorem Gr.trans (h : Gr A A1 w w1) (k : Gr A1 A2 w1 w2) : Gr A A2 w w2 :=
  ⟨⟨k.fr.os.trans h.fr.os, k.fr.tape.trans h.fr.tape, k.fr.output.trans h.fr.output, Nat.le_trans h.fr.size k.fr.size, fun i hi hn =>
    (k.fr.block i (Nat.lt_of_lt_of_le hi h.fr.size) fun h2 => by
      rcases h.own i h2 with h3 | h3
      · exact hn h3
      · exact Nat.lt_irrefl _ (Nat.lt_of_lt_of_le hi h3)).trans (h.fr.block i hi hn)⟩,
   fun g hg => by
    rcases k.own g hg with h2 | h2
    · exact h.own g h2
    · exact .inr (Nat.le_trans h.fr.size h2)⟩
theorem Gr.of_below (h : Below w.heap.size w w') : Gr A A w w' := ⟨Fr.of_below h, fun _ hg => .inl hg⟩
theorem Gr.refl (A : Option Addr) (w : World) : Gr A A w w := ⟨Fr.refl _ _, fun _ hg => .inl hg⟩
theorem Gr.below (h : Gr A A' w w') (hA : BS w lo A n c b) (hlo : lo ≤ w.heap.size) : Below lo w w' := h.fr.below hA.from_ hlo
theorem Gr.blk {g : Nat} {T : TypeId} {cs : Array Value} (h : Gr A A' w w') (hb : Blk w g T cs) (hg : g ∉ blkOf A) : Blk w' g T cs := (h.fr.block g hb.lt hg).trans hb
theorem Gr.size (h : Gr A A' w w') : w.heap.size ≤ w'.heap.size := h.fr.size
theorem Gr.notin (h : Gr A A' w w') {g : Nat} (hg : g ∉ blkOf A) (hl : g < w.heap.size) : g ∉ blkOf A' := fun h2 => by
  rcases h.own g h2 with h3 | h3
  · exact hg h3
  · exact Nat.lt_irrefl _ (Nat.lt_of_lt_of_le hl h3)
end
theorem ownBlock_blk (A : Option Addr) (n c : Nat) (g : Nat) : g ∈ blkOf A ↔ (Value.slice A n c).ownBlock = some g := by
  cases A with
  | none => simp [blkOf, Value.ownBlock]
  | some a => simp [blkOf, Value.ownBlock, eq_comm]
theorem gr_of {A A' : Option Addr} {n c n' c' : Nat} {w w' : World} (h : w.grownBy w' (Value.slice A n c).ownBlock) (ho : (Value.slice A' n' c').ownBlock = (Value.slice A n c).ownBlock ∨ (Value.slice A' n' c').ownBlock = some w.heap.size) : Gr A A' w w' :=
  ⟨⟨h.os, h.tape, h.output, h.size, fun k hk hn => h.block k hk fun e => hn ((ownBlock_blk A n c k).2 e.symm)⟩, fun g hg => by
    have h1 := (ownBlock_blk A' n' c' g).1 hg
    rcases ho with h2 | h2
    · exact .inl ((ownBlock_blk A n c g).2 (h2.symm.trans h1))
    · rw [h1] at h2
      injection h2 with h2
      exact .inr (Nat.le_of_eq h2.symm)⟩
theorem app_u8g {ops : Array Oper} {rest : List Oper} {o : Oper} {a : Act} {Q : Exit → Act → World → Prop} {w : World} (hgd : o.guard = none) (s x : Operand)
    (ho : o.op = .call { callee := .builtin .append, args := #[s, x], argTypes := #[22, 22] })
    {lo : Nat} {A : Option Addr} {n c : Nat} {b : List UInt8} (hown : BS w lo A n c b) (hs : a.eval s = .slice A n c)
    {B : Nat} {A1 : Option Addr} {m c1 : Nat} {news : List UInt8} (hr : Sl w B 1 A1 m c1 (u8s news)) (hx : a.eval x = .slice A1 m c1)
    (hn : n + m ≤ 70368744177664) (hbase : lo ≤ w.heap.size)
    (h : ∀ A' c' w', BS w' lo A' (n + m) c' (b ++ news) → Gr A A' w w' → wpList Tryz.prog ops Q rest (a.put o.dst (.slice A' (n + m) c')) w') : wpList Tryz.prog ops Q (o :: rest) a w := by
  obtain ⟨i0, hi, hz0, hz1, hz2⟩ := info_parts info_u8
  refine wpList_append_sl _ hgd s x 22 ho lo 5 i0 (.int .u8 0) 1 1 Tryz.underlying22 hi hz0 hz1 hz2 rfl (by decide) (.slice A n c) n (u8s b) hs hown B A1 m c1 (u8s news) hx hr (u8s_one _) (by unfold maxLen; omega) (by omega) hbase ?_
  intro A' c' w' h1 h2 h3
  rw [← u8s_append] at h1
  exact h A' c' w' h1 (gr_of h2 h3)
theorem str_own {w w' : World} {lo n : Nat} {A : Option Addr} {c : Nat} {xs : List Value} {s : ByteArray} {v' : Value} {ty : TypeId} (hown : w.ownsRow lo 5 1 (.slice A n c) n xs) (hn : n + s.size ≤ 70368744177664) (hbase : lo ≤ w.heap.size)
    (hr : (Builtin.append_ #[22, 9] ty #[.slice A n c, .string s]).run Tryz.prog w = .ok v' w') : v'.ownBlock = (Value.slice A n c).ownBlock ∨ v'.ownBlock = some w.heap.size := by
  obtain ⟨i0, hi, hz0, hz1, hz2⟩ := info_parts info_u8
  have hlen : xs.length = n := by simpa using hown.1
  rcases hown.2 with ⟨h1, h2⟩ | ⟨g, cap, cur, h1, h3, h4, h5, h6, h7, h8⟩
  · obtain ⟨rfl, -, rfl⟩ : A = none ∧ n = 0 ∧ c = 0 := by simpa using h1
    subst h2
    rcases Nat.eq_zero_or_pos s.size with h0 | h0
    · obtain ⟨v2, w2, hr2, -, -, h9⟩ := Lib.run_append_own_string (P := Tryz.prog) w lo 22 9 ty 5 i0 Tryz.underlying22 Tryz.underlying9 hi hz0 hz1 hz2 _ _ _ hown s (by unfold maxLen; omega) (by omega) hbase
      rw [hr] at hr2
      injection hr2 with h10 h11
      subst h10
      exact .inl (by rw [h9.2 ⟨rfl, h0⟩])
    · have hr2 := run_append_nil_string (P := Tryz.prog) w 22 9 ty 5 i0 (.int .u8 0) Tryz.underlying22 Tryz.underlying9 hi hz0 s h0 (by omega) (by rw [hz2]; omega)
      rw [hr] at hr2
      injection hr2 with h9 h10
      subst h9
      exact .inr rfl
  · obtain ⟨rfl, -, rfl⟩ : A = some ⟨g, 0, none⟩ ∧ True ∧ c = cap := by simpa using h1
    by_cases hroom : n + s.size ≤ c
    · have hr2 := Lib.run_append_room_string (P := Tryz.prog) w 22 9 ty 5 i0 Tryz.underlying22 Tryz.underlying9 hi hz1 g n c cur h4 s hroom (by omega)
      rw [hr] at hr2
      injection hr2 with h9 h10
      subst h9
      exact .inl rfl
    · have hr2 := Lib.run_append_grow_string (P := Tryz.prog) w 22 9 ty 5 i0 (.int .u8 0) Tryz.underlying22 Tryz.underlying9 hi hz0 ⟨g, 0, none⟩ n c xs (by rw [hz1]; omega) (hown.cells (g := g) rfl) s (by omega) (by omega) (by rw [hz2]; exact growslice_fits (by omega) (by omega))
      rw [hr] at hr2
      injection hr2 with h9 h10
      subst h9
      exact .inr rfl
theorem app_strg {ops : Array Oper} {rest : List Oper} {o : Oper} {a : Act} {Q : Exit → Act → World → Prop} {w : World} (hgd : o.guard = none) (sl x : Operand)
    (ho : o.op = .call { callee := .builtin .append, args := #[sl, x], argTypes := #[22, 9] })
    {lo : Nat} {A : Option Addr} {n c : Nat} {b : List UInt8} (hown : BS w lo A n c b) (hs : a.eval sl = .slice A n c) {s : ByteArray} (hx : a.eval x = .string s)
    (hn : n + s.size ≤ 70368744177664) (hbase : lo ≤ w.heap.size)
    (h : ∀ A' c' w', BS w' lo A' (n + s.size) c' (b ++ s.data.toList) → Gr A A' w w' → wpList Tryz.prog ops Q rest (a.put o.dst (.slice A' (n + s.size) c')) w') : wpList Tryz.prog ops Q (o :: rest) a w := by
  obtain ⟨i0, hi, hz0, hz1, hz2⟩ := info_parts info_u8
  refine wpList_plain hgd fun K hK => ?_
  obtain ⟨v', w', hr, h2, h3, h4⟩ := Lib.run_append_own_string (P := Tryz.prog) w lo 22 9 o.type 5 i0 Tryz.underlying22 Tryz.underlying9 hi hz0 hz1 hz2 _ _ _ hown s (by unfold maxLen; omega) (by omega) hbase
  have h5 := str_own hown hn hbase hr
  obtain ⟨A', c', rfl⟩ := own_shape h2
  have h6 : BS w' lo A' (n + s.size) c' (b ++ s.data.toList) := by
    have e : u8s b ++ Lib.strCells s = u8s (b ++ s.data.toList) := by rw [u8s_append]; rfl
    rw [e] at h2
    exact h2
  unfold Oper.wp execOp
  simp only [ho, resolve, invoke, builtin, Sem.run_bind, Sem.run_pure, Result.andThen_ok, List.map_toArray, List.map_cons, List.map_nil, hs, hx, hr]
  exact hK _ _ (h A' c' w' h6 (gr_of h3 h5))
/-- append(xs, s...) as one step of a region that draws. -/
theorem app_strs {ops : Array Oper} {o : Oper} {a : Act} {K : Act → World → Prop} {Q : Exit → Act → World → Prop} {E : Prop} {w : World} (hgd : o.guard = none) (sl x : Operand)
    (ho : o.op = .call { callee := .builtin .append, args := #[sl, x], argTypes := #[22, 9] })
    {lo : Nat} {A : Option Addr} {n c : Nat} {b : List UInt8} (hown : BS w lo A n c b) (hs : a.eval sl = .slice A n c) {s : ByteArray} (hx : a.eval x = .string s)
    (hn : n + s.size ≤ 70368744177664) (hbase : lo ≤ w.heap.size)
    (h : ∀ A' c' w', BS w' lo A' (n + s.size) c' (b ++ s.data.toList) → Below lo w w' → K (a.put o.dst (.slice A' (n + s.size) c')) w') : if Region.wanted o (yielded ops a.tmps) = true then Oper.wp Tryz.prog o a w K Q else E := by
  have hw : Region.wanted o (yielded ops a.tmps) = true := by simp [Region.wanted, hgd]
  rw [if_pos hw]
  obtain ⟨i0, hi, hz0, hz1, hz2⟩ := info_parts info_u8
  obtain ⟨v', w', hr, h2, h3, h4⟩ := Lib.run_append_own_string (P := Tryz.prog) w lo 22 9 o.type 5 i0 Tryz.underlying22 Tryz.underlying9 hi hz0 hz1 hz2 _ _ _ hown s (by unfold maxLen; omega) (by omega) hbase
  have h5 := str_own hown hn hbase hr
  obtain ⟨A', c', rfl⟩ := own_shape h2
  have h6 : BS w' lo A' (n + s.size) c' (b ++ s.data.toList) := by
    have e : u8s b ++ Lib.strCells s = u8s (b ++ s.data.toList) := by rw [u8s_append]; rfl
    rw [e] at h2
    exact h2
  unfold Oper.wp execOp
  simp only [ho, resolve, invoke, builtin, Sem.run_bind, Sem.run_pure, Result.andThen_ok, List.map_toArray, List.map_cons, List.map_nil, hs, hx, hr]
  exact h A' c' w' h6 ((gr_of (A := A) (A' := A') h3 h5).below hown hbase)
end Go.Proofs.YtmnlkedacnemcaaGreatDoor

namespace Go.Proofs.YtmnlkedacnemcaaGreatDoor
open Go.RowKit

/-- The cells of trees, one after the other. -/
def cellsOf : List Tr → List El → List Value
  | t :: l, u :: es => [.int .i64 t.k, .int .i64 t.n, .int .i64 t.x, .string t.s, .slice u.A u.n u.c] ++ cellsOf l es
  | _, _ => []
theorem cellsOf_len : ∀ (l : List Tr) (es : List El), l.length = es.length → (cellsOf l es).length = l.length * 5
  | [], [], _ => rfl
  | [], _ :: _, h => by cases h
  | _ :: _, [], h => by cases h
  | t :: l, u :: es, h => by
    have := cellsOf_len l es (by simpa using h)
    simp only [cellsOf, List.length_append, List.length_cons, List.length_nil, this]; omega
theorem cellsOf_snoc : ∀ (l : List Tr) (es : List El) (t : Tr) (u : El), l.length = es.length → cellsOf (l ++ [t]) (es ++ [u]) = cellsOf l es ++ [.int .i64 t.k, .int .i64 t.n, .int .i64 t.x, .string t.s, .slice u.A u.n u.c]
  | [], [], _, _, _ => rfl
  | [], _ :: _, _, _, h => by cases h
  | _ :: _, [], _, _, h => by cases h
  | a :: l, b :: es, t, u, h => by
    have := cellsOf_snoc l es t u (by simpa using h)
    simp only [List.cons_append, cellsOf, this, List.append_assoc]
theorem cellsOf_get : ∀ (l : List Tr) (es : List El) (j : Nat) (t : Tr) (u : El), l[j]? = some t → es[j]? = some u → l.length = es.length →
    (cellsOf l es)[j * 5]? = some (.int .i64 t.k) ∧ (cellsOf l es)[j * 5 + 1]? = some (.int .i64 t.n) ∧ (cellsOf l es)[j * 5 + 2]? = some (.int .i64 t.x) ∧ (cellsOf l es)[j * 5 + 3]? = some (.string t.s) ∧ (cellsOf l es)[j * 5 + 4]? = some (.slice u.A u.n u.c)
  | [], _, j, t, u, h, _, _ => by simp at h
  | _ :: _, [], _, _, _, _, h, _ => by simp at h
  | a :: l, b :: es, 0, t, u, h1, h2, _ => by
    simp only [List.getElem?_cons_zero, Option.some.injEq] at h1 h2
    subst h1 h2
    simp [cellsOf]
  | a :: l, b :: es, j + 1, t, u, h1, h2, h3 => by
    have ih := cellsOf_get l es j t u (by simpa using h1) (by simpa using h2) (by simpa using h3)
    have e : ∀ i, (cellsOf (a :: l) (b :: es))[(j + 1) * 5 + i]? = (cellsOf l es)[j * 5 + i]? := fun i => by
      simp only [cellsOf]
      rw [List.getElem?_append_right (by simp; omega)]
      congr 1
      simp; omega
    have e0 := e 0
    simp only [Nat.add_zero] at e0
    rw [e0, e 1, e 2, e 3, e 4]
    exact ih
theorem cellsOf_one : ∀ (l : List Tr) (es : List El), ∀ x ∈ cellsOf l es, x.oneCell' = true
  | [], _, x, h => by simp [cellsOf] at h
  | _ :: _, [], x, h => by simp [cellsOf] at h
  | t :: l, u :: es, x, h => by
    simp only [cellsOf, List.mem_append, List.mem_cons, List.not_mem_nil, or_false] at h
    rcases h with (rfl | rfl | rfl | rfl | rfl) | h
    · rfl
    · rfl
    · rfl
    · rfl
    · rfl
    · exact cellsOf_one l es x h
/-- A row of trees of the call's own: the slice '.slice A n c' holds l, its trees' lists at es; all from lo up. -/
structure RV (w : World) (lo : Nat) (A : Option Addr) (n c : Nat) (l : List Tr) (es : List El) : Prop where
  row : w.ownsRow lo 26 5 (.slice A n c) n (cellsOf l es)
  len : l.length = n
  eslen : es.length = n
  kids : ∀ (j : Nat) (t : Tr) (u : El), l[j]? = some t → es[j]? = some u → LsAt w t.l u
  own : Own w lo (elFp es)
  apart : ∀ g ∈ blkOf A, g ∉ elFp es
theorem row_lt {w : World} {lo : Nat} {e : TypeId} {m n n2 c : Nat} {A : Option Addr} {xs : List Value} (h : w.ownsRow lo e m (.slice A n c) n2 xs) {g : Nat} (hg : g ∈ blkOf A) : lo ≤ g ∧ g < w.heap.size := by
  refine World.ownsRow.lt h g ?_
  cases A with
  | none => simp [blkOf] at hg
  | some a => simp [blkOf] at hg; simp [hg, Value.ownBlock]
theorem row_heap {w w' : World} {lo : Nat} {e : TypeId} {m n n2 c : Nat} {A : Option Addr} {xs : List Value} (h : w.ownsRow lo e m (.slice A n c) n2 xs) (he : ∀ g ∈ blkOf A, w'.heap[g]? = w.heap[g]?) : w'.ownsRow lo e m (.slice A n c) n2 xs := by
  refine ⟨h.1, ?_⟩
  rcases h.2 with h1 | ⟨g, cap, cur, h1, h2, h3, h4⟩
  · exact .inl h1
  · simp only [Value.slice.injEq] at h1
    exact .inr ⟨g, cap, cur, by rw [h1.1, h1.2.1, h1.2.2], h2, (he g (by rw [h1.1]; simp [blkOf])).trans h3, h4⟩
section
variable {w w' : World} {lo n c : Nat} {A : Option Addr} {l : List Tr} {es : List El}
theorem RV.nil_ (w : World) (lo : Nat) : RV w lo none 0 0 [] [] := ⟨World.ownsRow_nil _ _ _ _, rfl, rfl, fun j t u h => by simp at h, Own.nil_ _ _, fun g hg => by simp [blkOf] at hg⟩
theorem RV.new (w : World) (g : Nat) (hg : w.heap.size = g) : RV (w.alloc (.cells #[] 26)) g (some ⟨g, 0, none⟩) 0 0 [] [] := by
  subst hg
  exact ⟨World.ownsRow_lit w #[] 0 (Nat.le_refl _) (by decide) rfl, rfl, rfl, fun j t u h => by simp at h, Own.nil_ _ _, fun g hg => by simp [elFp]⟩
theorem RV.fr {fp : List Nat} (h : RV w lo A n c l es) (hf : Fr fp w w') (hA : ∀ g ∈ blkOf A, g ∉ fp) (hk : ∀ g ∈ elFp es, g ∉ fp) : RV w' lo A n c l es :=
  ⟨row_heap h.row fun g hg => hf.block g (row_lt h.row hg).2 (hA g hg), h.len, h.eslen, fun j t u a b => (h.kids j t u a b).fr hf (fun g hg => h.own.lt (elFp_mem b hg)) (fun g hg => hk g (elFp_mem b hg)), h.own.fr hf hk, h.apart⟩
theorem RV.below (h : RV w lo A n c l es) (hb : Below w.heap.size w w') : RV w' lo A n c l es := h.fr (fp := []) (Fr.of_below hb) (fun _ _ h => by cases h) (fun _ _ h => by cases h)
theorem RV.mono {lo' : Nat} (h : RV w lo A n c l es) (hl : lo' ≤ lo) : RV w lo' A n c l es := ⟨own_mono h.row hl, h.len, h.eslen, h.kids, h.own.mono hl, h.apart⟩
theorem RV.cells {g : Nat} {o : Nat} {al : Option Nat} (h : RV w lo A n c l es) (hA : A = some ⟨g, o, none⟩) {j : Nat} {t : Tr} {u : El} (h1 : l[j]? = some t) (h2 : es[j]? = some u) : o = 0 ∧ Cells5 w g (0 + j * 5) t u := by
  have h0 : o = 0 := by
    rcases h.row.2 with ⟨e, _⟩ | ⟨g2, cap, cur, e, _⟩
    · rw [hA] at e; cases e
    · rw [hA] at e; simp only [Value.slice.injEq, Option.some.injEq, Addr.mk.injEq] at e; exact e.1.2.1
  subst h0
  have hc := h.row.cells (g := g) (by rw [hA]; rfl)
  have e : ∀ k, (⟨g, 0, none⟩ : Addr).add k = ⟨g, 0 + k, none⟩ := fun k => by unfold Addr.add; split <;> simp_all
  obtain ⟨a0, a1, a2, a3, a4⟩ := cellsOf_get l es j t u h1 h2 (by rw [h.len, h.eslen])
  have f := fun k v hv => by have := hc k v hv; rw [e] at this; exact this
  exact ⟨rfl, f _ _ a0, f _ _ a1, f _ _ a2, f _ _ a3, f _ _ a4⟩
/-- The row as a list. -/
theorem RV.list (h : RV w lo A n c l es) (hc : n ≤ c) (hm : c ≤ maxLen) : ∃ fp, LsAt w l ⟨A, n, c, fp⟩ ∧ Own w lo fp ∧ ∀ g ∈ fp, g ∈ blkOf A ∨ g ∈ elFp es := by
  rcases Nat.eq_zero_or_pos n with h0 | h0
  · subst h0
    obtain rfl := List.eq_nil_of_length_eq_zero h.len
    exact ⟨[], (lsAt_iff _ _).2 ⟨rfl, hc, hm, [], rfl, fun _ => rfl, fun h => absurd h (Nat.lt_irrefl 0), fun j t u h => by simp at h⟩, Own.nil_ _ _, fun g hg => by cases hg⟩
  · rcases h.row.2 with ⟨e, _⟩ | ⟨g, cap, cur, e, hb, hh, _⟩
    · simp only [Value.slice.injEq] at e; omega
    · simp only [Value.slice.injEq] at e
      have hA : A = some ⟨g, 0, none⟩ := e.1
      have hg : g ∈ blkOf A := by rw [hA]; simp [blkOf]
      refine ⟨g :: elFp es, (lsAt_iff _ _).2 ⟨h.len, hc, hm, es, h.eslen, fun h => absurd h (Nat.ne_of_gt h0), fun _ => ⟨g, 0, hA, rfl, fun j t u a b => (h.cells (al := none) hA a b).2⟩, fun j t u a b => (trAt_ls _ _).2 (h.kids j t u a b)⟩, h.own.cons (h.apart g hg) (row_lt h.row hg).1 ⟨_, _, hh⟩, fun x hx => ?_⟩
      rcases List.mem_cons.1 hx with rfl | hx
      · exact .inl hg
      · exact .inr hx
theorem RV.cap (h : RV w lo A n c l es) : n ≤ c ∧ c ≤ maxLen := by
  rcases h.row.2 with ⟨e, e2⟩ | ⟨g, cap, cur, e, _, _, h3, h4, _⟩
  · simp only [Value.slice.injEq] at e; omega
  · simp only [Value.slice.injEq] at e; omega
end
/-- append(row, t), t's list being of the call's own. -/
theorem app_val {ops : Array Oper} {rest : List Oper} {o : Oper} {a : Act} {Q : Exit → Act → World → Prop} {w : World} (hgd : o.guard = none) (s x : Operand)
    (ho : o.op = .call { callee := .builtin .append, args := #[s, x], argTypes := #[24, 24] })
    {lo : Nat} {A : Option Addr} {n c : Nat} {l : List Tr} {es : List El} {t : Tr} {u : El} (h : RV w lo A n c l es) (hs : a.eval s = .slice A n c)
    {gx : Nat} (hgx : w.heap.size = gx) (hx : a.eval x = .slice (some ⟨gx, 0, none⟩) 1 1) (hl : LsAt w t.l u) (hu : Own w lo u.fp) (hd : ∀ g ∈ u.fp, g ∉ blkOf A ∧ g ∉ elFp es) (hn : n + 1 ≤ 1099511627776) (hbase : lo ≤ w.heap.size)
    (hK : ∀ A' c' w', RV w' lo A' (n + 1) c' (l ++ [t]) (es ++ [u]) → Below lo w w' → Gr A A' (w.alloc (.cells #[.int .i64 t.k, .int .i64 t.n, .int .i64 t.x, .string t.s, .slice u.A u.n u.c] 26)) w' → wpList Tryz.prog ops Q rest (a.put o.dst (.slice A' (n + 1) c')) w') :
    wpList Tryz.prog ops Q (o :: rest) a (w.alloc (.cells #[.int .i64 t.k, .int .i64 t.n, .int .i64 t.x, .string t.s, .slice u.A u.n u.c] 26)) := by
  subst hgx
  obtain ⟨i0, hi, hz0, hz1, hz2⟩ := info_parts info_val
  have hb1 := Below.one w (.cells #[.int .i64 t.k, .int .i64 t.n, .int .i64 t.x, .string t.s, .slice u.A u.n u.c] 26)
  have h1 := h.below hb1
  have hsl := Sl.lit w 26 #[.int .i64 t.k, .int .i64 t.n, .int .i64 t.x, .string t.s, .slice u.A u.n u.c] 5 1 rfl (by decide) (w.heap.size + 1) (Nat.lt_succ_self _)
  refine wpList_append_sl _ hgd s x 24 ho lo 26 i0 (.agg #[.int .i64 0, .int .i64 0, .int .i64 0, .string ByteArray.empty, .slice none 0 0]) 5 64 Tryz.underlying24 hi hz0 hz1 hz2 rfl (by decide) (.slice A n c) n (cellsOf l es) hs h1.row _ _ 1 1 _ hx hsl (fun v hv => ?_) (by unfold maxLen; omega) (by omega) (by simp; omega) ?_
  · simp only [List.mem_cons, List.not_mem_nil, or_false] at hv
    rcases hv with rfl | rfl | rfl | rfl | rfl <;> rfl
  intro A' c' w' h2 h3 h4
  have hg := gr_of (n' := n + 1) (c' := c') h3 h4
  have hkl : ∀ g ∈ elFp es, g ∉ blkOf A := fun g hg2 hgA => h1.apart g hgA hg2
  have hbel : Below lo w w' := (hb1.mono hbase).trans (hg.fr.below (fun g hg2 => (row_lt h1.row hg2).1) (Nat.le_trans hbase hb1.size))
  refine hK A' c' w' ⟨?_, by simp [h.len], by simp [h.eslen], fun j t2 u2 a b => ?_, ?_, fun g hgA hg2 => ?_⟩ hbel hg
  · rw [cellsOf_snoc l es t u (by rw [h.len, h.eslen])]; exact h2
  · rcases Nat.lt_or_ge j n with hj | hj
    · rw [List.getElem?_append_left (by rw [h.len]; exact hj)] at a
      rw [List.getElem?_append_left (by rw [h.eslen]; exact hj)] at b
      exact (h1.kids j t2 u2 a b).fr hg.fr (fun g hg2 => h1.own.lt (elFp_mem b hg2)) (fun g hg2 => hkl g (elFp_mem b hg2))
    · have hj2 : j = n := by have := (List.getElem?_eq_some_iff.1 a).1; simp [h.len] at this; omega
      subst hj2
      rw [List.getElem?_append_right (by rw [h.len]; exact Nat.le_refl _), h.len, Nat.sub_self] at a
      rw [List.getElem?_append_right (by rw [h.eslen]; exact Nat.le_refl _), h.eslen, Nat.sub_self] at b
      simp only [List.getElem?_cons_zero, Option.some.injEq] at a b
      subst a b
      exact (hl.below (fun g hg2 => hu.lt hg2) hb1).fr hg.fr (fun g hg2 => Nat.lt_of_lt_of_le (hu.lt hg2) hb1.size) (fun g hg2 => (hd g hg2).1)
  · rw [elFp_snoc]
    exact ((h1.own.fr hg.fr hkl).app ((hu.below (fun g hg2 => hu.lt hg2) hb1).fr hg.fr (fun g hg2 => (hd g hg2).1)) fun g hg2 hg3 => (hd g hg3).2 hg2)
  · rw [elFp_snoc] at hg2
    rcases hg.own g hgA with h5 | h5
    · rcases List.mem_append.1 hg2 with h6 | h6
      · exact h1.apart g h5 h6
      · exact (hd g h6).1 h5
    · have h7 : w.heap.size < g := by simp at h5; omega
      rcases List.mem_append.1 hg2 with h6 | h6
      · have := h.own.lt h6; omega
      · have := hu.lt h6; omega
end Go.Proofs.YtmnlkedacnemcaaGreatDoor
