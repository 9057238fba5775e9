/- append onto a row that came as an argument: the row's own block and new ones alone are written. -/
import Derived.Test.YtjjcdlghichmdaaTreeSet
import Derived.Lib.AppendStr
set_option linter.unusedVariables false
set_option maxRecDepth 100000
set_option linter.unusedSimpArgs false
namespace Go.Proofs.Ytjjcdlghichmdaa
open Go.RowKit

/-- From w to w': the block of A and new blocks alone are written; A' lies in one of them. -/
structure Gr (A A' : Option Addr) (w w' : World) : Prop where
  fr : Fr (blkOf A) w w'
  own : ∀ g ∈ blkOf A', g ∈ blkOf A ∨ w.heap.size ≤ g
section
variable {A A1 A2 A' : Option Addr} {w w' w1 w2 : World} {lo n c : Nat} {b : List UInt8}
theorem Gr.trans (h : Gr A A1 w w1) (k : Gr A1 A2 w1 w2) : Gr A A2 w w2 :=
  ⟨⟨k.fr.os.trans h.fr.os, k.fr.tape.trans h.fr.tape, k.fr.output.trans h.fr.output, Nat.le_trans h.fr.size k.fr.size, fun i hi hn =>
    (k.fr.block i (Nat.lt_of_lt_of_le hi h.fr.size) fun h2 => by
      rcases h.own i h2 with h3 | h3
      · exact hn h3
      · exact Nat.lt_irrefl _ (Nat.lt_of_lt_of_le hi h3)).trans (h.fr.block i hi hn)⟩,
   fun g hg => by
    rcases k.own g hg with h2 | h2
    · exact h.own g h2
    · exact .inr (Nat.le_trans h.fr.size h2)⟩
theorem Gr.of_below (h : Below w.heap.size w w') : Gr A A w w' := ⟨Fr.of_below h, fun _ hg => .inl hg⟩
theorem Gr.refl (A : Option Addr) (w : World) : Gr A A w w := ⟨Fr.refl _ _, fun _ hg => .inl hg⟩
theorem Gr.below (h : Gr A A' w w') (hA : BS w lo A n c b) (hlo : lo ≤ w.heap.size) : Below lo w w' := h.fr.below hA.from_ hlo
theorem Gr.blk {g : Nat} {T : TypeId} {cs : Array Value} (h : Gr A A' w w') (hb : Blk w g T cs) (hg : g ∉ blkOf A) : Blk w' g T cs := (h.fr.block g hb.lt hg).trans hb
theorem Gr.size (h : Gr A A' w w') : w.heap.size ≤ w'.heap.size := h.fr.size
theorem Gr.notin (h : Gr A A' w w') {g : Nat} (hg : g ∉ blkOf A) (hl : g < w.heap.size) : g ∉ blkOf A' := fun h2 => by
  rcases h.own g h2 with h3 | h3
  · exact hg h3
  · exact Nat.lt_irrefl _ (Nat.lt_of_lt_of_le hl h3)
end
theorem ownBlock_blk (A : Option Addr) (n c : Nat) (g : Nat) : g ∈ blkOf A ↔ (Value.slice A n c).ownBlock = some g := by
  cases A with
  | none => simp [blkOf, Value.ownBlock]
  | some a => simp [blkOf, Value.ownBlock, eq_comm]
theorem gr_of {A A' : Option Addr} {n c n' c' : Nat} {w w' : World} (h : w.grownBy w' (Value.slice A n c).ownBlock) (ho : (Value.slice A' n' c').ownBlock = (Value.slice A n c).ownBlock ∨ (Value.slice A' n' c').ownBlock = some w.heap.size) : Gr A A' w w' :=
  ⟨⟨h.os, h.tape, h.output, h.size, fun k hk hn => h.block k hk fun e => hn ((ownBlock_blk A n c k).2 e.symm)⟩, fun g hg => by
    have h1 := (ownBlock_blk A' n' c' g).1 hg
    rcases ho with h2 | h2
    · exact .inl ((ownBlock_blk A n c g).2 (h2.symm.trans h1))
    · rw [h1] at h2
      injection h2 with h2
      exact .inr (Nat.le_of_eq h2.symm)⟩
theorem app_u8g {ops : Array Oper} {rest : List Oper} {o : Oper} {a : Act} {Q : Exit → Act → World → Prop} {w : World} (hgd : o.guard = none) (s x : Operand)
    (ho : o.op = .call { callee := .builtin .append, args := #[s, x], argTypes := #[41, 41] })
    {lo : Nat} {A : Option Addr} {n c : Nat} {b : List UInt8} (hown : BS w lo A n c b) (hs : a.eval s = .slice A n c)
    {B : Nat} {A1 : Option Addr} {m c1 : Nat} {news : List UInt8} (hr : Sl w B 1 A1 m c1 (u8s news)) (hx : a.eval x = .slice A1 m c1)
    (hn : n + m ≤ 70368744177664) (hbase : lo ≤ w.heap.size)
    (h : ∀ A' c' w', BS w' lo A' (n + m) c' (b ++ news) → Gr A A' w w' → wpList Try.prog ops Q rest (a.put o.dst (.slice A' (n + m) c')) w') : wpList Try.prog ops Q (o :: rest) a w := by
  obtain ⟨i0, hi, hz0, hz1, hz2⟩ := info_parts info_u8
  refine wpList_append_sl _ hgd s x 41 ho lo 5 i0 (.int .u8 0) 1 1 Try.underlying41 hi hz0 hz1 hz2 rfl (by decide) (.slice A n c) n (u8s b) hs hown B A1 m c1 (u8s news) hx hr (u8s_one _) (by unfold maxLen; omega) (by omega) hbase ?_
  intro A' c' w' h1 h2 h3
  rw [← u8s_append] at h1
  exact h A' c' w' h1 (gr_of h2 h3)
theorem str_own {w w' : World} {lo n : Nat} {A : Option Addr} {c : Nat} {xs : List Value} {s : ByteArray} {v' : Value} {ty : TypeId} (hown : w.ownsRow lo 5 1 (.slice A n c) n xs) (hn : n + s.size ≤ 70368744177664) (hbase : lo ≤ w.heap.size)
    (hr : (Builtin.append_ #[41, 9] ty #[.slice A n c, .string s]).run Try.prog w = .ok v' w') : v'.ownBlock = (Value.slice A n c).ownBlock ∨ v'.ownBlock = some w.heap.size := by
  obtain ⟨i0, hi, hz0, hz1, hz2⟩ := info_parts info_u8
  have hlen : xs.length = n := by simpa using hown.1
  rcases hown.2 with ⟨h1, h2⟩ | ⟨g, cap, cur, h1, h3, h4, h5, h6, h7, h8⟩
  · obtain ⟨rfl, -, rfl⟩ : A = none ∧ n = 0 ∧ c = 0 := by simpa using h1
    subst h2
    rcases Nat.eq_zero_or_pos s.size with h0 | h0
    · obtain ⟨v2, w2, hr2, -, -, h9⟩ := Lib.run_append_own_string (P := Try.prog) w lo 41 9 ty 5 i0 Try.underlying41 Try.underlying9 hi hz0 hz1 hz2 _ _ _ hown s (by unfold maxLen; omega) (by omega) hbase
      rw [hr] at hr2
      injection hr2 with h10 h11
      subst h10
      exact .inl (by rw [h9.2 ⟨rfl, h0⟩])
    · have hr2 := run_append_nil_string (P := Try.prog) w 41 9 ty 5 i0 (.int .u8 0) Try.underlying41 Try.underlying9 hi hz0 s h0 (by omega) (by rw [hz2]; omega)
      rw [hr] at hr2
      injection hr2 with h9 h10
      subst h9
      exact .inr rfl
  · obtain ⟨rfl, -, rfl⟩ : A = some ⟨g, 0, none⟩ ∧ True ∧ c = cap := by simpa using h1
    by_cases hroom : n + s.size ≤ c
    · have hr2 := Lib.run_append_room_string (P := Try.prog) w 41 9 ty 5 i0 Try.underlying41 Try.underlying9 hi hz1 g n c cur h4 s hroom (by omega)
      rw [hr] at hr2
      injection hr2 with h9 h10
      subst h9
      exact .inl rfl
    · have hr2 := Lib.run_append_grow_string (P := Try.prog) w 41 9 ty 5 i0 (.int .u8 0) Try.underlying41 Try.underlying9 hi hz0 ⟨g, 0, none⟩ n c xs (by rw [hz1]; omega) (hown.cells (g := g) rfl) s (by omega) (by omega) (by rw [hz2]; exact growslice_fits (by omega) (by omega))
      rw [hr] at hr2
      injection hr2 with h9 h10
      subst h9
      exact .inr rfl
theorem app_strg {ops : Array Oper} {rest : List Oper} {o : Oper} {a : Act} {Q : Exit → Act → World → Prop} {w : World} (hgd : o.guard = none) (sl x : Operand)
    (ho : o.op = .call { callee := .builtin .append, args := #[sl, x], argTypes := #[41, 9] })
    {lo : Nat} {A : Option Addr} {n c : Nat} {b : List UInt8} (hown : BS w lo A n c b) (hs : a.eval sl = .slice A n c) {s : ByteArray} (hx : a.eval x = .string s)
    (hn : n + s.size ≤ 70368744177664) (hbase : lo ≤ w.heap.size)
    (h : ∀ A' c' w', BS w' lo A' (n + s.size) c' (b ++ s.data.toList) → Gr A A' w w' → wpList Try.prog ops Q rest (a.put o.dst (.slice A' (n + s.size) c')) w') : wpList Try.prog ops Q (o :: rest) a w := by
  obtain ⟨i0, hi, hz0, hz1, hz2⟩ := info_parts info_u8
  refine wpList_plain hgd fun K hK => ?_
  obtain ⟨v', w', hr, h2, h3, h4⟩ := Lib.run_append_own_string (P := Try.prog) w lo 41 9 o.type 5 i0 Try.underlying41 Try.underlying9 hi hz0 hz1 hz2 _ _ _ hown s (by unfold maxLen; omega) (by omega) hbase
  have h5 := str_own hown hn hbase hr
  obtain ⟨A', c', rfl⟩ := own_shape h2
  have h6 : BS w' lo A' (n + s.size) c' (b ++ s.data.toList) := by
    have e : u8s b ++ Lib.strCells s = u8s (b ++ s.data.toList) := by rw [u8s_append]; rfl
    rw [e] at h2
    exact h2
  unfold Oper.wp execOp
  simp only [ho, resolve, invoke, builtin, Sem.run_bind, Sem.run_pure, Result.andThen_ok, List.map_toArray, List.map_cons, List.map_nil, hs, hx, hr]
  exact hK _ _ (h A' c' w' h6 (gr_of h3 h5))
/-- append(xs, s...) as one step of a region that draws. -/
theorem app_strs {ops : Array Oper} {o : Oper} {a : Act} {K : Act → World → Prop} {Q : Exit → Act → World → Prop} {E : Prop} {w : World} (hgd : o.guard = none) (sl x : Operand)
    (ho : o.op = .call { callee := .builtin .append, args := #[sl, x], argTypes := #[41, 9] })
    {lo : Nat} {A : Option Addr} {n c : Nat} {b : List UInt8} (hown : BS w lo A n c b) (hs : a.eval sl = .slice A n c) {s : ByteArray} (hx : a.eval x = .string s)
    (hn : n + s.size ≤ 70368744177664) (hbase : lo ≤ w.heap.size)
    (h : ∀ A' c' w', BS w' lo A' (n + s.size) c' (b ++ s.data.toList) → Below lo w w' → K (a.put o.dst (.slice A' (n + s.size) c')) w') : if Region.wanted o (yielded ops a.tmps) = true then Oper.wp Try.prog o a w K Q else E := by
  have hw : Region.wanted o (yielded ops a.tmps) = true := by simp [Region.wanted, hgd]
  rw [if_pos hw]
  obtain ⟨i0, hi, hz0, hz1, hz2⟩ := info_parts info_u8
  obtain ⟨v', w', hr, h2, h3, h4⟩ := Lib.run_append_own_string (P := Try.prog) w lo 41 9 o.type 5 i0 Try.underlying41 Try.underlying9 hi hz0 hz1 hz2 _ _ _ hown s (by unfold maxLen; omega) (by omega) hbase
  have h5 := str_own hown hn hbase hr
  obtain ⟨A', c', rfl⟩ := own_shape h2
  have h6 : BS w' lo A' (n + s.size) c' (b ++ s.data.toList) := by
    have e : u8s b ++ Lib.strCells s = u8s (b ++ s.data.toList) := by rw [u8s_append]; rfl
    rw [e] at h2
    exact h2
  unfold Oper.wp execOp
  simp only [ho, resolve, invoke, builtin, Sem.run_bind, Sem.run_pure, Result.andThen_ok, List.map_toArray, List.map_cons, List.map_nil, hs, hx, hr]
  exact h A' c' w' h6 ((gr_of (A := A) (A' := A') h3 h5).below hown hbase)
end Go.Proofs.Ytjjcdlghichmdaa
