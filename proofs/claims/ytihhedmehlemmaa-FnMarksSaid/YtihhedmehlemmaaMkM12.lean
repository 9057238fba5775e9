/- A list of trees, opened; one tree of it replaced. No function of the program in sight. append onto a row that came as an argument: the row's own block and new ones alone are written. -/
import Derived.Test.YtihhedmehlemmaaMkTree
import Derived.Test.YtihhedmehlemmaaMkM4
import Derived.Lib.AppendStr
set_option linter.unusedVariables false
set_option maxRecDepth 100000
set_option linter.unusedSimpArgs false
namespace Go.Proofs.Ytihhedmehlemmaa
open Go.RowKit

/-- The list l lies in block g from o on, its trees' lists at es. -/
structure LsV (w : World) (l : List Tr) (e : El) (g o : Nat) (es : List El) : Prop where
  len : l.length = e.n
  cap : e.n ≤ e.c
  max : e.c ≤ maxLen
  eslen : es.length = e.n
  adr : e.A = some ⟨g, o, none⟩
  fp : e.fp = g :: elFp es
  cells : ∀ (j : Nat) (t : Tr) (u : El), l[j]? = some t → es[j]? = some u → Cells5 w g (o + j * 5) t u
  kids : ∀ (j : Nat) (t : Tr) (u : El), l[j]? = some t → es[j]? = some u → LsAt w t.l u
theorem LsAt.open_ {w : World} {l : List Tr} {e : El} (h : LsAt w l e) (hn : 0 < e.n) : ∃ g o es, LsV w l e g o es := by
  obtain ⟨h1, h2, h3, es, h4, h5, h6, h7⟩ := (lsAt_iff l e).1 h
  obtain ⟨g, o, hA, hf, hc⟩ := h6 hn
  exact ⟨g, o, es, h1, h2, h3, h4, hA, hf, hc, fun j t u a b => (trAt_ls _ _).1 (h7 j t u a b)⟩
theorem LsV.close {w : World} {l : List Tr} {e : El} {g o : Nat} {es : List El} (h : LsV w l e g o es) (hn : 0 < e.n) : LsAt w l e :=
  (lsAt_iff l e).2 ⟨h.len, h.cap, h.max, es, h.eslen, fun h0 => absurd h0 (by omega), fun _ => ⟨g, o, h.adr, h.fp, h.cells⟩, fun j t u a b => (trAt_ls _ _).2 (h.kids j t u a b)⟩
theorem LsV.keep {w w' : World} {l : List Tr} {e : El} {g o : Nat} {es : List El} (h : LsV w l e g o es) (hk : ∀ g2 ∈ e.fp, ∀ o2, w'.cell? ⟨g2, o2, none⟩ = w.cell? ⟨g2, o2, none⟩) : LsV w' l e g o es :=
  ⟨h.len, h.cap, h.max, h.eslen, h.adr, h.fp, fun j t u a b => by
    obtain ⟨c0, c1, c2, c3, c4⟩ := h.cells j t u a b
    have hg := hk g (by rw [h.fp]; exact List.mem_cons_self)
    exact ⟨(hg _).trans c0, (hg _).trans c1, (hg _).trans c2, (hg _).trans c3, (hg _).trans c4⟩,
   fun j t u a b => (h.kids j t u a b).keep fun g2 hg2 => hk g2 (by rw [h.fp]; exact List.mem_cons_of_mem _ (elFp_mem b hg2))⟩
theorem LsV.below {w w' : World} {l : List Tr} {e : El} {g o B : Nat} {es : List El} (h : LsV w l e g o es) (hl : e.lt B) (hb : Below B w w') : LsV w' l e g o es := h.keep fun g2 hg2 o2 => hb.cell (p := ⟨g2, o2, none⟩) (hl g2 hg2)
theorem LsV.drew {w : World} {l : List Tr} {e : El} {g o : Nat} {es : List El} (h : LsV w l e g o es) : LsV w.drew l e g o es := h.keep fun _ _ _ => rfl
theorem LsV.drewN {w : World} {l : List Tr} {e : El} {g o : Nat} {es : List El} (h : LsV w l e g o es) (k : Nat) : LsV (w.drewN k) l e g o es := h.keep fun _ _ _ => rfl
theorem elFp_set {es : List El} {j : Nat} {u u' : El} (h : es[j]? = some u) (hf : u'.fp = u.fp) : elFp (es.set j u') = elFp es := by
  unfold elFp
  congr 1
  refine List.ext_getElem? fun i => ?_
  rw [List.getElem?_map, List.getElem?_map, List.getElem?_set]
  split
  · rename_i e; subst e
    rw [h]
    split
    · simp [hf]
    · rename_i e2; exact absurd (List.getElem?_eq_some_iff.1 h).1 e2
  · rfl
/-- The tree at j replaced; all else as it was. -/
theorem LsV.put {w w' : World} {l : List Tr} {e : El} {g o : Nat} {es : List El} (h : LsV w l e g o es) {j : Nat} (hj : j < e.n) {t' : Tr} {u' : El} (hc : Cells5 w' g (o + j * 5) t' u') (hl : LsAt w' t'.l u')
    (hg : ∀ o2, o2 < o + j * 5 ∨ o + j * 5 + 5 ≤ o2 → w'.cell? ⟨g, o2, none⟩ = w.cell? ⟨g, o2, none⟩)
    (hk : ∀ i u, i ≠ j → es[i]? = some u → ∀ g2 ∈ u.fp, ∀ o2, w'.cell? ⟨g2, o2, none⟩ = w.cell? ⟨g2, o2, none⟩) :
    LsV w' (l.set j t') ⟨e.A, e.n, e.c, g :: elFp (es.set j u')⟩ g o (es.set j u') := by
  refine ⟨by rw [List.length_set]; exact h.len, h.cap, h.max, by rw [List.length_set]; exact h.eslen, h.adr, rfl, fun i t u a b => ?_, fun i t u a b => ?_⟩
  · rw [List.getElem?_set] at a b
    by_cases e : j = i
    · subst e
      have := h.len; have := h.eslen
      rw [if_pos rfl, if_pos (by omega)] at a b
      obtain rfl := Option.some.inj a
      obtain rfl := Option.some.inj b
      exact hc
    · rw [if_neg e] at a b
      obtain ⟨c0, c1, c2, c3, c4⟩ := h.cells i t u a b
      exact ⟨(hg _ (by omega)).trans c0, (hg _ (by omega)).trans c1, (hg _ (by omega)).trans c2, (hg _ (by omega)).trans c3, (hg _ (by omega)).trans c4⟩
  · rw [List.getElem?_set] at a b
    by_cases e : j = i
    · subst e
      have := h.len; have := h.eslen
      rw [if_pos rfl, if_pos (by omega)] at a b
      obtain rfl := Option.some.inj a
      obtain rfl := Option.some.inj b
      exact hl
    · rw [if_neg e] at a b
      exact (h.kids i t u a b).keep (hk i u (fun e2 => e e2.symm) b)
/-- Two trees' blocks in a list are apart, and apart from the list's own. -/
theorem LsV.apart {w : World} {l : List Tr} {e : El} {g o : Nat} {es : List El} (h : LsV w l e g o es) (hn : e.fp.Nodup) : g ∉ elFp es ∧ (∀ (i : Nat) (u : El), es[i]? = some u → g ∉ u.fp ∧ u.fp.Nodup) ∧
    ∀ (i j : Nat) (u v : El), i ≠ j → es[i]? = some u → es[j]? = some v → ∀ x ∈ u.fp, x ∉ v.fp := by
  rw [h.fp, List.nodup_cons] at hn
  have hpf := List.pairwise_flatten.1 (show List.Pairwise (· ≠ ·) (es.map El.fp).flatten from hn.2)
  refine ⟨hn.1, fun i u hu => ⟨fun hg => hn.1 (elFp_mem hu hg), hpf.1 _ (List.mem_map.2 ⟨u, List.mem_of_getElem? hu, rfl⟩)⟩, fun i j u v hij hu hv x hx hx2 => ?_⟩
  have hu2 : (es.map El.fp)[i]? = some u.fp := by rw [List.getElem?_map, hu]; rfl
  have hv2 : (es.map El.fp)[j]? = some v.fp := by rw [List.getElem?_map, hv]; rfl
  obtain ⟨hi, hi2⟩ := List.getElem?_eq_some_iff.1 hu2
  obtain ⟨hj, hj2⟩ := List.getElem?_eq_some_iff.1 hv2
  have hd := List.pairwise_iff_getElem.1 hpf.2
  rcases Nat.lt_or_gt_of_ne hij with hlt | hlt
  · have := hd i j hi hj hlt
    rw [hi2, hj2] at this
    exact this x hx x hx2 rfl
  · have := hd j i hj hi hlt
    rw [hi2, hj2] at this
    exact this x hx2 x hx rfl
theorem LsAt.fr {w w' : World} {l : List Tr} {e : El} {fp : List Nat} (h : LsAt w l e) (hf : Fr fp w w') (hl : e.lt w.heap.size) (hd : ∀ g ∈ e.fp, g ∉ fp) : LsAt w' l e :=
  h.keep fun g hg o => World.cell?_of_block (w := w) (w' := w') (a := ⟨g, o, none⟩) (hf.block g (hl g hg) (hd g hg))
theorem Own.fr {w w' : World} {lo : Nat} {a fp : List Nat} (h : Own w lo a) (hf : Fr fp w w') (hd : ∀ g ∈ a, g ∉ fp) : Own w' lo a :=
  ⟨h.1, fun g hg => by
    obtain ⟨h1, T, cs, h2⟩ := h.2 g hg
    exact ⟨h1, T, cs, (hf.block g h2.lt (hd g hg)).trans h2⟩⟩
theorem Own.sub {w : World} {lo : Nat} {a b : List Nat} (h : Own w lo a) (hb : b.Nodup) (hs : ∀ g ∈ b, g ∈ a) : Own w lo b := ⟨hb, fun g hg => h.2 g (hs g hg)⟩
theorem fr_set5 {fp : List Nat} {w w' : World} {g o : Nat} {t : Tr} {e : El} (h : Fr fp w w') (hg : g ∈ fp) : Fr fp w (set5 w' g o t e) :=
  ((((h.setCell (p := ⟨g, o, none⟩) hg _).setCell (p := ⟨g, o + 1, none⟩) hg _).setCell (p := ⟨g, o + 2, none⟩) hg _).setCell (p := ⟨g, o + 3, none⟩) hg _).setCell (p := ⟨g, o + 4, none⟩) hg _
end Go.Proofs.Ytihhedmehlemmaa

namespace Go.Proofs.Ytihhedmehlemmaa
open Go.RowKit

/-- From w to w': the block of A and new blocks alone are written; A' lies in one of them. -/
structure Gr (A A' : Option Addr) (w w' : World) : Prop where
  fr : Fr (blkOf A) w w'
  own : ∀ g ∈ blkOf A', g ∈ blkOf A ∨ w.heap.size ≤ g
section
variable {A A1 A2 A' : Option Addr} {w w' w1 w2 : World} {lo n c : Nat} {b : List UInt8}
theorem Gr.trans (h : Gr A A1 w w1) (k : Gr A1 A2 w1 w2) : Gr A A2 w w2 :=
  ⟨⟨k.fr.os.trans h.fr.os, k.fr.tape.trans h.fr.tape, k.fr.output.trans h.fr.output, Nat.le_trans h.fr.size k.fr.size, fun i hi hn =>
    (k.fr.block i (Nat.lt_of_lt_of_le hi h.fr.size) fun h2 => by
      rcases h.own i h2 with h3 | h3
      · exact hn h3
      · exact Nat.lt_irrefl _ (Nat.lt_of_lt_of_le hi h3)).trans (h.fr.block i hi hn)⟩,
   fun g hg => by
    rcases k.own g hg with h2 | h2
    · exact h.own g h2
    · exact .inr (Nat.le_trans h.fr.size h2)⟩
theorem Gr.of_below (h : Below w.heap.size w w') : Gr A A w w' := ⟨Fr.of_below h, fun _ hg => .inl hg⟩
theorem Gr.refl (A : Option Addr) (w : World) : Gr A A w w := ⟨Fr.refl _ _, fun _ hg => .inl hg⟩
theorem Gr.below (h : Gr A A' w w') (hA : BS w lo A n c b) (hlo : lo ≤ w.heap.size) : Below lo w w' := h.fr.below hA.from_ hlo
theorem Gr.blk {g : Nat} {T : TypeId} {cs : Array Value} (h : Gr A A' w w') (hb : Blk w g T cs) (hg : g ∉ blkOf A) : Blk w' g T cs := (h.fr.block g hb.lt hg).trans hb
theorem Gr.size (h : Gr A A' w w') : w.heap.size ≤ w'.heap.size := h.fr.size
theorem Gr.notin (h : Gr A A' w w') {g : Nat} (hg : g ∉ blkOf A) (hl : g < w.heap.size) : g ∉ blkOf A' := fun h2 => by
  rcases h.own g h2 with h3 | h3
  · exact hg h3
  · exact Nat.lt_irrefl _ (Nat.lt_of_lt_of_le hl h3)
end
theorem ownBlock_blk (A : Option Addr) (n c : Nat) (g : Nat) : g ∈ blkOf A ↔ (Value.slice A n c).ownBlock = some g := by
  cases A with
  | none => simp [blkOf, Value.ownBlock]
  | some a => simp [blkOf, Value.ownBlock, eq_comm]
theorem gr_of {A A' : Option Addr} {n c n' c' : Nat} {w w' : World} (h : w.grownBy w' (Value.slice A n c).ownBlock) (ho : (Value.slice A' n' c').ownBlock = (Value.slice A n c).ownBlock ∨ (Value.slice A' n' c').ownBlock = some w.heap.size) : Gr A A' w w' :=
  ⟨⟨h.os, h.tape, h.output, h.size, fun k hk hn => h.block k hk fun e => hn ((ownBlock_blk A n c k).2 e.symm)⟩, fun g hg => by
    have h1 := (ownBlock_blk A' n' c' g).1 hg
    rcases ho with h2 | h2
    · exact .inl ((ownBlock_blk A n c g).2 (h2.symm.trans h1))
    · rw [h1] at h2
      injection h2 with h2
      exact .inr (Nat.le_of_eq h2.symm)⟩
theorem app_u8g {ops : Array Oper} {rest : List Oper} {o : Oper} {a : Act} {Q : Exit → Act → World → Prop} {w : World} (hgd : o.guard = none) (s x : Operand)
    (ho : o.op = .call { callee := .builtin .append, args := #[s, x], argTypes := #[22, 22] })
    {lo : Nat} {A : Option Addr} {n c : Nat} {b : List UInt8} (hown : BS w lo A n c b) (hs : a.eval s = .slice A n c)
    {B : Nat} {A1 : Option Addr} {m c1 : Nat} {news : List UInt8} (hr : Sl w B 1 A1 m c1 (u8s news)) (hx : a.eval x = .slice A1 m c1)
    (hn : n + m ≤ 70368744177664) (hbase : lo ≤ w.heap.size)
    (h : ∀ A' c' w', BS w' lo A' (n + m) c' (b ++ news) → Gr A A' w w' → wpList Try.prog ops Q rest (a.put o.dst (.slice A' (n + m) c')) w') : wpList Try.prog ops Q (o :: rest) a w := by
  obtain ⟨i0, hi, hz0, hz1, hz2⟩ := info_parts info_u8
  refine wpList_append_sl _ hgd s x 22 ho lo 5 i0 (.int .u8 0) 1 1 Try.underlying22 hi hz0 hz1 hz2 rfl (by decide) (.slice A n c) n (u8s b) hs hown B A1 m c1 (u8s news) hx hr (u8s_one _) (by unfold maxLen; omega) (by omega) hbase ?_
  intro A' c' w' h1 h2 h3
  rw [← u8s_append] at h1
  exact h A' c' w' h1 (gr_of h2 h3)
theorem str_own {w w' : World} {lo n : Nat} {A : Option Addr} {c : Nat} {xs : List Value} {s : ByteArray} {v' : Value} {ty : TypeId} (hown : w.ownsRow lo 5 1 (.slice A n c) n xs) (hn : n + s.size ≤ 70368744177664) (hbase : lo ≤ w.heap.size)
    (hr : (Builtin.append_ #[22, 9] ty #[.slice A n c, .string s]).run Try.prog w = .ok v' w') : v'.ownBlock = (Value.slice A n c).ownBlock ∨ v'.ownBlock = some w.heap.size := by
  obtain ⟨i0, hi, hz0, hz1, hz2⟩ := info_parts info_u8
  have hlen : xs.length = n := by simpa using hown.1
  rcases hown.2 with ⟨h1, h2⟩ | ⟨g, cap, cur, h1, h3, h4, h5, h6, h7, h8⟩
  · obtain ⟨rfl, -, rfl⟩ : A = none ∧ n = 0 ∧ c = 0 := by simpa using h1
    subst h2
    rcases Nat.eq_zero_or_pos s.size with h0 | h0
    · obtain ⟨v2, w2, hr2, -, -, h9⟩ := Lib.run_append_own_string (P := Try.prog) w lo 22 9 ty 5 i0 Try.underlying22 Try.underlying9 hi hz0 hz1 hz2 _ _ _ hown s (by unfold maxLen; omega) (by omega) hbase
      rw [hr] at hr2
      injection hr2 with h10 h11
      subst h10
      exact .inl (by rw [h9.2 ⟨rfl, h0⟩])
    · have hr2 := run_append_nil_string (P := Try.prog) w 22 9 ty 5 i0 (.int .u8 0) Try.underlying22 Try.underlying9 hi hz0 s h0 (by omega) (by rw [hz2]; omega)
      rw [hr] at hr2
      injection hr2 with h9 h10
      subst h9
      exact .inr rfl
  · obtain ⟨rfl, -, rfl⟩ : A = some ⟨g, 0, none⟩ ∧ True ∧ c = cap := by simpa using h1
    by_cases hroom : n + s.size ≤ c
    · have hr2 := Lib.run_append_room_string (P := Try.prog) w 22 9 ty 5 i0 Try.underlying22 Try.underlying9 hi hz1 g n c cur h4 s hroom (by omega)
      rw [hr] at hr2
      injection hr2 with h9 h10
      subst h9
      exact .inl rfl
    · have hr2 := Lib.run_append_grow_string (P := Try.prog) w 22 9 ty 5 i0 (.int .u8 0) Try.underlying22 Try.underlying9 hi hz0 ⟨g, 0, none⟩ n c xs (by rw [hz1]; omega) (hown.cells (g := g) rfl) s (by omega) (by omega) (by rw [hz2]; exact growslice_fits (by omega) (by omega))
      rw [hr] at hr2
      injection hr2 with h9 h10
      subst h9
      exact .inr rfl
theorem app_strg {ops : Array Oper} {rest : List Oper} {o : Oper} {a : Act} {Q : Exit → Act → World → Prop} {w : World} (hgd : o.guard = none) (sl x : Operand)
    (ho : o.op = .call { callee := .builtin .append, args := #[sl, x], argTypes := #[22, 9] })
    {lo : Nat} {A : Option Addr} {n c : Nat} {b : List UInt8} (hown : BS w lo A n c b) (hs : a.eval sl = .slice A n c) {s : ByteArray} (hx : a.eval x = .string s)
    (hn : n + s.size ≤ 70368744177664) (hbase : lo ≤ w.heap.size)
    (h : ∀ A' c' w', BS w' lo A' (n + s.size) c' (b ++ s.data.toList) → Gr A A' w w' → wpList Try.prog ops Q rest (a.put o.dst (.slice A' (n + s.size) c')) w') : wpList Try.prog ops Q (o :: rest) a w := by
  obtain ⟨i0, hi, hz0, hz1, hz2⟩ := info_parts info_u8
  refine wpList_plain hgd fun K hK => ?_
  obtain ⟨v', w', hr, h2, h3, h4⟩ := Lib.run_append_own_string (P := Try.prog) w lo 22 9 o.type 5 i0 Try.underlying22 Try.underlying9 hi hz0 hz1 hz2 _ _ _ hown s (by unfold maxLen; omega) (by omega) hbase
  have h5 := str_own hown hn hbase hr
  obtain ⟨A', c', rfl⟩ := own_shape h2
  have h6 : BS w' lo A' (n + s.size) c' (b ++ s.data.toList) := by
    have e : u8s b ++ Lib.strCells s = u8s (b ++ s.data.toList) := by rw [u8s_append]; rfl
    rw [e] at h2
    exact h2
  unfold Oper.wp execOp
  simp only [ho, resolve, invoke, builtin, Sem.run_bind, Sem.run_pure, Result.andThen_ok, List.map_toArray, List.map_cons, List.map_nil, hs, hx, hr]
  exact hK _ _ (h A' c' w' h6 (gr_of h3 h5))
/-- append(xs, s...) as one step of a region that draws. -/
theorem app_strs {ops : Array Oper} {o : Oper} {a : Act} {K : Act → World → Prop} {Q : Exit → Act → World → Prop} {E : Prop} {w : World} (hgd : o.guard = none) (sl x : Operand)
    (ho : o.op = .call { callee := .builtin .append, args := #[sl, x], argTypes := #[22, 9] })
    {lo : Nat} {A : Option Addr} {n c : Nat} {b : List UInt8} (hown : BS w lo A n c b) (hs : a.eval sl = .slice A n c) {s : ByteArray} (hx : a.eval x = .string s)
    (hn : n + s.size ≤ 70368744177664) (hbase : lo ≤ w.heap.size)
    (h : ∀ A' c' w', BS w' lo A' (n + s.size) c' (b ++ s.data.toList) → Below lo w w' → K (a.put o.dst (.slice A' (n + s.size) c')) w') : if Region.wanted o (yielded ops a.tmps) = true then Oper.wp Try.prog o a w K Q else E := by
  have hw : Region.wanted o (yielded ops a.tmps) = true := by simp [Region.wanted, hgd]
  rw [if_pos hw]
  obtain ⟨i0, hi, hz0, hz1, hz2⟩ := info_parts info_u8
  obtain ⟨v', w', hr, h2, h3, h4⟩ := Lib.run_append_own_string (P := Try.prog) w lo 22 9 o.type 5 i0 Try.underlying22 Try.underlying9 hi hz0 hz1 hz2 _ _ _ hown s (by unfold maxLen; omega) (by omega) hbase
  have h5 := str_own hown hn hbase hr
  obtain ⟨A', c', rfl⟩ := own_shape h2
  have h6 : BS w' lo A' (n + s.size) c' (b ++ s.data.toList) := by
    have e : u8s b ++ Lib.strCells s = u8s (b ++ s.data.toList) := by rw [u8s_append]; rfl
    rw [e] at h2
    exact h2
  unfold Oper.wp execOp
  simp only [ho, resolve, invoke, builtin, Sem.run_bind, Sem.run_pure, Result.andThen_ok, List.map_toArray, List.map_cons, List.map_nil, hs, hx, hr]
  exact h A' c' w' h6 ((gr_of (A := A) (A' := A') h3 h5).below hown hbase)
end Go.Proofs.Ytihhedmehlemmaa
