/- Byte slices that the call itself made; append onto them; the laws' marks on them. A list of trees, opened; one tree of it replaced. No function of the program in sight. The laws' markText. -/
import Derived.Test.YtmnlkedacnemcaaGreatDoorTwM1
import Derived.Test.YtmnlkedacnemcaaGreatDoorTwM3
import Derived.Test.YtmnlkedacnemcaaGreatDoorTwM2
import Derived.Deep.LoopGhost
set_option linter.unusedVariables false
set_option maxRecDepth 100000
set_option linter.unusedSimpArgs false
namespace Go.Proofs.YtmnlkedacnemcaaGreatDoor
open Go.RowKit

/-- The slice is a row of bytes of the call's own (its block from lo up, or none), and holds b. -/
def BS (w : World) (lo : Nat) (A : Option Addr) (n c : Nat) (b : List UInt8) : Prop := w.ownsRow lo 5 1 (.slice A n c) n (u8s b)
section
variable {w w' : World} {lo lo' B n c : Nat} {A : Option Addr} {b : List UInt8}
theorem BS.sl (h : BS w lo A n c b) : Sl w w.heap.size 1 A n c (u8s b) := Sl.of_own h
theorem BS.len (h : BS w lo A n c b) : b.length = n := h.sl.blen
theorem BS.cap (h : BS w lo A n c b) : n ≤ maxLen := Nat.le_trans h.sl.cap h.sl.max
theorem BS.alloc (h : BS w lo A n c b) (o : Obj) : BS (w.alloc o) lo A n c b := World.ownsRow.alloc h o
theorem BS.mono (h : BS w lo A n c b) (hb : lo' ≤ lo) : BS w lo' A n c b := own_mono h hb
theorem BS.heap (h : BS w lo A n c b) (he : ∀ g, A.map Addr.block = some g → w'.heap[g]? = w.heap[g]?) : BS w' lo A n c b := by
  refine ⟨h.1, ?_⟩
  rcases h.2 with h1 | ⟨g, cap, cur, h1, h2, h3, h4⟩
  · exact .inl h1
  · simp only [Value.slice.injEq] at h1
    exact .inr ⟨g, cap, cur, by rw [h1.1, h1.2.2], h2, (he g (by rw [h1.1]; rfl)).trans h3, h4⟩
theorem BS.lt (h : BS w lo A n c b) {g : Nat} (hg : A.map Addr.block = some g) : lo ≤ g ∧ g < w.heap.size := by
  refine World.ownsRow.lt h g ?_
  cases A with
  | none => cases hg
  | some a => exact hg
theorem BS.below (h : BS w lo A n c b) (hb : Below w.heap.size w w') : BS w' lo A n c b := h.heap fun g hg => hb.block g (h.lt hg).2
theorem BS.drewN (h : BS w lo A n c b) (k : Nat) : BS (w.drewN k) lo A n c b := h
theorem BS.drew (h : BS w lo A n c b) : BS w.drew lo A n c b := h
theorem BS.new (w : World) : BS (w.alloc (.cells #[] 5)) w.heap.size (some ⟨w.heap.size, 0, none⟩) 0 0 [] := World.ownsRow_lit w #[] 0 (Nat.le_refl _) (by decide) rfl
theorem BS.new' (w : World) (g : Nat) (hg : w.heap.size = g) : BS (w.alloc (.cells #[] 5)) g (some ⟨g, 0, none⟩) 0 0 [] := by subst hg; exact BS.new w
theorem BS.nil_ (w : World) (lo : Nat) : BS w lo none 0 0 [] := World.ownsRow_nil _ _ _ _
end
theorem Blk.drew {w : World} {g : Nat} {t : TypeId} {cs : Array Value} (h : Blk w g t cs) : Blk w.drew g t cs := h
theorem below_undrew {B : Nat} {a w : World} (h : Below B a w.drew) : Below B a w := ⟨h.os, h.tape, h.output, h.size, h.block⟩
/-- Every block but those of fp is as it was. -/
structure Fr (fp : List Nat) (w w' : World) : Prop where
  os : w'.os = w.os
  tape : w'.tape = w.tape
  output : w'.output = w.output
  size : w.heap.size ≤ w'.heap.size
  block : ∀ k, k < w.heap.size → k ∉ fp → w'.heap[k]? = w.heap[k]?
section
variable {fp fp' : List Nat} {w w' w1 w2 : World} {lo B n c : Nat} {A : Option Addr} {b : List UInt8}
theorem Fr.refl (fp : List Nat) (w : World) : Fr fp w w := ⟨rfl, rfl, rfl, Nat.le_refl _, fun _ _ _ => rfl⟩
theorem Fr.drew (h : Fr fp w w') : Fr fp w w'.drew := ⟨h.os, h.tape, h.output, h.size, h.block⟩
theorem Fr.drewN (h : Fr fp w w') (k : Nat) : Fr fp w (w'.drewN k) := ⟨h.os, h.tape, h.output, h.size, h.block⟩
theorem Fr.trans (h : Fr fp w w1) (k : Fr fp w1 w2) : Fr fp w w2 :=
  ⟨k.os.trans h.os, k.tape.trans h.tape, k.output.trans h.output, Nat.le_trans h.size k.size, fun i hi hn => (k.block i (Nat.lt_of_lt_of_le hi h.size) hn).trans (h.block i hi hn)⟩
theorem Fr.mono (h : Fr fp w w') (hs : ∀ g ∈ fp, g ∈ fp') : Fr fp' w w' := ⟨h.os, h.tape, h.output, h.size, fun k hk hn => h.block k hk fun he => hn (hs k he)⟩
theorem Fr.of_below (h : Below w.heap.size w w') : Fr fp w w' := ⟨h.os, h.tape, h.output, h.size, fun k hk _ => h.block k hk⟩
theorem Fr.below (h : Fr fp w w') (hl : ∀ g ∈ fp, B ≤ g) (hB : B ≤ w.heap.size) : Below B w w' :=
  ⟨h.os, h.tape, h.output, h.size, fun k hk => h.block k (Nat.lt_of_lt_of_le hk hB) fun he => Nat.lt_irrefl _ (Nat.lt_of_lt_of_le hk (hl k he))⟩
theorem Fr.setCell (h : Fr fp w w') {p : Addr} (hp : p.block ∈ fp) (u : Value) : Fr fp w (w'.setCell p u) :=
  h.trans ⟨rfl, rfl, rfl, by simp [World.setCell], fun k _ hn => Below.heap_setCell _ _ _ _ fun e => hn (e ▸ hp)⟩
def blkOf (A : Option Addr) : List Nat := (A.map Addr.block).toList
theorem mem_blkOf {A : Option Addr} {g : Nat} : g ∈ blkOf A ↔ A.map Addr.block = some g := by cases A <;> simp [blkOf, eq_comm]
theorem BS.fr (h : BS w lo A n c b) (hf : Fr fp w w') (hd : ∀ g ∈ blkOf A, g ∉ fp) : BS w' lo A n c b :=
  h.heap fun g hg => hf.block g (h.lt hg).2 (hd g (mem_blkOf.2 hg))
theorem BS.from_ (h : BS w lo A n c b) (g : Nat) (hg : g ∈ blkOf A) : lo ≤ g := (h.lt (mem_blkOf.1 hg)).1
theorem BS.to_ (h : BS w lo A n c b) (g : Nat) (hg : g ∈ blkOf A) : g < w.heap.size := (h.lt (mem_blkOf.1 hg)).2
theorem Sl.heap_ {m : Nat} {xs : List Value} (h : Sl w B m A n c xs) (he : ∀ g ∈ blkOf A, g < B → w'.heap[g]? = w.heap[g]?) : Sl w' B m A n c xs :=
  ⟨h.len, h.cap, h.max, fun hn => by
    obtain ⟨g, o, e, hb, hc⟩ := h.at_ hn
    exact ⟨g, o, e, hb, fun j u hu => (World.cell?_of_block (w := w) (w' := w') (a := ⟨g, o + j, none⟩) (he g (by rw [e]; simp [blkOf]) hb)).trans (hc j u hu)⟩⟩
end
theorem ownBlock_lt {A : Option Addr} {n c g : Nat} (h : (Value.slice A n c).ownBlock = some g) : g ∈ blkOf A := by
  cases A with
  | none => cases h
  | some a => simp [blkOf]; simp [Value.ownBlock] at h; exact h.symm
/-- append(xs, ys...) where xs is a row of bytes of the call's own. -/
theorem app_u8 {ops : Array Oper} {rest : List Oper} {o : Oper} {a : Act} {Q : Exit → Act → World → Prop} {w : World} (hgd : o.guard = none) (s x : Operand)
    (ho : o.op = .call { callee := .builtin .append, args := #[s, x], argTypes := #[22, 22] })
    {lo : Nat} {A : Option Addr} {n c : Nat} {b : List UInt8} (hown : BS w lo A n c b) (hs : a.eval s = .slice A n c)
    {B : Nat} {A1 : Option Addr} {m c1 : Nat} {news : List UInt8} (hr : Sl w B 1 A1 m c1 (u8s news)) (hx : a.eval x = .slice A1 m c1)
    (hn : n + m ≤ 70368744177664) (hbase : lo ≤ w.heap.size)
    (h : ∀ A' c' w', BS w' lo A' (n + m) c' (b ++ news) → Below lo w w' → wpList Tryz.prog ops Q rest (a.put o.dst (.slice A' (n + m) c')) w') : wpList Tryz.prog ops Q (o :: rest) a w := by
  obtain ⟨i0, hi, hz0, hz1, hz2⟩ := info_parts info_u8
  refine wpList_append_sl _ hgd s x 22 ho lo 5 i0 (.int .u8 0) 1 1 Tryz.underlying22 hi hz0 hz1 hz2 rfl (by decide) (.slice A n c) n (u8s b) hs hown B A1 m c1 (u8s news) hx hr (u8s_one _) (by unfold maxLen; omega) (by omega) hbase ?_
  intro A' c' w' h1 h2 _
  rw [← u8s_append] at h1
  exact h A' c' w' h1 (below_append (Below.refl _ _) hown (Nat.le_refl _) hbase h2)
theorem app_u8s {ops : Array Oper} {o : Oper} {a : Act} {K : Act → World → Prop} {Q : Exit → Act → World → Prop} {E : Prop} {w : World} (hgd : o.guard = none) (s x : Operand)
    (ho : o.op = .call { callee := .builtin .append, args := #[s, x], argTypes := #[22, 22] })
    {lo : Nat} {A : Option Addr} {n c : Nat} {b : List UInt8} (hown : BS w lo A n c b) (hs : a.eval s = .slice A n c)
    {B : Nat} {A1 : Option Addr} {m c1 : Nat} {news : List UInt8} (hr : Sl w B 1 A1 m c1 (u8s news)) (hx : a.eval x = .slice A1 m c1)
    (hn : n + m ≤ 70368744177664) (hbase : lo ≤ w.heap.size)
    (h : ∀ A' c' w', BS w' lo A' (n + m) c' (b ++ news) → Below lo w w' → K (a.put o.dst (.slice A' (n + m) c')) w') : if Region.wanted o (yielded ops a.tmps) = true then Oper.wp Tryz.prog o a w K Q else E := by
  obtain ⟨i0, hi, hz0, hz1, hz2⟩ := info_parts info_u8
  refine step_append_sl _ hgd s x 22 ho lo 5 i0 (.int .u8 0) 1 1 Tryz.underlying22 hi hz0 hz1 hz2 rfl (by decide) (.slice A n c) n (u8s b) hs hown B A1 m c1 (u8s news) hx hr (u8s_one _) (by unfold maxLen; omega) (by omega) hbase ?_
  intro A' c' w' h1 h2 _
  rw [← u8s_append] at h1
  exact h A' c' w' h1 (below_append (Below.refl _ _) hown (Nat.le_refl _) hbase h2)
theorem lit1 (w : World) (x : Int) (h : 0 ≤ x ∧ x < 256) : Sl (w.alloc (.cells #[.int .u8 x] 5)) (w.heap.size + 1) 1 (some ⟨w.heap.size, 0, none⟩) 1 1 (u8s [UInt8.ofNat x.toNat]) :=
  Sl.congr (u8s_of1 (m1 := x.toNat) (by omega) (by omega)) (Sl.lit w 5 #[_] 1 1 rfl (by decide) _ (Nat.lt_succ_self _))
/-- The bytes that the marks from k on leave in a row of n. -/
def marksB (k n : Nat) : List UInt8 := (List.range n).map fun j => UInt8.ofNat ((k + j) % 256)
theorem marksB_len (k n : Nat) : (marksB k n).length = n := by simp [marksB]
theorem marksB_get (k n j : Nat) (h : j < n) : (u8s (marksB k n))[j]? = some (.int .u8 ((k + j : Nat) % 256 : Nat)) := by
  rw [u8s_get _ _ (by rw [marksB_len]; exact h)]
  simp [marksB]
theorem u8s_take (b : List UInt8) (k : Nat) : (u8s b).take k = u8s (b.take k) := by simp [u8s]
theorem u8s_drop (b : List UInt8) (k : Nat) : (u8s b).drop k = u8s (b.drop k) := by simp [u8s]
theorem wrap64_as {n : Int} (h : -9223372036854775808 ≤ n ∧ n ≤ 9223372036854775807) : wrap64 n = n := by unfold wrap64; omega
theorem set_take_step {α : Type} (l m : List α) (k : Nat) (hm : m.length = l.length) (hk : k < l.length) (h : k < m.length) :
    (m.take k ++ l.drop k).set k m[k] = m.take (k + 1) ++ l.drop (k + 1) := by
  rw [List.set_append_right _ _ (by simp; omega), List.length_take, Nat.min_eq_left (by omega), Nat.sub_self, List.drop_eq_getElem_cons hk, List.set_cons_zero, List.take_succ_eq_append_getElem h, List.append_assoc]
  rfl
theorem BS.at_ {w : World} {lo n c : Nat} {A : Option Addr} {b : List UInt8} (h : BS w lo A n c b) (hn : 0 < n) : ∃ g, A = some ⟨g, 0, none⟩ := by
  rcases h.2 with ⟨_, h2⟩ | ⟨g, cap, cur, h1, _⟩
  · omega
  · simp only [Value.slice.injEq] at h1; exact ⟨g, h1.1⟩
/-- The cells of a box, and all below the world's size as it was. -/
abbrev Box2 (w0 : World) (g : Nat) (a b : Value) (w' : World) : Prop := (w'.cell? ⟨g, 0, none⟩ = some a ∧ w'.cell? ⟨g, 1, none⟩ = some b) ∧ Below w0.heap.size w0 w'
abbrev Box3 (w0 : World) (g : Nat) (a b c : Value) (w' : World) : Prop := (w'.cell? ⟨g, 0, none⟩ = some a ∧ w'.cell? ⟨g, 1, none⟩ = some b ∧ w'.cell? ⟨g, 2, none⟩ = some c) ∧ Below w0.heap.size w0 w'
theorem Blk.box2 {w0 w' : World} {g : Nat} {T : TypeId} {a b : Value} (h : Blk w0 g T #[a, b]) (hb : Below w0.heap.size w0 w') : Box2 w0 g a b w' :=
  ⟨⟨(h.below hb h.lt).cell 0, (h.below hb h.lt).cell 1⟩, hb⟩
theorem Blk.box3 {w0 w' : World} {g : Nat} {T : TypeId} {a b c : Value} (h : Blk w0 g T #[a, b, c]) (hb : Below w0.heap.size w0 w') : Box3 w0 g a b c w' :=
  ⟨⟨(h.below hb h.lt).cell 0, (h.below hb h.lt).cell 1, (h.below hb h.lt).cell 2⟩, hb⟩
theorem blkU {w w1 : World} {T : TypeId} {cs : Array Value} {o : Obj} (h : Below (w.heap.size + 1) ((w.alloc (.cells cs T)).alloc o) w1) : Blk w1 w.heap.size T cs ∧ Below w.heap.size w w1 :=
  ⟨((Blk.new w _ _).alloc o).below h (Nat.lt_succ_self _), (Below.two w _ _).trans (h.mono (Nat.le_succ _))⟩
abbrev BoxL2 (w0 : World) (lo g : Nat) (a b : Value) (w' : World) : Prop := (w'.cell? ⟨g, 0, none⟩ = some a ∧ w'.cell? ⟨g, 1, none⟩ = some b) ∧ Below lo w0 w'
theorem Blk.boxL2 {w0 w' : World} {lo g : Nat} {T : TypeId} {a b : Value} (h : Blk w0 g T #[a, b]) (hg : g < lo) (hb : Below lo w0 w') : BoxL2 w0 lo g a b w' :=
  ⟨⟨(h.below hb hg).cell 0, (h.below hb hg).cell 1⟩, hb⟩
theorem Below.of_drew {B : Nat} {w w' : World} (h : Below B w.drew w') : Below B w w' := ⟨h.os, h.tape, h.output, h.size, h.block⟩
end Go.Proofs.YtmnlkedacnemcaaGreatDoor

namespace Go.Proofs.YtmnlkedacnemcaaGreatDoor
open Go.RowKit

/-- The list l lies in block g from o on, its trees' lists at es. -/
structure LsV (w : World) (l : List Tr) (e : El) (g o : Nat) (es : List El) : Prop where
  len : l.length = e.n
  cap : e.n ≤ e.c
  max : e.c ≤ maxLen
  eslen : es.length = e.n
  adr : e.A = some ⟨g, o, none⟩
  fp : e.fp = g :: elFp es
  cells : ∀ (j : Nat) (t : Tr) (u : El), l[j]? = some t → es[j]? = some u → Cells5 w g (o + j * 5) t u
  kids : ∀ (j : Nat) (t : Tr) (u : El), l[j]? = some t → es[j]? = some u → LsAt w t.l u
theorem LsAt.open_ {w : World} {l : List Tr} {e : El} (h : LsAt w l e) (hn : 0 < e.n) : ∃ g o es, LsV w l e g o es := by
  obtain ⟨h1, h2, h3, es, h4, h5, h6, h7⟩ := (lsAt_iff l e).1 h
  obtain ⟨g, o, hA, hf, hc⟩ := h6 hn
  exact ⟨g, o, es, h1, h2, h3, h4, hA, hf, hc, fun j t u a b => (trAt_ls _ _).1 (h7 j t u a b)⟩
theorem LsV.close {w : World} {l : List Tr} {e : El} {g o : Nat} {es : List El} (h : LsV w l e g o es) (hn : 0 < e.n) : LsAt w l e :=
  (lsAt_iff l e).2 ⟨h.len, h.cap, h.max, es, h.eslen, fun h0 => absurd h0 (by omega), fun _ => ⟨g, o, h.adr, h.fp, h.cells⟩, fun j t u a b => (trAt_ls _ _).2 (h.kids j t u a b)⟩
theorem LsV.keep {w w' : World} {l : List Tr} {e : El} {g o : Nat} {es : List El} (h : LsV w l e g o es) (hk : ∀ g2 ∈ e.fp, ∀ o2, w'.cell? ⟨g2, o2, none⟩ = w.cell? ⟨g2, o2, none⟩) : LsV w' l e g o es :=
  ⟨h.len, h.cap, h.max, h.eslen, h.adr, h.fp, fun j t u a b => by
    obtain ⟨c0, c1, c2, c3, c4⟩ := h.cells j t u a b
    have hg := hk g (by rw [h.fp]; exact List.mem_cons_self)
    exact ⟨(hg _).trans c0, (hg _).trans c1, (hg _).trans c2, (hg _).trans c3, (hg _).trans c4⟩,
   fun j t u a b => (h.kids j t u a b).keep fun g2 hg2 => hk g2 (by rw [h.fp]; exact List.mem_cons_of_mem _ (elFp_mem b hg2))⟩
theorem LsV.below {w w' : World} {l : List Tr} {e : El} {g o B : Nat} {es : List El} (h : LsV w l e g o es) (hl : e.lt B) (hb : Below B w w') : LsV w' l e g o es := h.keep fun g2 hg2 o2 => hb.cell (p := ⟨g2, o2, none⟩) (hl g2 hg2)
theorem LsV.drew {w : World} {l : List Tr} {e : El} {g o : Nat} {es : List El} (h : LsV w l e g o es) : LsV w.drew l e g o es := h.keep fun _ _ _ => rfl
theorem LsV.drewN {w : World} {l : List Tr} {e : El} {g o : Nat} {es : List El} (h : LsV w l e g o es) (k : Nat) : LsV (w.drewN k) l e g o es := h.keep fun _ _ _ => rfl
theorem elFp_set {es : List El} {j : Nat} {u u' : El} (h : es[j]? = some u) (hf : u'.fp = u.fp) : elFp (es.set j u') = elFp es := by
  unfold elFp
  congr 1
  refine List.ext_getElem? fun i => ?_
  rw [List.getElem?_map, List.getElem?_map, List.getElem?_set]
  split
  · rename_i e; subst e
    rw [h]
    split
    · simp [hf]
    · rename_i e2; exact absurd (List.getElem?_eq_some_iff.1 h).1 e2
  · rfl
/-- The tree at j replaced; all else as it was. -/
theorem LsV.put {w w' : World} {l : List Tr} {e : El} {g o : Nat} {es : List El} (h : LsV w l e g o es) {j : Nat} (hj : j < e.n) {t' : Tr} {u' : El} (hc : Cells5 w' g (o + j * 5) t' u') (hl : LsAt w' t'.l u')
    (hg : ∀ o2, o2 < o + j * 5 ∨ o + j * 5 + 5 ≤ o2 → w'.cell? ⟨g, o2, none⟩ = w.cell? ⟨g, o2, none⟩)
    (hk : ∀ i u, i ≠ j → es[i]? = some u → ∀ g2 ∈ u.fp, ∀ o2, w'.cell? ⟨g2, o2, none⟩ = w.cell? ⟨g2, o2, none⟩) :
    LsV w' (l.set j t') ⟨e.A, e.n, e.c, g :: elFp (es.set j u')⟩ g o (es.set j u') := by
  refine ⟨by rw [List.length_set]; exact h.len, h.cap, h.max, by rw [List.length_set]; exact h.eslen, h.adr, rfl, fun i t u a b => ?_, fun i t u a b => ?_⟩
  · rw [List.getElem?_set] at a b
    by_cases e : j = i
    · subst e
      have := h.len; have := h.eslen
      rw [if_pos rfl, if_pos (by omega)] at a b
      obtain rfl := Option.some.inj a
      obtain rfl := Option.some.inj b
      exact hc
    · rw [if_neg e] at a b
      obtain ⟨c0, c1, c2, c3, c4⟩ := h.cells i t u a b
      exact ⟨(hg _ (by omega)).trans c0, (hg _ (by omega)).trans c1, (hg _ (by omega)).trans c2, (hg _ (by omega)).trans c3, (hg _ (by omega)).trans c4⟩
  · rw [List.getElem?_set] at a b
    by_cases e : j = i
    · subst e
      have := h.len; have := h.eslen
      rw [if_pos rfl, if_pos (by omega)] at a b
      obtain rfl := Option.some.inj a
      obtain rfl := Option.some.inj b
      exact hl
    · rw [if_neg e] at a b
      exact (h.kids i t u a b).keep (hk i u (fun e2 => e e2.symm) b)
/-- Two trees' blocks in a list are apart, and apart from the list's own. -/
theorem LsV.apart {w : World} {l : List Tr} {e : El} {g o : Nat} {es : List El} (h : LsV w l e g o es) (hn : e.fp.Nodup) : g ∉ elFp es ∧ (∀ (i : Nat) (u : El), es[i]? = some u → g ∉ u.fp ∧ u.fp.Nodup) ∧
    ∀ (i j : Nat) (u v : El), i ≠ j → es[i]? = some u → es[j]? = some v → ∀ x ∈ u.fp, x ∉ v.fp := by
  rw [h.fp, List.nodup_cons] at hn
  have hpf := List.pairwise_flatten.1 (show List.Pairwise (· ≠ ·) (es.map El.fp).flatten from hn.2)
  refine ⟨hn.1, fun i u hu => ⟨fun hg => hn.1 (elFp_mem hu hg), hpf.1 _ (List.mem_map.2 ⟨u, List.mem_of_getElem? hu, rfl⟩)⟩, fun i j u v hij hu hv x hx hx2 => ?_⟩
  have hu2 : (es.map El.fp)[i]? = some u.fp := by rw [List.getElem?_map, hu]; rfl
  have hv2 : (es.map El.fp)[j]? = some v.fp := by rw [List.getElem?_map, hv]; rfl
  obtain ⟨hi, hi2⟩ := List.getElem?_eq_some_iff.1 hu2
  obtain ⟨hj, hj2⟩ := List.getElem?_eq_some_iff.1 hv2
  have hd := List.pairwise_iff_getElem.1 hpf.2
  rcases Nat.lt_or_gt_of_ne hij with hlt | hlt
  · have := hd i j hi hj hlt
    rw [hi2, hj2] at this
    exact this x hx x hx2 rfl
  · have := hd j i hj hi hlt
    rw [hi2, hj2] at this
    exact this x hx2 x hx rfl
theorem LsAt.fr {w w' : World} {l : List Tr} {e : El} {fp : List Nat} (h : LsAt w l e) (hf : Fr fp w w') (hl : e.lt w.heap.size) (hd : ∀ g ∈ e.fp, g ∉ fp) : LsAt w' l e :=
  h.keep fun g hg o => World.cell?_of_block (w := w) (w' := w') (a := ⟨g, o, none⟩) (hf.block g (hl g hg) (hd g hg))
theorem Own.fr {w w' : World} {lo : Nat} {a fp : List Nat} (h : Own w lo a) (hf : Fr fp w w') (hd : ∀ g ∈ a, g ∉ fp) : Own w' lo a :=
  ⟨h.1, fun g hg => by
    obtain ⟨h1, T, cs, h2⟩ := h.2 g hg
    exact ⟨h1, T, cs, (hf.block g h2.lt (hd g hg)).trans h2⟩⟩
theorem Own.sub {w : World} {lo : Nat} {a b : List Nat} (h : Own w lo a) (hb : b.Nodup) (hs : ∀ g ∈ b, g ∈ a) : Own w lo b := ⟨hb, fun g hg => h.2 g (hs g hg)⟩
theorem fr_set5 {fp : List Nat} {w w' : World} {g o : Nat} {t : Tr} {e : El} (h : Fr fp w w') (hg : g ∈ fp) : Fr fp w (set5 w' g o t e) :=
  ((((h.setCell (p := ⟨g, o, none⟩) hg _).setCell (p := ⟨g, o + 1, none⟩) hg _).setCell (p := ⟨g, o + 2, none⟩) hg _).setCell (p := ⟨g, o + 3, none⟩) hg _).setCell (p := ⟨g, o + 4, none⟩) hg _
end Go.Proofs.YtmnlkedacnemcaaGreatDoor

namespace Go.Proofs.YtmnlkedacnemcaaGreatDoor
open Go.RowKit

def dec10 : Nat → Nat → List UInt8 → List UInt8
  | 0, _, acc => acc
  | f + 1, k, acc => if k = 0 then acc else dec10 f (k / 10) (UInt8.ofNat (48 + k % 10) :: acc)
/-- The mark that a text bears. -/
def mkT (k : Nat) : ByteArray := ⟨(109 :: dec10 20 k []).toArray⟩
theorem ba_cons (c : UInt8) (l : List UInt8) : (⟨#[c]⟩ : ByteArray) ++ ⟨l.toArray⟩ = ⟨(c :: l).toArray⟩ := by
  apply ByteArray.ext
  simp [ByteArray.data_append]
end Go.Proofs.YtmnlkedacnemcaaGreatDoor
