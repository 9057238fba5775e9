/- Steps of the drawn region that inserts a pair into a row: two literals, appends. -/
import Derived.Test.YtjjcdlghichmdaaNamesP
set_option linter.unusedVariables false
set_option maxRecDepth 100000
set_option linter.unusedSimpArgs false
namespace Go.Proofs.Ytjjcdlghichmdaa
open Go.RowKit

/-- A tree loaded, whatever the world that holds it. -/
theorem yields_load5 {ops : Array Oper} {S : World → Prop} {d : Option Tmp} {ty : TypeId} {pos : String} {af : Array Edge} {x : Tmp} {a : Act} {g off : Nat} {t : Tr} {e : El}
    (hx : a.tmps[x]?.getD undef = .pointer (some ⟨g, off, none⟩)) (h : ∀ w, S w → Cells5 w g off t e) :
    YieldsIf Try.prog ops S { dst := d, op := .load 28 (.tmp x), type := ty, pos := pos, after := af, guard := none } (.agg #[.int .i64 t.k, .int .i64 t.n, .int .i64 t.x, .string t.s, .slice e.A e.n e.c]) a := by
  refine .inl ⟨by simp [Region.wanted], fun w hS => ?_⟩
  obtain ⟨c0, c1, c2, c3, c4⟩ := h w hS
  go_simp
theorem step_build0 {ops : Array Oper} {d : Option Tmp} {ty : TypeId} {pos : String} {af : Array Edge} {a : Act} {K : Act → World → Prop} {Q : Exit → Act → World → Prop} {E : Prop} {w : World}
    (hK : K (a.put d (.slice (some ⟨w.heap.size, 0, none⟩) 0 0)) (w.alloc (.cells #[] 28))) :
    if Region.wanted { dst := d, op := .buildSlice 26 0 #[], type := ty, pos := pos, after := af, guard := none } (yielded ops a.tmps) = true then Oper.wp Try.prog { dst := d, op := .buildSlice 26 0 #[], type := ty, pos := pos, after := af, guard := none } a w K Q else E := by
  rw [if_pos (by simp [Region.wanted])]
  go_simp
  exact hK
theorem step_build2 {ops : Array Oper} {d : Option Tmp} {ty : TypeId} {pos : String} {af : Array Edge} {x y : Tmp} {a : Act} {K : Act → World → Prop} {Q : Exit → Act → World → Prop} {E : Prop} {w : World} {t u : Tr} {e f : El}
    (hx : a.tmps[x]?.getD undef = .agg #[.int .i64 t.k, .int .i64 t.n, .int .i64 t.x, .string t.s, .slice e.A e.n e.c]) (hy : a.tmps[y]?.getD undef = .agg #[.int .i64 u.k, .int .i64 u.n, .int .i64 u.x, .string u.s, .slice f.A f.n f.c])
    (hK : K (a.put d (.slice (some ⟨w.heap.size, 0, none⟩) 2 2)) (w.alloc (.cells #[.int .i64 t.k, .int .i64 t.n, .int .i64 t.x, .string t.s, .slice e.A e.n e.c, .int .i64 u.k, .int .i64 u.n, .int .i64 u.x, .string u.s, .slice f.A f.n f.c] 28))) :
    if Region.wanted { dst := d, op := .buildSlice 26 2 #[(0, .tmp x), (1, .tmp y)], type := ty, pos := pos, after := af, guard := none } (yielded ops a.tmps) = true then Oper.wp Try.prog { dst := d, op := .buildSlice 26 2 #[(0, .tmp x), (1, .tmp y)], type := ty, pos := pos, after := af, guard := none } a w K Q else E := by
  rw [if_pos (by simp [Region.wanted])]
  go_simp
  exact hK
/-- append(row, cells...), the row being of the call's own. -/
theorem step_appr {ops : Array Oper} {d : Option Tmp} {ty : TypeId} {pos : String} {af : Array Edge} {s x : Tmp} {a : Act} {K : Act → World → Prop} {Q : Exit → Act → World → Prop} {E : Prop} {w : World} {lo n c m c1 B : Nat} {A A1 : Option Addr} {cs news : List Value}
    (hs : a.tmps[s]?.getD undef = .slice A n c) (hx : a.tmps[x]?.getD undef = .slice A1 m c1) (h : w.ownsRow lo 28 5 (.slice A n c) n cs) (hr : Sl w B 5 A1 m c1 news) (h1 : ∀ v ∈ news, v.oneCell' = true) (hn : n + m ≤ 1099511627776) (hbase : lo ≤ w.heap.size)
    (hK : ∀ A' c' w', w'.ownsRow lo 28 5 (.slice A' (n + m) c') (n + m) (cs ++ news) → Gr A A' w w' → K (a.put d (.slice A' (n + m) c')) w') :
    if Region.wanted { dst := d, op := .call { callee := .builtin .append, args := #[.tmp s, .tmp x], argTypes := #[26, 26] }, type := ty, pos := pos, after := af, guard := none } (yielded ops a.tmps) = true then Oper.wp Try.prog { dst := d, op := .call { callee := .builtin .append, args := #[.tmp s, .tmp x], argTypes := #[26, 26] }, type := ty, pos := pos, after := af, guard := none } a w K Q else E := by
  obtain ⟨i0, hi, hz0, hz1, hz2⟩ := info_parts info_val
  refine step_append_sl (ops := ops) (o := { dst := d, op := .call { callee := .builtin .append, args := #[.tmp s, .tmp x], argTypes := #[26, 26] }, type := ty, pos := pos, after := af, guard := none }) _ rfl (.tmp s) (.tmp x) 26 rfl lo 28 i0 (.agg #[.int .i64 0, .int .i64 0, .int .i64 0, .string ByteArray.empty, .slice none 0 0]) 5 64 Try.underlying26 hi hz0 hz1 hz2 rfl (by decide) (.slice A n c) n cs (by first | exact hs | simpa [Act.eval] using hs) h B A1 m c1 news (by first | exact hx | simpa [Act.eval] using hx) hr h1 (by unfold maxLen; omega) (by omega) hbase ?_
  intro A' c' w' h2 h3 h4
  have hg := gr_of (n' := n + m) (c' := c') h3 h4
  exact hK A' c' w' h2 hg
abbrev XT (X : List (Tr × El)) : List Tr := X.map Prod.fst
abbrev XE (X : List (Tr × El)) : List El := X.map Prod.snd
/-- The cells of trees with their lists. -/
def cellsX : List (Tr × El) → List Value
  | [] => []
  | x :: X => [.int .i64 x.1.k, .int .i64 x.1.n, .int .i64 x.1.x, .string x.1.s, .slice x.2.A x.2.n x.2.c] ++ cellsX X
theorem cellsX_of : ∀ X : List (Tr × El), cellsOf (XT X) (XE X) = cellsX X
  | [] => rfl
  | x :: X => by simp only [XT, XE, List.map_cons, cellsOf, cellsX]; rw [← cellsX_of X]
theorem cellsX_app : ∀ X Y : List (Tr × El), cellsX (X ++ Y) = cellsX X ++ cellsX Y
  | [], Y => rfl
  | x :: X, Y => by simp only [List.cons_append, cellsX, cellsX_app X Y, List.append_assoc]
theorem cellsX_len : ∀ X : List (Tr × El), (cellsX X).length = X.length * 5
  | [] => rfl
  | x :: X => by simp only [cellsX, List.length_append, cellsX_len X, List.length_cons]; simp; omega
theorem cellsX_one : ∀ (X : List (Tr × El)), ∀ v ∈ cellsX X, v.oneCell' = true
  | [], v, h => by cases h
  | x :: X, v, h => by
    simp only [cellsX, List.mem_append, List.mem_cons, List.not_mem_nil, or_false] at h
    rcases h with (rfl | rfl | rfl | rfl | rfl) | h
    · rfl
    · rfl
    · rfl
    · rfl
    · rfl
    · exact cellsX_one X v h
theorem cellsX_take (X : List (Tr × El)) (k : Nat) (h : k ≤ X.length) : (cellsX X).take (k * 5) = cellsX (X.take k) := by
  conv => lhs; rw [← List.take_append_drop k X, cellsX_app]
  rw [List.take_append_of_le_length (by rw [cellsX_len, List.length_take]; omega), List.take_of_length_le (by rw [cellsX_len, List.length_take]; omega)]
theorem cellsX_drop (X : List (Tr × El)) (k : Nat) (h : k ≤ X.length) : (cellsX X).drop (k * 5) = cellsX (X.drop k) := by
  conv => lhs; rw [← List.take_append_drop k X, cellsX_app]
  rw [List.drop_append_of_le_length (by rw [cellsX_len, List.length_take]; omega), List.drop_eq_nil_of_le (by rw [cellsX_len, List.length_take]; omega), List.nil_append]
/-- The first trees of a row, and the others. -/
theorem sl_take {w : World} {B n c g k : Nat} {X : List (Tr × El)} (h : Sl w B 5 (some ⟨g, 0, none⟩) n c (cellsX X)) (hn : X.length = n) (hk : k ≤ n) : Sl w B 5 (some ⟨g, 0, none⟩) k c (cellsX (X.take k)) := by
  refine ⟨by rw [cellsX_len, List.length_take]; omega, by have := h.cap; omega, h.max, fun h0 => ?_⟩
  obtain ⟨g2, o2, e, hb, hc⟩ := h.at_ (by omega)
  refine ⟨g2, o2, e, hb, fun j u hu => hc j u ?_⟩
  rw [← cellsX_take X k (by omega)] at hu
  rw [List.getElem?_take] at hu
  split at hu
  · exact hu
  · cases hu
theorem sl_drop {w : World} {B n c g k : Nat} {X : List (Tr × El)} (h : Sl w B 5 (some ⟨g, 0, none⟩) n c (cellsX X)) (hn : X.length = n) (hk : k ≤ n) : Sl w B 5 (some ⟨g, k * 5, none⟩) (n - k) (c - k) (cellsX (X.drop k)) := by
  refine ⟨by rw [cellsX_len, List.length_drop]; omega, by have := h.cap; omega, by have := h.max; omega, fun h0 => ?_⟩
  obtain ⟨g2, o2, e, hb, hc⟩ := h.at_ (by omega)
  simp only [Option.some.injEq, Addr.mk.injEq, and_true] at e
  obtain ⟨rfl, rfl⟩ := e
  refine ⟨g, k * 5, rfl, hb, fun j u hu => ?_⟩
  rw [← cellsX_drop X k (by omega), List.getElem?_drop] at hu
  have := hc _ _ hu
  rw [Nat.zero_add] at this
  exact this
theorem sl_drop2 {w : World} {B n c g k : Nat} {X : List (Tr × El)} (h : Sl w B 5 (some ⟨g, 0, none⟩) n c (cellsX X)) (hn : X.length = n) (hk : k ≤ n) : Sl w B 5 (if c = k then some ⟨g, 0, none⟩ else some ⟨g, k * 5, none⟩) (n - k) (c - k) (cellsX (X.drop k)) := by
  have h2 := sl_drop h hn hk
  by_cases e : c = k
  · rw [if_pos e]
    have hc := h.cap
    exact ⟨h2.len, h2.cap, h2.max, fun h0 => by omega⟩
  · rw [if_neg e]; exact h2
theorem blk_fr {w w' : World} {g : Nat} {T : TypeId} {cs : Array Value} {fp : List Nat} (h : Blk w g T cs) (hf : Fr fp w w') (hn : g ∉ fp) : Blk w' g T cs := (hf.block g h.lt hn).trans h
theorem sl_lit {w : World} {g : Nat} {T : TypeId} {a b : Tr × El} (h : Blk w g T #[.int .i64 a.1.k, .int .i64 a.1.n, .int .i64 a.1.x, .string a.1.s, .slice a.2.A a.2.n a.2.c, .int .i64 b.1.k, .int .i64 b.1.n, .int .i64 b.1.x, .string b.1.s, .slice b.2.A b.2.n b.2.c]) : Sl w (g + 1) 5 (some ⟨g, 0, none⟩) 2 2 (cellsX [a, b]) := by
  refine ⟨by simp [cellsX], Nat.le_refl _, by unfold maxLen; omega, fun _ => ⟨g, 0, rfl, Nat.lt_succ_self _, fun j u hu => ?_⟩⟩
  rw [Nat.zero_add, h.cell j]
  simpa [cellsX] using hu
theorem own_bel {w w' : World} {lo : Nat} {e : TypeId} {m n n2 c : Nat} {A : Option Addr} {xs : List Value} (h : w.ownsRow lo e m (.slice A n c) n2 xs) (hb : Below w.heap.size w w') : w'.ownsRow lo e m (.slice A n c) n2 xs :=
  row_heap h fun g hg => hb.block g (row_lt h hg).2
/-- A row of borrowed trees out of its cells. -/
theorem NV.mk_ {w : World} {lo L n c : Nat} {A : Option Addr} {Y : List (Tr × El)} {cs : List Value} (h : w.ownsRow L 28 5 (.slice A n c) n cs) (hlo : lo ≤ L) (hcs : cs = cellsX Y) (hn : Y.length = n) (kids : ∀ x ∈ Y, LsAt w x.1.l x.2) (low : ∀ x ∈ Y, ∀ g ∈ x.2.fp, g < lo) : NV w lo A n c (XT Y) (XE Y) := by
  refine ⟨by rw [cellsX_of, ← hcs]; exact own_mono h hlo, by simpa [XT] using hn, by simpa [XE] using hn, fun j t u a b => ?_, fun g hg => ?_⟩
  · simp only [XT, XE, List.getElem?_map] at a b
    obtain ⟨x, hx, rfl⟩ := Option.map_eq_some_iff.1 a
    rw [hx] at b
    obtain rfl := Option.some.inj b
    exact kids x (List.mem_of_getElem? hx)
  · obtain ⟨l, hl, hgl⟩ := List.mem_flatten.1 hg
    obtain ⟨e, he, rfl⟩ := List.mem_map.1 hl
    obtain ⟨x, hx, rfl⟩ := List.mem_map.1 he
    exact low x hx g hgl
theorem own_some {w : World} {L n c : Nat} {A : Option Addr} {cs : List Value} {e : TypeId} {m n2 : Nat} (h : w.ownsRow L e m (.slice A n c) n2 cs) (hn : 0 < n) : ∃ g, A = some ⟨g, 0, none⟩ := by
  rcases h.2 with ⟨e, _⟩ | ⟨g, cap, cur, e, _⟩
  · simp only [Value.slice.injEq] at e; omega
  · simp only [Value.slice.injEq] at e; exact ⟨g, e.1⟩
theorem NV.sl_ {w : World} {lo n c : Nat} {A : Option Addr} {X : List (Tr × El)} (h : NV w lo A n c (XT X) (XE X)) : Sl w w.heap.size 5 A n c (cellsX X) := by
  have := Sl.of_own h.row
  rw [cellsX_of] at this
  exact this
/-- The row as a list of the call's own. -/
theorem NV.own_ {w : World} {lo lo0 n c : Nat} {A : Option Addr} {l : List Tr} {es : List El} (h : NV w lo A n c l es) (ho : Own w lo0 (elFp es)) (hl : lo0 ≤ lo) (h0 : 0 < n) : ∃ fp, LsAt w l ⟨A, n, c, fp⟩ ∧ Own w lo0 fp ∧ ∀ x ∈ fp, lo ≤ x ∨ x ∈ elFp es := by
  obtain ⟨hc, hm⟩ := h.cap
  rcases h.row.2 with ⟨e, _⟩ | ⟨g, cap, cur, e, hb, hh, _⟩
  · simp only [Value.slice.injEq] at e; omega
  · simp only [Value.slice.injEq] at e
    have hA : A = some ⟨g, 0, none⟩ := e.1
    have hg : g ∈ blkOf A := by rw [hA]; simp [blkOf]
    have hcl := h.row.cells (g := g) (by rw [hA]; rfl)
    have ea : ∀ k, (⟨g, 0, none⟩ : Addr).add k = ⟨g, 0 + k, none⟩ := fun k => by unfold Addr.add; split <;> simp_all
    have f := fun k v hv => by have := hcl k v hv; rw [ea] at this; exact this
    have hgl := (row_lt h.row hg).1
    refine ⟨g :: elFp es, (lsAt_iff _ _).2 ⟨h.len, hc, hm, es, h.eslen, fun h => absurd h (Nat.ne_of_gt h0), fun _ => ⟨g, 0, hA, rfl, fun j t u a b => ?_⟩, fun j t u a b => (trAt_ls _ _).2 (h.kids j t u a b)⟩, ⟨List.nodup_cons.2 ⟨fun hx => by have := h.low g hx; omega, ho.1⟩, fun x hx => ?_⟩, fun x hx => ?_⟩
    · obtain ⟨a0, a1, a2, a3, a4⟩ := cellsOf_get l es j t u a b (by rw [h.len, h.eslen])
      exact ⟨f _ _ a0, f _ _ a1, f _ _ a2, f _ _ a3, f _ _ a4⟩
    · rcases List.mem_cons.1 hx with rfl | hx
      · exact ⟨by omega, _, _, hh⟩
      · exact ho.2 x hx
    · rcases List.mem_cons.1 hx with rfl | hx
      · exact .inl hgl
      · exact .inr hx
theorem insG_cells (Y : List (Tr × El)) (a b : Tr × El) (P : Nat) : cellsX (insG Y a b P) = cellsX (Y.take (2 * P)) ++ cellsX [a, b] ++ cellsX (Y.drop (2 * P)) := by
  unfold insG
  rw [cellsX_app, List.append_assoc, ← cellsX_app [a, b]]
  rfl
theorem insG_mem {Y : List (Tr × El)} {a b x : Tr × El} {P : Nat} (h : x ∈ insG Y a b P) : x = a ∨ x = b ∨ x ∈ Y := by
  unfold insG at h
  rcases List.mem_append.1 h with h | h
  · exact .inr (.inr (List.mem_of_mem_take h))
  · rcases List.mem_cons.1 h with rfl | h
    · exact .inl rfl
    · rcases List.mem_cons.1 h with rfl | h
      · exact .inr (.inl rfl)
      · exact .inr (.inr (List.mem_of_mem_drop h))
end Go.Proofs.Ytjjcdlghichmdaa
