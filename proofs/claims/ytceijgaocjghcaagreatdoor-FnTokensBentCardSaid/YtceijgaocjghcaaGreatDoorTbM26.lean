/- Lists of tokens: the laws' helpers on them. Rows of tokens that grow. Written by gen/tokens.py. -/
import Derived.Test.YtceijgaocjghcaaGreatDoorTbM23
import Derived.Test.YtceijgaocjghcaaGreatDoorTbM25
import Derived.Deep.LoopGhost
import Derived.Deep.RegionHeld3
import Derived.Test.YtceijgaocjghcaaGreatDoorTbTokP
set_option linter.unusedVariables false
set_option maxRecDepth 100000
set_option linter.unusedSimpArgs false
namespace Go.Proofs.YtceijgaocjghcaaGreatDoor
open Go.RowKit

theorem tkC_app : ∀ (a b : List Tk), tkC (a ++ b) = tkC a ++ tkC b
  | [], b => rfl
  | p :: a, b => by simp only [List.cons_append, tkC, tkC_app a b]
theorem arr_set4 {xs ys : List Value} {y0 y1 y2 y3 a b c d : Value} {i : Nat} (h : xs.length = i) : ((((xs ++ y0 :: y1 :: y2 :: y3 :: ys).toArray.setIfInBounds i a).setIfInBounds (i + 1) b).setIfInBounds (i + 2) c).setIfInBounds (i + 3) d = (xs ++ a :: b :: c :: d :: ys).toArray := by
  subst h
  simp only [List.setIfInBounds_toArray]
  congr 1
  have e : ∀ (l : List Value) (k : Nat) (v : Value), (xs ++ l).set (xs.length + k) v = xs ++ l.set k v := fun l k v => by rw [List.set_append_right _ _ (Nat.le_add_right _ _), Nat.add_sub_cancel_left]
  have e0 := e (y0 :: y1 :: y2 :: y3 :: ys) 0 a
  rw [Nat.add_zero] at e0
  rw [e0, List.set_cons_zero, e, e, e]
  rfl
theorem info_tok : (Tryz.prog.info? 31).map (fun i => (i.zero, i.size, i.bytes)) = some (some (.agg #[.int .i64 0, .string ⟨#[]⟩, .int .i64 0, .int .i64 0]), 4, 40) := by kernel_rfl
theorem Blk.four {w : World} {g o : Nat} {T : TypeId} {cs : Array Value} (h : Blk w g T cs) (hs : o + 4 ≤ cs.size) (a b c : Value) :
    ∃ x0 x1 x2 x3, (w.cell? ⟨g, o, none⟩ = some x0 ∧ w.frozen? ⟨g, o, none⟩ = false) ∧
      ((w.setCell ⟨g, o, none⟩ a).cell? ⟨g, o + 1, none⟩ = some x1 ∧ (w.setCell ⟨g, o, none⟩ a).frozen? ⟨g, o + 1, none⟩ = false) ∧
      (((w.setCell ⟨g, o, none⟩ a).setCell ⟨g, o + 1, none⟩ b).cell? ⟨g, o + 2, none⟩ = some x2 ∧ ((w.setCell ⟨g, o, none⟩ a).setCell ⟨g, o + 1, none⟩ b).frozen? ⟨g, o + 2, none⟩ = false) ∧
      ((((w.setCell ⟨g, o, none⟩ a).setCell ⟨g, o + 1, none⟩ b).setCell ⟨g, o + 2, none⟩ c).cell? ⟨g, o + 3, none⟩ = some x3 ∧ (((w.setCell ⟨g, o, none⟩ a).setCell ⟨g, o + 1, none⟩ b).setCell ⟨g, o + 2, none⟩ c).frozen? ⟨g, o + 3, none⟩ = false) := by
  have h1 := h.set_ o a
  have h2 := h1.set_ (o + 1) b
  have h3 := h2.set_ (o + 2) c
  have g0 : ∀ (k : Nat), k < cs.size → ∃ v, cs[k]? = some v := fun k hk => ⟨_, Array.getElem?_eq_getElem hk⟩
  exact ⟨_, _, _, _, ⟨(h.cell o).trans (Array.getElem?_eq_getElem (by omega)), h.frozen o⟩, ⟨(h1.cell (o + 1)).trans (Array.getElem?_eq_getElem (by simp; omega)), h1.frozen _⟩,
    ⟨(h2.cell (o + 2)).trans (Array.getElem?_eq_getElem (by simp; omega)), h2.frozen _⟩, ⟨(h3.cell (o + 3)).trans (Array.getElem?_eq_getElem (by simp; omega)), h3.frozen _⟩⟩
/-- Tokens in a row of the call's own. -/
def KS (w : World) (lo : Nat) (A : Option Addr) (n c : Nat) (l : List Tk) : Prop := w.ownsRow lo 31 4 (.slice A n c) n (tkC l)
theorem KS.sl {w : World} {lo n c : Nat} {A : Option Addr} {l : List Tk} (h : KS w lo A n c l) : Sl w w.heap.size 4 A n c (tkC l) := Sl.of_own h
end Go.Proofs.YtceijgaocjghcaaGreatDoor

namespace Go.Proofs.YtceijgaocjghcaaGreatDoor
open Go.RowKit

theorem KS.belowT {w w' : World} {lo n c : Nat} {A : Option Addr} {l : List Tk} (h : KS w lo A n c l) (hb : Below w.heap.size w w') : KS w' lo A n c l := by
  refine ⟨h.1, ?_⟩
  rcases h.2 with h1 | ⟨g, cap, cur, h1, h2, h3, h4⟩
  · exact .inl h1
  · simp only [Value.slice.injEq] at h1
    have hlt : g < w.heap.size := World.ownsRow.lt h g (by rw [h1.1]; rfl) |>.2
    exact .inr ⟨g, cap, cur, by rw [h1.1, h1.2.2], h2, (hb.block g hlt).trans h3, h4⟩
theorem KS.fromT {w : World} {lo n c : Nat} {A : Option Addr} {l : List Tk} (h : KS w lo A n c l) (g : Nat) (hg : g ∈ blkOf A) : lo ≤ g ∧ g < w.heap.size := by
  refine World.ownsRow.lt h g ?_
  cases A with
  | none => simp [blkOf] at hg
  | some a => simp [blkOf] at hg; simp [hg, Value.ownBlock]
theorem KS.lenT {w : World} {lo n c : Nat} {A : Option Addr} {l : List Tk} (h : KS w lo A n c l) : l.length = n := h.sl.tklen
theorem KS.nilT (w : World) (lo : Nat) : KS w lo none 0 0 [] := ⟨rfl, .inl ⟨rfl, rfl⟩⟩
theorem KS.newT (w : World) : KS (w.alloc (.cells #[] 31)) w.heap.size (some ⟨w.heap.size, 0, none⟩) 0 0 [] := World.ownsRow_lit w #[] 0 (Nat.le_refl _) (by decide) rfl
theorem tkC_one : ∀ l : List Tk, ∀ x ∈ tkC l, x.oneCell' = true
  | [], x, h => by cases h
  | t :: l, x, h => by
    simp only [tkC, List.mem_cons] at h
    rcases h with rfl | rfl | rfl | rfl | h
    · rfl
    · rfl
    · rfl
    · rfl
    · exact tkC_one l x h
theorem app_tok {ops : Array Oper} {rest : List Oper} {o : Oper} {a : Act} {Q : Exit → Act → World → Prop} {w : World} (hgd : o.guard = none) (s x : Operand)
    (ho : o.op = .call { callee := .builtin .append, args := #[s, x], argTypes := #[25, 25] })
    {lo : Nat} {A : Option Addr} {n c : Nat} {b : List Tk} (hown : KS w lo A n c b) (hs : a.eval s = .slice A n c)
    {B : Nat} {A1 : Option Addr} {m c1 : Nat} {news : List Tk} (hr : Sl w B 4 A1 m c1 (tkC news)) (hx : a.eval x = .slice A1 m c1)
    (hn : n + m ≤ 1099511627776) (hbase : lo ≤ w.heap.size)
    (h : ∀ A' c' w', KS w' lo A' (n + m) c' (b ++ news) → Gr A A' w w' → wpList Tryz.prog ops Q rest (a.put o.dst (.slice A' (n + m) c')) w') : wpList Tryz.prog ops Q (o :: rest) a w := by
  obtain ⟨i0, hi, hz0, hz1, hz2⟩ := info_parts info_tok
  refine wpList_append_sl _ hgd s x 25 ho lo 31 i0 (.agg #[.int .i64 0, .string ⟨#[]⟩, .int .i64 0, .int .i64 0]) 4 40 Tryz.underlying25 hi hz0 hz1 hz2 rfl (by decide) (.slice A n c) n (tkC b) hs hown B A1 m c1 (tkC news) hx hr (tkC_one _) (by unfold maxLen; omega) (by omega) hbase ?_
  intro A' c' w' h1 h2 h3
  rw [← tkC_app] at h1
  exact h A' c' w' h1 (gr_of h2 h3)
theorem tok1 (w : World) (t : Tk) : Sl (w.alloc (.cells #[.int .i64 t.k, .string t.s, .int .i64 t.n, .int .i64 t.x] 31)) (w.heap.size + 1) 4 (some ⟨w.heap.size, 0, none⟩) 1 1 (tkC [t]) :=
  Sl.lit w 31 #[_, _, _, _] 4 1 rfl (by decide) _ (Nat.lt_succ_self _)
theorem tok1g (w : World) (t : Tk) (gx : Nat) (h : w.heap.size = gx) : Sl (w.alloc (.cells #[.int .i64 t.k, .string t.s, .int .i64 t.n, .int .i64 t.x] 31)) (gx + 1) 4 (some ⟨gx, 0, none⟩) 1 1 (tkC [t]) := by subst h; exact tok1 w t
theorem KS.newG (w : World) (gx : Nat) (h : w.heap.size = gx) : KS (w.alloc (.cells #[] 31)) gx (some ⟨gx, 0, none⟩) 0 0 [] := by subst h; exact KS.newT w
theorem toksG_len {l : List UInt8} (hl : l.length ≤ 1073741824) : ∀ (f p : Nat) (acc : List Tk), p ≤ l.length → acc.length ≤ p → (toksG l f p acc).1.length ≤ l.length
  | 0, p, acc, h1, h2 => by unfold toksG; exact Nat.zero_le _
  | f + 1, p, acc, h1, h2 => by
    obtain ⟨⟨t, q, c⟩, hr⟩ : ∃ r, tokP l p = r := ⟨_, rfl⟩
    obtain ⟨a, b, k, d⟩ := tokP_ok (l := l) (i := (p : Int)) hl
    rw [hr] at a b k d
    simp only [Int.toNat_natCast] at a b k d
    by_cases hc : c = 0
    · subst hc
      obtain ⟨q', rfl, e2, e3, e4⟩ := d rfl
      by_cases hk : t.k = 0
      · rw [toksG_end hr hk]; show acc.length ≤ _; omega
      · rw [toksG_step hr hk]
        obtain ⟨e5, e6⟩ := e4 hk
        rw [Int.toNat_natCast]
        exact toksG_len hl f q' (acc ++ [t]) e3 (by simp; omega)
    · rw [toksG_bad hr hc]; exact Nat.zero_le _
theorem toksL_len {l : List UInt8} (hl : l.length ≤ 1073741824) : (toksL l).1.length ≤ l.length := toksG_len hl _ _ _ (by omega) (by simp)
def TokensAt (w w' : World) (l : List UInt8) (e : Ending) : Prop := ∃ A n c, e = .returned (.tuple #[.slice A n c, .int .i64 (toksL l).2]) ∧ KS w' w.heap.size A n c (toksL l).1 ∧ Below w.heap.size w w'
end Go.Proofs.YtceijgaocjghcaaGreatDoor
