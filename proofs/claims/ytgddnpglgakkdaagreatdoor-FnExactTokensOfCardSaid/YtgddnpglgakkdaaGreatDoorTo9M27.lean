/- Rows of tokens that grow. Written by gen/tokens.py. ReadToken: plain, for both sides. Written by gen/readtok.py. -/
import Derived.Test.YtgddnpglgakkdaaGreatDoorTo9TokP
import Derived.Test.YtgddnpglgakkdaaGreatDoorTo9ToksM
import Derived.Deep.LoopGhost
set_option linter.unusedVariables false
set_option maxRecDepth 100000
set_option linter.unusedSimpArgs false
namespace Go.Proofs.YtgddnpglgakkdaaGreatDoor
open Go.RowKit

theorem KS.belowT {w w' : World} {lo n c : Nat} {A : Option Addr} {l : List Tk} (h : KS w lo A n c l) (hb : Below w.heap.size w w') : KS w' lo A n c l := by
  refine ⟨h.1, ?_⟩
  rcases h.2 with h1 | ⟨g, cap, cur, h1, h2, h3, h4⟩
  · exact .inl h1
  · simp only [Value.slice.injEq] at h1
    have hlt : g < w.heap.size := World.ownsRow.lt h g (by rw [h1.1]; rfl) |>.2
    exact .inr ⟨g, cap, cur, by rw [h1.1, h1.2.2], h2, (hb.block g hlt).trans h3, h4⟩
theorem KS.fromT {w : World} {lo n c : Nat} {A : Option Addr} {l : List Tk} (h : KS w lo A n c l) (g : Nat) (hg : g ∈ blkOf A) : lo ≤ g ∧ g < w.heap.size := by
  refine World.ownsRow.lt h g ?_
  cases A with
  | none => simp [blkOf] at hg
  | some a => simp [blkOf] at hg; simp [hg, Value.ownBlock]
theorem KS.lenT {w : World} {lo n c : Nat} {A : Option Addr} {l : List Tk} (h : KS w lo A n c l) : l.length = n := h.sl.tklen
theorem KS.nilT (w : World) (lo : Nat) : KS w lo none 0 0 [] := ⟨rfl, .inl ⟨rfl, rfl⟩⟩
theorem KS.newT (w : World) : KS (w.alloc (.cells #[] 41)) w.heap.size (some ⟨w.heap.size, 0, none⟩) 0 0 [] := World.ownsRow_lit w #[] 0 (Nat.le_refl _) (by decide) rfl
theorem tkC_one : ∀ l : List Tk, ∀ x ∈ tkC l, x.oneCell' = true
  | [], x, h => by cases h
  | t :: l, x, h => by
    simp only [tkC, List.mem_cons] at h
    rcases h with rfl | rfl | rfl | rfl | h
    · rfl
    · rfl
    · rfl
    · rfl
    · exact tkC_one l x h
theorem app_tok {ops : Array Oper} {rest : List Oper} {o : Oper} {a : Act} {Q : Exit → Act → World → Prop} {w : World} (hgd : o.guard = none) (s x : Operand)
    (ho : o.op = .call { callee := .builtin .append, args := #[s, x], argTypes := #[29, 29] })
    {lo : Nat} {A : Option Addr} {n c : Nat} {b : List Tk} (hown : KS w lo A n c b) (hs : a.eval s = .slice A n c)
    {B : Nat} {A1 : Option Addr} {m c1 : Nat} {news : List Tk} (hr : Sl w B 4 A1 m c1 (tkC news)) (hx : a.eval x = .slice A1 m c1)
    (hn : n + m ≤ 1099511627776) (hbase : lo ≤ w.heap.size)
    (h : ∀ A' c' w', KS w' lo A' (n + m) c' (b ++ news) → Gr A A' w w' → wpList Tryz.prog ops Q rest (a.put o.dst (.slice A' (n + m) c')) w') : wpList Tryz.prog ops Q (o :: rest) a w := by
  obtain ⟨i0, hi, hz0, hz1, hz2⟩ := info_parts info_tok
  refine wpList_append_sl _ hgd s x 29 ho lo 41 i0 (.agg #[.int .i64 0, .string ⟨#[]⟩, .int .i64 0, .int .i64 0]) 4 40 Tryz.underlying29 hi hz0 hz1 hz2 rfl (by decide) (.slice A n c) n (tkC b) hs hown B A1 m c1 (tkC news) hx hr (tkC_one _) (by unfold maxLen; omega) (by omega) hbase ?_
  intro A' c' w' h1 h2 h3
  rw [← tkC_app] at h1
  exact h A' c' w' h1 (gr_of h2 h3)
theorem tok1 (w : World) (t : Tk) : Sl (w.alloc (.cells #[.int .i64 t.k, .string t.s, .int .i64 t.n, .int .i64 t.x] 41)) (w.heap.size + 1) 4 (some ⟨w.heap.size, 0, none⟩) 1 1 (tkC [t]) :=
  Sl.lit w 41 #[_, _, _, _] 4 1 rfl (by decide) _ (Nat.lt_succ_self _)
theorem tok1g (w : World) (t : Tk) (gx : Nat) (h : w.heap.size = gx) : Sl (w.alloc (.cells #[.int .i64 t.k, .string t.s, .int .i64 t.n, .int .i64 t.x] 41)) (gx + 1) 4 (some ⟨gx, 0, none⟩) 1 1 (tkC [t]) := by subst h; exact tok1 w t
theorem KS.newG (w : World) (gx : Nat) (h : w.heap.size = gx) : KS (w.alloc (.cells #[] 41)) gx (some ⟨gx, 0, none⟩) 0 0 [] := by subst h; exact KS.newT w
theorem toksG_len {l : List UInt8} (hl : l.length ≤ 1073741824) : ∀ (f p : Nat) (acc : List Tk), p ≤ l.length → acc.length ≤ p → (toksG l f p acc).1.length ≤ l.length
  | 0, p, acc, h1, h2 => by unfold toksG; exact Nat.zero_le _
  | f + 1, p, acc, h1, h2 => by
    obtain ⟨⟨t, q, c⟩, hr⟩ : ∃ r, tokP l p = r := ⟨_, rfl⟩
    obtain ⟨a, b, k, d⟩ := tokP_ok (l := l) (i := (p : Int)) hl
    rw [hr] at a b k d
    simp only [Int.toNat_natCast] at a b k d
    by_cases hc : c = 0
    · subst hc
      obtain ⟨q', rfl, e2, e3, e4⟩ := d rfl
      by_cases hk : t.k = 0
      · rw [toksG_end hr hk]; show acc.length ≤ _; omega
      · rw [toksG_step hr hk]
        obtain ⟨e5, e6⟩ := e4 hk
        rw [Int.toNat_natCast]
        exact toksG_len hl f q' (acc ++ [t]) e3 (by simp; omega)
    · rw [toksG_bad hr hc]; exact Nat.zero_le _
theorem toksL_len {l : List UInt8} (hl : l.length ≤ 1073741824) : (toksL l).1.length ≤ l.length := toksG_len hl _ _ _ (by omega) (by simp)
def TokensAt (w w' : World) (l : List UInt8) (e : Ending) : Prop := ∃ A n c, e = .returned (.tuple #[.slice A n c, .int .i64 (toksL l).2]) ∧ KS w' w.heap.size A n c (toksL l).1 ∧ Below w.heap.size w w'
end Go.Proofs.YtgddnpglgakkdaaGreatDoor

namespace Go.Proofs.YtgddnpglgakkdaaGreatDoor
open Go.RowKit

/-- What is left of the words at the j-th. -/
def wordG (l : List UInt8) (p : Nat) : Nat → TkR
  | 0 => wordP l p
  | 1 => if Lib.hasPrefix (l.drop p) wTrue = true then (⟨4, ⟨wTrue.toArray⟩, 0, 0⟩, (p : Int) + 4, 0) else if Lib.hasPrefix (l.drop p) wFalse = true then (⟨4, ⟨wFalse.toArray⟩, 0, 0⟩, (p : Int) + 5, 0) else (noTk, 0, 1)
  | 2 => if Lib.hasPrefix (l.drop p) wFalse = true then (⟨4, ⟨wFalse.toArray⟩, 0, 0⟩, (p : Int) + 5, 0) else (noTk, 0, 1)
  | _ => (noTk, 0, 1)
def wordOf : Nat → List UInt8
  | 0 => wNull
  | 1 => wTrue
  | _ => wFalse
theorem wordG_yes {l : List UInt8} {p : Nat} : ∀ {j : Nat}, j < 3 → Lib.hasPrefix (l.drop p) (wordOf j) = true → wordG l p j = (⟨4, ⟨(wordOf j).toArray⟩, 0, 0⟩, (p : Int) + (wordOf j).length, 0)
  | 0, _, h => if_pos h
  | 1, _, h => if_pos h
  | 2, _, h => if_pos h
  | j + 3, h0, _ => by omega
theorem wordG_no {l : List UInt8} {p : Nat} : ∀ {j : Nat}, j < 3 → Lib.hasPrefix (l.drop p) (wordOf j) = false → wordG l p j = wordG l p (j + 1)
  | 0, _, h => if_neg (by rw [show Lib.hasPrefix (l.drop p) wNull = false from h]; decide)
  | 1, _, h => if_neg (by rw [show Lib.hasPrefix (l.drop p) wTrue = false from h]; decide)
  | 2, _, h => if_neg (by rw [show Lib.hasPrefix (l.drop p) wFalse = false from h]; decide)
  | j + 3, h0, _ => by omega
theorem Blk.tokQ {w : World} {g : Nat} {t : TypeId} {y0 y1 y2 y3 : Value} (h : Blk w g t #[y0, y1, y2, y3]) (a b c d : Value) : Blk ((((w.setCell ⟨g, 0, none⟩ a).setCell ⟨g, 1, none⟩ b).setCell ⟨g, 2, none⟩ c).setCell ⟨g, 3, none⟩ d) g t #[a, b, c, d] := by
  simpa using (((h.set_ 0 a).set_ 1 b).set_ 2 c).set_ 3 d
theorem below_set4 {w w' : World} {g : Nat} (K : Below w.heap.size w w') (hg : w.heap.size ≤ g) (a b c d : Value) : Below w.heap.size w ((((w'.setCell ⟨g, 0, none⟩ a).setCell ⟨g, 1, none⟩ b).setCell ⟨g, 2, none⟩ c).setCell ⟨g, 3, none⟩ d) :=
  (((K.setCell (p := ⟨g, 0, none⟩) hg a).setCell (p := ⟨g, 1, none⟩) hg b).setCell (p := ⟨g, 2, none⟩) hg c).setCell (p := ⟨g, 3, none⟩) hg d
theorem retT_eq {t t' : Tk} {q q' c c' : Int} (h1 : t = t') (h2 : q = q') (h3 : c = c') : Ending.returned (.tuple #[.agg #[.int .i64 t.k, .string t.s, .int .i64 t.n, .int .i64 t.x], .int .i64 q, .int .i64 c]) = retT (t', q', c') := by subst h1 h2 h3; rfl
theorem extract_one (s : ByteArray) (q : Nat) (h : q < s.size) : s.extract q (q + 1) = ⟨#[s[q]]⟩ := by
  rw [extractL, show q + 1 - q = 1 by omega, List.drop_eq_getElem_cons (by rw [blen_of]; exact h), getElem_data s q h]
  rfl
theorem skip_in {l : List UInt8} {p : Nat} (h : p ≤ l.length) : tokP l (p : Int) = tokQ l (skipN l p) := by
  unfold tokP; rw [if_neg (by omega), Int.toNat_natCast]
theorem tokQ_end {l : List UInt8} {p : Nat} (h : l.length ≤ p) : tokQ l p = (noTk, (p : Int), 0) := by unfold tokQ; rw [if_pos h]
theorem tokQ_sign {l : List UInt8} {p : Nat} (h : p < l.length) (h2 : isSign (l.getD p 0) = true) : tokQ l p = (⟨1, ⟨#[l.getD p 0]⟩, 0, 0⟩, (p : Int) + 1, 0) := by
  unfold tokQ; rw [if_neg (by omega), if_pos h2]
theorem sign_no {l : List UInt8} {p : Nat} (h2 : isSign (l.getD p 0) = false) : ¬ isSign (l.getD p 0) = true := by rw [h2]; decide
theorem tokQ_quo {l : List UInt8} {p : Nat} (h : p < l.length) (h2 : isSign (l.getD p 0) = false) (h3 : l.getD p 0 = 34) : tokQ l p = quoP (quotedL l p) := by
  unfold tokQ; rw [if_neg (by omega), if_neg (sign_no h2), if_pos h3]
theorem tokQ_num {l : List UInt8} {p : Nat} (h : p < l.length) (h2 : isSign (l.getD p 0) = false) (h3 : ¬ l.getD p 0 = 34) (h4 : l.getD p 0 = 45 ∨ isDg (l.getD p 0) = true) : tokQ l p = numT (numbP l p) := by
  unfold tokQ; rw [if_neg (by omega), if_neg (sign_no h2), if_neg h3, if_pos h4]
theorem tokQ_word {l : List UInt8} {p : Nat} (h : p < l.length) (h2 : isSign (l.getD p 0) = false) (h3 : ¬ l.getD p 0 = 34) (h4 : ¬ l.getD p 0 = 45) (h5 : isDg (l.getD p 0) = false) : tokQ l p = wordP l p := by
  unfold tokQ; rw [if_neg (by omega), if_neg (sign_no h2), if_neg h3, if_neg (fun h => by rcases h with h | h; exact h4 h; rw [h5] at h; cases h)]
theorem ba_dataW (W : List UInt8) : (⟨W.toArray⟩ : ByteArray).data.toList = W := by simp
end Go.Proofs.YtgddnpglgakkdaaGreatDoor
