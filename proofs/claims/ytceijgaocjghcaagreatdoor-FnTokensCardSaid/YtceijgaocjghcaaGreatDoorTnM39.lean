/- Rows of tokens that grow. Written by gen/tokens.py. ReadToken: plain, for both sides. Written by gen/readtok.py. JoinTokens: impl and spec. -/
import Derived.Test.YtceijgaocjghcaaGreatDoorTnTokP
import Derived.Test.YtceijgaocjghcaaGreatDoorTnToksM
import Derived.Deep.LoopGhost
import Derived.Test.YtceijgaocjghcaaGreatDoorTnM32
import Derived.Test.YtceijgaocjghcaaGreatDoorShelf
set_option linter.unusedVariables false
set_option maxRecDepth 100000
set_option linter.unusedSimpArgs false
namespace Go.Proofs.YtceijgaocjghcaaGreatDoor
open Go.RowKit

theorem KS.belowT {w w' : World} {lo n c : Nat} {A : Option Addr} {l : List Tk} (h : KS w lo A n c l) (hb : Below w.heap.size w w') : KS w' lo A n c l := by
  refine ⟨h.1, ?_⟩
  rcases h.2 with h1 | ⟨g, cap, cur, h1, h2, h3, h4⟩
  · exact .inl h1
  · simp only [Value.slice.injEq] at h1
    have hlt : g < w.heap.size := World.ownsRow.lt h g (by rw [h1.1]; rfl) |>.2
    exact .inr ⟨g, cap, cur, by rw [h1.1, h1.2.2], h2, (hb.block g hlt).trans h3, h4⟩
theorem KS.fromT {w : World} {lo n c : Nat} {A : Option Addr} {l : List Tk} (h : KS w lo A n c l) (g : Nat) (hg : g ∈ blkOf A) : lo ≤ g ∧ g < w.heap.size := by
  refine World.ownsRow.lt h g ?_
  cases A with
  | none => simp [blkOf] at hg
  | some a => simp [blkOf] at hg; simp [hg, Value.ownBlock]
theorem KS.lenT {w : World} {lo n c : Nat} {A : Option Addr} {l : List Tk} (h : KS w lo A n c l) : l.length = n := h.sl.tklen
theorem KS.nilT (w : World) (lo : Nat) : KS w lo none 0 0 [] := ⟨rfl, .inl ⟨rfl, rfl⟩⟩
theorem KS.newT (w : World) : KS (w.alloc (.cells #[] 31)) w.heap.size (some ⟨w.heap.size, 0, none⟩) 0 0 [] := World.ownsRow_lit w #[] 0 (Nat.le_refl _) (by decide) rfl
theorem tkC_one : ∀ l : List Tk, ∀ x ∈ tkC l, x.oneCell' = true
  | [], x, h => by cases h
  | t :: l, x, h => by
    simp only [tkC, List.mem_cons] at h
    rcases h with rfl | rfl | rfl | rfl | h
    · rfl
    · rfl
    · rfl
    · rfl
    · exact tkC_one l x h
theorem app_tok {ops : Array Oper} {rest : List Oper} {o : Oper} {a : Act} {Q : Exit → Act → World → Prop} {w : World} (hgd : o.guard = none) (s x : Operand)
    (ho : o.op = .call { callee := .builtin .append, args := #[s, x], argTypes := #[25, 25] })
    {lo : Nat} {A : Option Addr} {n c : Nat} {b : List Tk} (hown : KS w lo A n c b) (hs : a.eval s = .slice A n c)
    {B : Nat} {A1 : Option Addr} {m c1 : Nat} {news : List Tk} (hr : Sl w B 4 A1 m c1 (tkC news)) (hx : a.eval x = .slice A1 m c1)
    (hn : n + m ≤ 1099511627776) (hbase : lo ≤ w.heap.size)
    (h : ∀ A' c' w', KS w' lo A' (n + m) c' (b ++ news) → Gr A A' w w' → wpList Tryz.prog ops Q rest (a.put o.dst (.slice A' (n + m) c')) w') : wpList Tryz.prog ops Q (o :: rest) a w := by
  obtain ⟨i0, hi, hz0, hz1, hz2⟩ := info_parts info_tok
  refine wpList_append_sl _ hgd s x 25 ho lo 31 i0 (.agg #[.int .i64 0, .string ⟨#[]⟩, .int .i64 0, .int .i64 0]) 4 40 Tryz.underlying25 hi hz0 hz1 hz2 rfl (by decide) (.slice A n c) n (tkC b) hs hown B A1 m c1 (tkC news) hx hr (tkC_one _) (by unfold maxLen; omega) (by omega) hbase ?_
  intro A' c' w' h1 h2 h3
  rw [← tkC_app] at h1
  exact h A' c' w' h1 (gr_of h2 h3)
theorem tok1 (w : World) (t : Tk) : Sl (w.alloc (.cells #[.int .i64 t.k, .string t.s, .int .i64 t.n, .int .i64 t.x] 31)) (w.heap.size + 1) 4 (some ⟨w.heap.size, 0, none⟩) 1 1 (tkC [t]) :=
  Sl.lit w 31 #[_, _, _, _] 4 1 rfl (by decide) _ (Nat.lt_succ_self _)
theorem tok1g (w : World) (t : Tk) (gx : Nat) (h : w.heap.size = gx) : Sl (w.alloc (.cells #[.int .i64 t.k, .string t.s, .int .i64 t.n, .int .i64 t.x] 31)) (gx + 1) 4 (some ⟨gx, 0, none⟩) 1 1 (tkC [t]) := by subst h; exact tok1 w t
theorem KS.newG (w : World) (gx : Nat) (h : w.heap.size = gx) : KS (w.alloc (.cells #[] 31)) gx (some ⟨gx, 0, none⟩) 0 0 [] := by subst h; exact KS.newT w
theorem toksG_len {l : List UInt8} (hl : l.length ≤ 1073741824) : ∀ (f p : Nat) (acc : List Tk), p ≤ l.length → acc.length ≤ p → (toksG l f p acc).1.length ≤ l.length
  | 0, p, acc, h1, h2 => by unfold toksG; exact Nat.zero_le _
  | f + 1, p, acc, h1, h2 => by
    obtain ⟨⟨t, q, c⟩, hr⟩ : ∃ r, tokP l p = r := ⟨_, rfl⟩
    obtain ⟨a, b, k, d⟩ := tokP_ok (l := l) (i := (p : Int)) hl
    rw [hr] at a b k d
    simp only [Int.toNat_natCast] at a b k d
    by_cases hc : c = 0
    · subst hc
      obtain ⟨q', rfl, e2, e3, e4⟩ := d rfl
      by_cases hk : t.k = 0
      · rw [toksG_end hr hk]; show acc.length ≤ _; omega
      · rw [toksG_step hr hk]
        obtain ⟨e5, e6⟩ := e4 hk
        rw [Int.toNat_natCast]
        exact toksG_len hl f q' (acc ++ [t]) e3 (by simp; omega)
    · rw [toksG_bad hr hc]; exact Nat.zero_le _
theorem toksL_len {l : List UInt8} (hl : l.length ≤ 1073741824) : (toksL l).1.length ≤ l.length := toksG_len hl _ _ _ (by omega) (by simp)
def TokensAt (w w' : World) (l : List UInt8) (e : Ending) : Prop := ∃ A n c, e = .returned (.tuple #[.slice A n c, .int .i64 (toksL l).2]) ∧ KS w' w.heap.size A n c (toksL l).1 ∧ Below w.heap.size w w'
end Go.Proofs.YtceijgaocjghcaaGreatDoor

namespace Go.Proofs.YtceijgaocjghcaaGreatDoor
open Go.RowKit

/-- What is left of the words at the j-th. -/
def wordG (l : List UInt8) (p : Nat) : Nat → TkR
  | 0 => wordP l p
  | 1 => if Lib.hasPrefix (l.drop p) wTrue = true then (⟨4, ⟨wTrue.toArray⟩, 0, 0⟩, (p : Int) + 4, 0) else if Lib.hasPrefix (l.drop p) wFalse = true then (⟨4, ⟨wFalse.toArray⟩, 0, 0⟩, (p : Int) + 5, 0) else (noTk, 0, 1)
  | 2 => if Lib.hasPrefix (l.drop p) wFalse = true then (⟨4, ⟨wFalse.toArray⟩, 0, 0⟩, (p : Int) + 5, 0) else (noTk, 0, 1)
  | _ => (noTk, 0, 1)
def wordOf : Nat → List UInt8
  | 0 => wNull
  | 1 => wTrue
  | _ => wFalse
theorem wordG_yes {l : List UInt8} {p : Nat} : ∀ {j : Nat}, j < 3 → Lib.hasPrefix (l.drop p) (wordOf j) = true → wordG l p j = (⟨4, ⟨(wordOf j).toArray⟩, 0, 0⟩, (p : Int) + (wordOf j).length, 0)
  | 0, _, h => if_pos h
  | 1, _, h => if_pos h
  | 2, _, h => if_pos h
  | j + 3, h0, _ => by omega
theorem wordG_no {l : List UInt8} {p : Nat} : ∀ {j : Nat}, j < 3 → Lib.hasPrefix (l.drop p) (wordOf j) = false → wordG l p j = wordG l p (j + 1)
  | 0, _, h => if_neg (by rw [show Lib.hasPrefix (l.drop p) wNull = false from h]; decide)
  | 1, _, h => if_neg (by rw [show Lib.hasPrefix (l.drop p) wTrue = false from h]; decide)
  | 2, _, h => if_neg (by rw [show Lib.hasPrefix (l.drop p) wFalse = false from h]; decide)
  | j + 3, h0, _ => by omega
theorem Blk.tokQ {w : World} {g : Nat} {t : TypeId} {y0 y1 y2 y3 : Value} (h : Blk w g t #[y0, y1, y2, y3]) (a b c d : Value) : Blk ((((w.setCell ⟨g, 0, none⟩ a).setCell ⟨g, 1, none⟩ b).setCell ⟨g, 2, none⟩ c).setCell ⟨g, 3, none⟩ d) g t #[a, b, c, d] := by
  simpa using (((h.set_ 0 a).set_ 1 b).set_ 2 c).set_ 3 d
theorem below_set4 {w w' : World} {g : Nat} (K : Below w.heap.size w w') (hg : w.heap.size ≤ g) (a b c d : Value) : Below w.heap.size w ((((w'.setCell ⟨g, 0, none⟩ a).setCell ⟨g, 1, none⟩ b).setCell ⟨g, 2, none⟩ c).setCell ⟨g, 3, none⟩ d) :=
  (((K.setCell (p := ⟨g, 0, none⟩) hg a).setCell (p := ⟨g, 1, none⟩) hg b).setCell (p := ⟨g, 2, none⟩) hg c).setCell (p := ⟨g, 3, none⟩) hg d
theorem retT_eq {t t' : Tk} {q q' c c' : Int} (h1 : t = t') (h2 : q = q') (h3 : c = c') : Ending.returned (.tuple #[.agg #[.int .i64 t.k, .string t.s, .int .i64 t.n, .int .i64 t.x], .int .i64 q, .int .i64 c]) = retT (t', q', c') := by subst h1 h2 h3; rfl
theorem extract_one (s : ByteArray) (q : Nat) (h : q < s.size) : s.extract q (q + 1) = ⟨#[s[q]]⟩ := by
  rw [extractL, show q + 1 - q = 1 by omega, List.drop_eq_getElem_cons (by rw [blen_of]; exact h), getElem_data s q h]
  rfl
theorem skip_in {l : List UInt8} {p : Nat} (h : p ≤ l.length) : tokP l (p : Int) = tokQ l (skipN l p) := by
  unfold tokP; rw [if_neg (by omega), Int.toNat_natCast]
theorem tokQ_end {l : List UInt8} {p : Nat} (h : l.length ≤ p) : tokQ l p = (noTk, (p : Int), 0) := by unfold tokQ; rw [if_pos h]
theorem tokQ_sign {l : List UInt8} {p : Nat} (h : p < l.length) (h2 : isSign (l.getD p 0) = true) : tokQ l p = (⟨1, ⟨#[l.getD p 0]⟩, 0, 0⟩, (p : Int) + 1, 0) := by
  unfold tokQ; rw [if_neg (by omega), if_pos h2]
theorem sign_no {l : List UInt8} {p : Nat} (h2 : isSign (l.getD p 0) = false) : ¬ isSign (l.getD p 0) = true := by rw [h2]; decide
theorem tokQ_quo {l : List UInt8} {p : Nat} (h : p < l.length) (h2 : isSign (l.getD p 0) = false) (h3 : l.getD p 0 = 34) : tokQ l p = quoP (quotedL l p) := by
  unfold tokQ; rw [if_neg (by omega), if_neg (sign_no h2), if_pos h3]
theorem tokQ_num {l : List UInt8} {p : Nat} (h : p < l.length) (h2 : isSign (l.getD p 0) = false) (h3 : ¬ l.getD p 0 = 34) (h4 : l.getD p 0 = 45 ∨ isDg (l.getD p 0) = true) : tokQ l p = numT (numbP l p) := by
  unfold tokQ; rw [if_neg (by omega), if_neg (sign_no h2), if_neg h3, if_pos h4]
theorem tokQ_word {l : List UInt8} {p : Nat} (h : p < l.length) (h2 : isSign (l.getD p 0) = false) (h3 : ¬ l.getD p 0 = 34) (h4 : ¬ l.getD p 0 = 45) (h5 : isDg (l.getD p 0) = false) : tokQ l p = wordP l p := by
  unfold tokQ; rw [if_neg (by omega), if_neg (sign_no h2), if_neg h3, if_neg (fun h => by rcases h with h | h; exact h4 h; rw [h5] at h; cases h)]
theorem ba_dataW (W : List UInt8) : (⟨W.toArray⟩ : ByteArray).data.toList = W := by simp
end Go.Proofs.YtceijgaocjghcaaGreatDoor

namespace Go.Proofs.YtceijgaocjghcaaGreatDoor
open Go.RowKit

set_option maxHeartbeats 1000000 in
theorem s_JoinTokens (A : Option Addr) (n c : Nat) (l : List Tk) (w : World) (B : Nat) (h : Sl w B 4 A n c (tkC l)) (hB : B ≤ w.heap.size) (hw : ∀ t ∈ l, t.wf) (hz : szK l ≤ 16777216) :
    Calls Tryz.prog 35 #[.slice A n c] w fun e w' => e = .returned (.string ⟨(joinT l).toArray⟩) ∧ Below w.heap.size w w' := by
  have hl := h.tklen
  have hnz : n ≤ 16777216 := by
    have : ∀ l : List Tk, l.length ≤ szK l := by
      intro l
      induction l with
      | nil => exact Nat.zero_le _
      | cons t l ih => rw [szK_cons, List.length_cons]; omega
    have := this l
    omega
  go_enter Tryz.func35, Tryz.ntmps35
  go_wp2_with fail
  go_loopg [3, 4] n (fun f v3 v4 wr => ∃ j : Nat, j + f = n ∧ v4 = .int .i64 j ∧ v3 = .string ⟨(joinT (l.take j)).toArray⟩ ∧ Below w.heap.size w wr)
  case atStart => exact ⟨0, by omega, rfl, rfl, Below.refl _ _⟩
  case round =>
    obtain ⟨j, hjf, rfl, rfl, hK⟩ := hrel
    by_cases hlt : j < n
    · obtain ⟨f, rfl⟩ : ∃ f, gk = f + 1 := ⟨gk - 1, by omega⟩
      obtain ⟨g, o, hjl, rfl, hg, q0, q1, q2, q3⟩ := (h.below (hK.mono hB)).tok hlt
      have hwj := hw l[j] (List.getElem_mem _)
      have hsz := szK_mem (List.getElem_mem hjl)
      have htx := txt_len hwj
      have hjt := joinT_take_len l hw j (by omega)
      have hjz := szK_le l j
      have hcall := fun w1 => s_TokenText l[j].k l[j].s l[j].n l[j].x w1 (by omega) hwj.2.2.1 hwj.2.2.2
      have hsn : joinT (l.take (j + 1)) = if l.take j = [] then l[j].txt else joinT (l.take j) ++ ([32] ++ l[j].txt) := by rw [List.take_succ_eq_append_getElem hjl, joinT_snoc]
      have htxt : tokL l[j].k l[j].s.data.toList l[j].n l[j].x = l[j].txt := rfl
      rw [htxt] at hcall
      unfold tokV at hcall
      generalize l[j].txt = T at hcall hsn htx
      have hjf2 : j + 1 + f = n := by omega
      clear hjf htxt hwj
      by_cases h0 : j = 0
      · subst h0
        rw [List.take_zero, if_pos rfl] at hsn
        simp only [Nat.zero_mul, Nat.add_zero] at q0 q1 q2 q3
        rw [List.take_zero] at hjt ⊢
        have e0 : joinT [] = [] := rfl
        rw [e0] at hjt ⊢
        go_wp2_with (go_at_call 37; refine (hcall _).mono ?_; rintro e w2 ⟨rfl, hb2⟩)
        go_roundg f
        case measure => omega
        case rel => exact ⟨1, by omega, by go_num, by rw [hsn]; first | rfl | (rw [ba_add]; rfl) | simp, hK.up hb2⟩
      · have hne : l.take j ≠ [] := by intro e; have := congrArg List.length e; rw [List.length_take, List.length_nil] at this; omega
        rw [if_neg hne] at hsn
        generalize joinT (l.take j) = J at hsn hjt ⊢
        have hj0 : (0 : Int) < (j : Int) := by omega
        clear hne
        go_wp2_with (go_at_call 37; refine (hcall _).mono ?_; rintro e w2 ⟨rfl, hb2⟩)
        go_roundg f
        case measure => omega
        case rel => exact ⟨j + 1, hjf2, by go_num, by rw [hsn, ← List.append_assoc, ← ba_add, ← ba_add], hK.up hb2⟩
    · have hj : l.take j = l := List.take_of_length_le (by omega)
      rw [hj]
      clear hj
      go_wp2_with fail
      go_ret
      exact ⟨rfl, hK⟩
/-- A row of texts of the call's own. -/
def TS (w : World) (lo : Nat) (A : Option Addr) (n c : Nat) (b : List ByteArray) : Prop := w.ownsRow lo 9 1 (.slice A n c) n (b.map Value.string)
theorem TS.sl {w : World} {lo n c : Nat} {A : Option Addr} {b : List ByteArray} (h : TS w lo A n c b) : Sl w w.heap.size 1 A n c (b.map Value.string) := Sl.of_own h
theorem TS.len {w : World} {lo n c : Nat} {A : Option Addr} {b : List ByteArray} (h : TS w lo A n c b) : b.length = n := by have := h.sl.len; simp at this; omega
theorem TS.below {w w' : World} {lo n c : Nat} {A : Option Addr} {b : List ByteArray} (h : TS w lo A n c b) (hb : Below w.heap.size w w') : TS w' lo A n c b := by
  refine ⟨h.1, ?_⟩
  rcases h.2 with h1 | ⟨g, cap, cur, h1, h2, h3, h4⟩
  · exact .inl h1
  · simp only [Value.slice.injEq] at h1
    have hlt : g < w.heap.size := World.ownsRow.lt h g (by rw [h1.1]; rfl) |>.2
    exact .inr ⟨g, cap, cur, by rw [h1.1, h1.2.2], h2, (hb.block g hlt).trans h3, h4⟩
theorem TS.from_ {w : World} {lo n c : Nat} {A : Option Addr} {b : List ByteArray} (h : TS w lo A n c b) (g : Nat) (hg : g ∈ blkOf A) : lo ≤ g := by
  refine (World.ownsRow.lt h g ?_).1
  cases A with
  | none => simp [blkOf] at hg
  | some a => simp [blkOf] at hg; simp [hg, Value.ownBlock]
theorem info_str : (Tryz.prog.info? 9).map (fun i => (i.zero, i.size, i.bytes)) = some (some (.string ⟨#[]⟩), 1, 16) := by kernel_rfl
theorem strs_one (b : List ByteArray) : ∀ x ∈ b.map Value.string, x.oneCell' = true := fun x hx => by
  obtain ⟨r, _, rfl⟩ := List.mem_map.1 hx; rfl
theorem app_text {ops : Array Oper} {rest : List Oper} {o : Oper} {a : Act} {Q : Exit → Act → World → Prop} {w : World} (hgd : o.guard = none) (s x : Operand)
    (ho : o.op = .call { callee := .builtin .append, args := #[s, x], argTypes := #[64, 64] })
    {lo : Nat} {A : Option Addr} {n c : Nat} {b : List ByteArray} (hown : TS w lo A n c b) (hs : a.eval s = .slice A n c)
    {B : Nat} {A1 : Option Addr} {m c1 : Nat} {news : List ByteArray} (hr : Sl w B 1 A1 m c1 (news.map Value.string)) (hx : a.eval x = .slice A1 m c1)
    (hn : n + m ≤ 1099511627776) (hbase : lo ≤ w.heap.size)
    (h : ∀ A' c' w', TS w' lo A' (n + m) c' (b ++ news) → Gr A A' w w' → wpList Tryz.prog ops Q rest (a.put o.dst (.slice A' (n + m) c')) w') : wpList Tryz.prog ops Q (o :: rest) a w := by
  obtain ⟨i0, hi, hz0, hz1, hz2⟩ := info_parts info_str
  refine wpList_append_sl _ hgd s x 64 ho lo 9 i0 (.string ⟨#[]⟩) 1 16 Tryz.underlying64 hi hz0 hz1 hz2 rfl (by decide) (.slice A n c) n (b.map Value.string) hs hown B A1 m c1 (news.map Value.string) hx hr (strs_one _) (by unfold maxLen; omega) (by omega) hbase ?_
  intro A' c' w' h1 h2 h3
  rw [← List.map_append] at h1
  exact h A' c' w' h1 (gr_of h2 h3)
def txB (t : Tk) : ByteArray := ⟨t.txt.toArray⟩
theorem text1 (w : World) (x : ByteArray) : Sl (w.alloc (.cells #[.string x] 9)) (w.heap.size + 1) 1 (some ⟨w.heap.size, 0, none⟩) 1 1 ([x].map Value.string) :=
  Sl.lit w 9 #[_] 1 1 rfl (by decide) _ (Nat.lt_succ_self _)
set_option maxHeartbeats 1000000 in
theorem i_JoinTokens (A : Option Addr) (n c : Nat) (l : List Tk) (w : World) (B : Nat) (h : Sl w B 4 A n c (tkC l)) (hB : B ≤ w.heap.size) (hw : ∀ t ∈ l, t.wf) (hz : szK l ≤ 16777216) (hT : Lib.Utf8Tabs 1 2 w) (hP : PowT w) :
    Calls Tryz.prog 20 #[.slice A n c] w fun e w' => e = .returned (.string ⟨(joinT l).toArray⟩) ∧ Below w.heap.size w w' := by
  have hl := h.tklen
  have hnz : n ≤ 16777216 := by
    have : ∀ l : List Tk, l.length ≤ szK l := by
      intro l
      induction l with
      | nil => exact Nat.zero_le _
      | cons t l ih => rw [szK_cons, List.length_cons]; omega
    have := this l
    omega
  have hE : TS (w.alloc (.cells #[] 9)) w.heap.size (some ⟨w.heap.size, 0, none⟩) 0 0 [] := World.ownsRow_lit w #[] 0 (Nat.le_refl _) (by decide) rfl
  go_enter Tryz.func20, Tryz.ntmps20
  go_wp2_with fail
  go_loopg [3, 5, 9] n (fun f v3 v5 v9 wr => ∃ (j c' : Nat) (A' : Option Addr), j + f = n ∧ v9 = .int .i64 j ∧ v3 = .slice A' j c' ∧ TS wr w.heap.size A' j c' ((l.take j).map txB) ∧ w.heap.size ≤ wr.heap.size ∧ Below w.heap.size w wr)
  case atStart => exact ⟨0, 0, _, by omega, rfl, rfl, hE, by simp, Below.one w _⟩
  case round =>
    obtain ⟨j, c', A', hjf, rfl, rfl, hI, hzr, hK⟩ := hrel
    clear hE
    by_cases hlt : j < n
    · obtain ⟨f, rfl⟩ : ∃ f, gk = f + 1 := ⟨gk - 1, by omega⟩
      obtain ⟨g, o, hjl, rfl, hg, q0, q1, q2, q3⟩ := (h.below (hK.mono hB)).tok hlt
      have hwj := hw l[j] (List.getElem_mem _)
      have hsz := szK_mem (List.getElem_mem hjl)
      have hcall := fun w1 h1 h2 => i_TokenText l[j].k l[j].s l[j].n l[j].x w1 (by omega) hwj.2.2.1 hwj.2.2.2 h1 h2
      have hsn : (l.take (j + 1)).map txB = (l.take j).map txB ++ [⟨l[j].txt.toArray⟩] := by rw [List.take_succ_eq_append_getElem hjl, List.map_append]; rfl
      have htxt : tokL l[j].k l[j].s.data.toList l[j].n l[j].x = l[j].txt := rfl
      rw [htxt] at hcall
      unfold tokV at hcall
      generalize l[j].txt = T at hcall hsn
      have hjf2 : j + 1 + f = n := by omega
      clear hjf htxt hwj
      have kA := hK.alloc hzr (.cells #[.int .i64 l[j].k, .string l[j].s, .int .i64 l[j].n, .int .i64 l[j].x] 31)
      have hIA := hI.below (Below.one wr (.cells #[.int .i64 l[j].k, .string l[j].s, .int .i64 l[j].n, .int .i64 l[j].x] 31))
      have hzA : wr.heap.size < (wr.alloc (.cells #[.int .i64 l[j].k, .string l[j].s, .int .i64 l[j].n, .int .i64 l[j].x] 31)).heap.size := by simp
      have hc2 := hcall _ (Utf8Tabs_below hT kA) (hP.below kA)
      clear hcall hI
      go_wp2_with (first
        | (go_at_call 36; refine hc2.mono ?_; rintro e w2 ⟨rfl, hb2⟩)
        | (at_builtin; refine app_text rfl _ _ rfl ((hIA.below hb2).below (Below.one w2 _)) rfl (text1 w2 _) rfl (by omega) (by have := hb2.size; simp; omega) ?_; intro A6 c6 w6 h6 hg6))
      have hK6 := ((kA.up hb2).alloc (by have := hb2.size; omega) (.cells #[.string ⟨T.toArray⟩] 9)).trans (hg6.fr.below (B := w.heap.size) (fun g hg => TS.from_ (hIA.below hb2) g hg) (by have := hb2.size; simp; omega))
      rw [← hsn] at h6
      clear hg6 hIA hc2 hb2
      go_roundg f
      case measure => omega
      case rel => exact ⟨j + 1, c6, A6, hjf2, by go_num, by simp, h6, hK6.size, hK6⟩
    · have hj : l.take j = l := List.take_of_length_le (by omega)
      obtain rfl : j = n := by omega
      rw [hj] at hI
      have hjt := joinT_len l hw
      have hmap : (l.map txB).map (fun b => b.data.toList) = l.map Tk.txt := by rw [List.map_map]; rfl
      by_cases h0 : j = 0
      · subst h0
        obtain rfl : l = [] := List.eq_nil_of_length_eq_zero hl
        have hjn := Tryz.strings_Join_none A' c' ⟨#[32]⟩ wr
        go_wp2_with (go_at_call 54; refine hjn.mono ?_; rintro e w2 ⟨rfl, hw2⟩; subst hw2)
        go_ret
        exact ⟨rfl, hK⟩
      · obtain ⟨g, o, e, hg, hc⟩ := hI.sl.at_ (by omega)
        subst e
        have hlen := hI.len
        have hjn := Tryz.strings_Join g o c' (l.map txB) ⟨#[32]⟩ wr (fun k x hx => hc k _ (by rw [List.getElem?_map, hx]; rfl)) hg (by rw [List.length_map]; omega) (by have := hI.sl.cap; rw [hlen]; exact this) (by rw [hmap]; show (joinT l).length ≤ _; omega)
        rw [hmap, hlen] at hjn
        have hjj : Lib.join (l.map Tk.txt) (⟨#[32]⟩ : ByteArray).data.toList = joinT l := rfl
        rw [hjj] at hjn
        clear hjj hmap hjt hlen hc hI
        go_wp2_with (go_at_call 54; refine hjn.mono ?_; rintro e w2 ⟨rfl, hb2⟩)
        go_ret
        exact ⟨rfl, hK.up hb2⟩
end Go.Proofs.YtceijgaocjghcaaGreatDoor
