/- Tokens read from text: plain. -/
import Derived.Test.YtceijgaocjghcaaGreatDoorTnRdNumP
import Derived.Test.YtceijgaocjghcaaGreatDoorTnM29
import Derived.Test.YtceijgaocjghcaaGreatDoorTnM32
import Derived.Lib.Strings
set_option linter.unusedVariables false
set_option maxRecDepth 100000
set_option linter.unusedSimpArgs false
namespace Go.Proofs.YtceijgaocjghcaaGreatDoor
open Go.RowKit

theorem encR_le4 {n : Int} (h : runeOk n = true) : (encR n).length ≤ 4 := encR_len n
/-- What quotedG reads lies in the text. -/
theorem quotedG_bd (l : List UInt8) : ∀ (f p : Nat) (acc : List Int), ((quotedG l f p acc).2.2 = 0 ∧ ∃ q : Nat, (quotedG l f p acc).2.1 = (q : Int) ∧ p < q ∧ q ≤ l.length ∧ (quotedG l f p acc).1.length ≤ (encAll acc).length + 4 * (q - p - 1)) ∨ quotedG l f p acc = badQ
  | 0, _, _ => .inr rfl
  | f + 1, p, acc => by
    rcases Nat.lt_or_ge p l.length with hp | hp
    rotate_left
    · exact .inr (quotedG_end hp)
    by_cases h34 : l.getD p 0 = 34
    · rw [quotedG_close hp h34]
      exact .inl ⟨rfl, p + 1, by simp, by omega, by omega, by simp⟩
    by_cases h92 : l.getD p 0 = 92
    · obtain ⟨⟨n, m, ok⟩, he⟩ : ∃ u, escP l (p + 1) = u := ⟨_, rfl⟩
      have hk := fun h => escP_ok (l := l) (q := p + 1) h
      rw [quotedG_esc hp h92 he]
      rw [he] at hk
      cases ok with
      | false => rw [if_neg (by decide)]; exact .inr rfl
      | true =>
        rw [if_pos rfl]
        obtain ⟨o1, o2, o3⟩ := hk rfl
        simp only [] at o1 o2 o3
        rcases quotedG_bd l f m.toNat (acc ++ [n]) with ⟨a, q, b, c, d, e⟩ | h
        · refine .inl ⟨a, q, b, by omega, d, ?_⟩
          rw [encAll_snoc, List.length_append] at e
          have := encR_le4 o1
          omega
        · exact .inr h
    · cases hg : getR (l.drop p) with
      | none => exact .inr (quotedG_none hp h34 h92 hg)
      | some d =>
        obtain ⟨c, k⟩ := d
        rw [quotedG_some hp h34 h92 hg]
        by_cases h32 : (c : Int) < 32
        · rw [if_pos h32]; exact .inr rfl
        · rw [if_neg h32]
          obtain ⟨g0, _, g1, g4, g5, _⟩ := getR_some hg
          rcases quotedG_bd l f (p + k) (acc ++ [(c : Int)]) with ⟨a, q, b, c2, d, e⟩ | h
          · refine .inl ⟨a, q, b, by omega, d, ?_⟩
            rw [encAll_snoc, List.length_append] at e
            have := encR_le4 g0
            omega
          · exact .inr h
theorem quotedL_bd (l : List UInt8) (p : Nat) (h34 : l.getD p 0 = 34) (hp : p < l.length) : ((quotedL l p).2.2 = 0 ∧ ∃ q : Nat, (quotedL l p).2.1 = (q : Int) ∧ p + 1 < q ∧ q ≤ l.length ∧ (quotedL l p).1.length ≤ 4 * (q - p - 2)) ∨ quotedL l p = badQ := by
  have e : quotedL l p = quotedG l l.length (p + 1) [] := by
    unfold quotedL
    rw [if_neg (by
      intro h
      rcases h with h | h | h
      · omega
      · omega
      · exact h h34)]
    rfl
  rw [e]
  rcases quotedG_bd l l.length (p + 1) [] with ⟨a, q, b, c, d, e⟩ | h
  · exact .inl ⟨a, q, b, c, d, by have e0 : (encAll []).length = 0 := rfl; omega⟩
  · exact .inr h
abbrev TkR := Tk × Int × Int
def noTk : Tk := ⟨0, ⟨#[]⟩, 0, 0⟩
def wNull : List UInt8 := [110, 117, 108, 108]
def wTrue : List UInt8 := [116, 114, 117, 101]
def wFalse : List UInt8 := [102, 97, 108, 115, 101]
def wordP (l : List UInt8) (p : Nat) : TkR :=
  if Lib.hasPrefix (l.drop p) wNull = true then (⟨4, ⟨wNull.toArray⟩, 0, 0⟩, (p : Int) + 4, 0)
  else if Lib.hasPrefix (l.drop p) wTrue = true then (⟨4, ⟨wTrue.toArray⟩, 0, 0⟩, (p : Int) + 4, 0)
  else if Lib.hasPrefix (l.drop p) wFalse = true then (⟨4, ⟨wFalse.toArray⟩, 0, 0⟩, (p : Int) + 5, 0)
  else (noTk, 0, 1)
def quoP (r : List UInt8 × Int × Int) : TkR := if r.2.2 = 0 then (⟨2, ⟨r.1.toArray⟩, 0, 0⟩, r.2.1, 0) else (noTk, 0, r.2.2)
def numT (r : NumR) : TkR := if r.2.2.2 = 0 then (⟨3, ⟨#[]⟩, r.1, r.2.1⟩, r.2.2.1, 0) else (noTk, 0, r.2.2.2)
def tokQ (l : List UInt8) (p : Nat) : TkR :=
  if l.length ≤ p then (noTk, (p : Int), 0)
  else if isSign (l.getD p 0) = true then (⟨1, ⟨#[l.getD p 0]⟩, 0, 0⟩, (p : Int) + 1, 0)
  else if l.getD p 0 = 34 then quoP (quotedL l p)
  else if l.getD p 0 = 45 ∨ isDg (l.getD p 0) = true then numT (numbP l p)
  else wordP l p
def tokP (l : List UInt8) (i : Int) : TkR := if i < 0 ∨ (l.length : Int) < i then (noTk, 0, 1) else tokQ l (skipN l i.toNat)
def retT (r : TkR) : Ending := .returned (.tuple #[r.1.v, .int .i64 r.2.1, .int .i64 r.2.2])
/-- What a number's reading answers. -/
structure NumOk (l : List UInt8) (p : Nat) (r : NumR) : Prop where
  code : r.2.2.2 = 0 ∨ r.2.2.2 = 1 ∨ r.2.2.2 = 2
  at_ : r.2.2.2 = 0 → ∃ q : Nat, r.2.2.1 = (q : Int) ∧ p < q ∧ q ≤ l.length
  n : -100000000000000000 < r.1 ∧ r.1 < 100000000000000000
  x : -2000000000 < r.2.1 ∧ r.2.1 < 2000000000
theorem NumOk.bad {l : List UInt8} {p q : Nat} : NumOk l p (badN q) :=
  ⟨.inr (.inl rfl), fun h => absurd (show (1 : Int) = 0 from h) (by decide), (show (-100000000000000000 : Int) < 0 ∧ (0 : Int) < 100000000000000000 by decide), (show (-2000000000 : Int) < 0 ∧ (0 : Int) < 2000000000 by decide)⟩
theorem numZ_num {l : List UInt8} {p : Nat} {neg : Bool} {D : List UInt8} {f : Nat} {down : Bool} {E : List UInt8} {q : Nat} (hD : ∀ c ∈ D, isDg c = true) (hE : ∀ c ∈ E, isDg c = true) (hf : f ≤ l.length) (hl : l.length ≤ 1073741824) (hq : q ≤ l.length) (hpq : p < q) : NumOk l p (numZ neg D f down E q) := by
  obtain ⟨a, b, c⟩ := numZ_ok neg D f down E q hD hE l.length hf hl hq
  refine ⟨?_, fun _ => ⟨q, a, hpq, hq⟩, b, c⟩
  unfold numZ
  split
  · exact .inr (.inr rfl)
  · exact .inl rfl
theorem expAt_bd (l : List UInt8) (q : Nat) : q < expAt l q := by unfold expAt; split <;> omega
theorem dg_lt {l : List UInt8} {p : Nat} (h : dgl l p ≠ []) : p < l.length := lt_of_dg (dgl_ne h)
theorem numE_num {l : List UInt8} {p : Nat} {neg : Bool} {D : List UInt8} {f q : Nat} (hD : ∀ c ∈ D, isDg c = true) (hf : f ≤ l.length) (hl : l.length ≤ 1073741824) (hq : q ≤ l.length) (hpq : p < q) : NumOk l p (numE l neg D f q) := by
  unfold numE
  split
  · split
    · exact NumOk.bad
    · rename_i h
      have h1 := expAt_bd l q
      have h2 := dg_lt h
      have h3 := dgn_pos h
      have h4 := dgEnd_le (l := l) (p := expAt l q) (by omega)
      exact numZ_num hD (fun c hc => dgl_all c hc) hf hl h4 (by omega)
  · exact numZ_num hD (fun c hc => by cases hc) hf hl hq hpq
theorem numF_num {l : List UInt8} {p : Nat} {neg : Bool} {W : List UInt8} {q : Nat} (hD : ∀ c ∈ W, isDg c = true) (hl : l.length ≤ 1073741824) (hq : q ≤ l.length) (hpq : p < q) : NumOk l p (numF l neg W q) := by
  unfold numF
  split
  · split
    · exact NumOk.bad
    · rename_i h
      have h2 := dg_lt h
      have h3 := dgn_pos h
      have h4 := dgEnd_le (l := l) (p := q + 1) (by omega)
      have h5 := dgn_le l (q + 1)
      refine numE_num (fun c hc => ?_) (by omega) hl h4 (by omega)
      rcases List.mem_append.1 hc with hc | hc
      · exact hD c hc
      · exact dgl_all c hc
  · exact numE_num hD (by omega) hl hq hpq
theorem numW_num {l : List UInt8} {p p0 : Nat} {neg : Bool} (hl : l.length ≤ 1073741824) (hp : p0 ≤ p) : NumOk l p0 (numW l neg p) := by
  unfold numW
  split
  · exact NumOk.bad
  · rename_i h
    have h2 := dg_lt h
    have h3 := dgn_pos h
    have h4 := dgEnd_le (l := l) (p := p) (by omega)
    split
    · exact numF_num (fun c hc => by rw [List.mem_singleton] at hc; subst hc; decide) hl (by omega) (by omega)
    · exact numF_num (fun c hc => dgl_all c hc) hl h4 (by omega)
theorem numbP_num {l : List UInt8} {p : Nat} (hl : l.length ≤ 1073741824) : NumOk l p (numbP l p) := by
  unfold numbP
  split
  · exact numW_num hl (by omega)
  · exact numW_num hl (by omega)
/-- What a token's reading answers. -/
structure TkOk (l : List UInt8) (p : Nat) (r : TkR) : Prop where
  wf : r.1.wf
  code : 0 ≤ r.2.2 ∧ r.2.2 ≤ 2
  kind : 0 ≤ r.1.k ∧ r.1.k ≤ 4
  at_ : r.2.2 = 0 → ∃ q : Nat, r.2.1 = (q : Int) ∧ p ≤ q ∧ q ≤ l.length ∧ (¬ r.1.k = 0 → p < q ∧ 1 + r.1.s.size ≤ 4 * (q - p))
theorem noTk_wf : noTk.wf := ⟨by decide, by decide, by decide, by decide⟩
theorem TkOk.bad {l : List UInt8} {p : Nat} {c : Int} (h : 0 < c ∧ c ≤ 2) : TkOk l p (noTk, 0, c) := ⟨noTk_wf, by simp only []; omega, (show (0 : Int) ≤ 0 ∧ (0 : Int) ≤ 4 by decide), fun h2 => by simp only [] at h2; omega⟩
theorem TkOk.good {l : List UInt8} {p q : Nat} {k n x : Int} {s : ByteArray} (hk : 1 ≤ k ∧ k ≤ 4) (hn : -9223372036854775808 ≤ n ∧ n ≤ 9223372036854775807) (hx : -9223372036854775808 ≤ x ∧ x ≤ 9223372036854775807) (hl : l.length ≤ 1073741824) (h1 : p < q) (h2 : q ≤ l.length) (h3 : 1 + s.size ≤ 4 * (q - p)) : TkOk l p (⟨k, s, n, x⟩, (q : Int), 0) :=
  ⟨⟨(show -9223372036854775808 ≤ k ∧ k ≤ 9223372036854775807 by omega), (show s.size ≤ maxLen by unfold maxLen; omega), hn, hx⟩, (show (0 : Int) ≤ 0 ∧ (0 : Int) ≤ 2 by decide), (show 0 ≤ k ∧ k ≤ 4 by omega), fun _ => ⟨q, rfl, by omega, h2, fun _ => ⟨h1, h3⟩⟩⟩
theorem prefix_len {l w : List UInt8} {p : Nat} (h : Lib.hasPrefix (l.drop p) w = true) (hw : 0 < w.length) : p + w.length ≤ l.length := by
  have h2 : w.isPrefixOf (l.drop p) = true := h
  have h3 := (List.isPrefixOf_iff_prefix.1 h2).length_le
  rw [List.length_drop] at h3
  omega
theorem zz64 : -9223372036854775808 ≤ (0 : Int) ∧ (0 : Int) ≤ 9223372036854775807 := by decide
theorem wordP_ok {l : List UInt8} {p : Nat} (hl : l.length ≤ 1073741824) : TkOk l p (wordP l p) := by
  unfold wordP
  split
  · rename_i h
    have := prefix_len h (by decide)
    have e : wNull.length = 4 := rfl
    exact TkOk.good (q := p + 4) (by decide) zz64 zz64 hl (by omega) (by omega) (by show 1 + 4 ≤ _; omega)
  split
  · rename_i h
    have := prefix_len h (by decide)
    have e : wTrue.length = 4 := rfl
    exact TkOk.good (q := p + 4) (by decide) zz64 zz64 hl (by omega) (by omega) (by show 1 + 4 ≤ _; omega)
  split
  · rename_i h
    have := prefix_len h (by decide)
    have e : wFalse.length = 5 := rfl
    exact TkOk.good (q := p + 5) (by decide) zz64 zz64 hl (by omega) (by omega) (by show 1 + 5 ≤ _; omega)
  exact TkOk.bad (by decide)
theorem tokQ_ok {l : List UInt8} {p : Nat} (hl : l.length ≤ 1073741824) (hp : p ≤ l.length) : TkOk l p (tokQ l p) := by
  unfold tokQ
  split
  · exact ⟨noTk_wf, (show (0 : Int) ≤ 0 ∧ (0 : Int) ≤ 2 by decide), (show (0 : Int) ≤ 0 ∧ (0 : Int) ≤ 4 by decide), fun _ => ⟨p, rfl, Nat.le_refl _, hp, fun h => absurd rfl h⟩⟩
  split
  · rename_i h
    exact TkOk.good (q := p + 1) (by decide) zz64 zz64 hl (by omega) (by omega) (by show 1 + 1 ≤ _; omega)
  split
  · rename_i h34
    rcases quotedL_bd l p h34 (by omega) with ⟨a, q, b, c, d, e⟩ | h
    · unfold quoP
      rw [if_pos a, b]
      have hz : (⟨(quotedL l p).1.toArray⟩ : ByteArray).size = (quotedL l p).1.length := ba_sz _
      exact TkOk.good (q := q) (by decide) zz64 zz64 hl (by omega) d (by rw [hz]; omega)
    · rw [h]
      exact TkOk.bad (by decide)
  split
  · have hN := numbP_num (l := l) (p := p) hl
    unfold numT
    split
    · rename_i h0
      obtain ⟨q, a, b, c⟩ := hN.at_ h0
      have h1 := hN.n
      have h2 := hN.x
      rw [a]
      exact TkOk.good (q := q) (by decide) (by omega) (by omega) hl b c (by show 1 + 0 ≤ _; omega)
    · rename_i h0
      exact TkOk.bad (by rcases hN.code with h | h | h <;> omega)
  · exact wordP_ok hl
theorem skipN_ge (l : List UInt8) (p : Nat) : p ≤ skipN l p := by unfold skipN; omega
theorem tokP_ok {l : List UInt8} {i : Int} (hl : l.length ≤ 1073741824) : TkOk l i.toNat (tokP l i) := by
  unfold tokP
  split
  · exact TkOk.bad (by decide)
  · rename_i h
    have h1 := skipN_ge l i.toNat
    have h2 := skipN_le (l := l) (k := i.toNat) (by omega)
    obtain ⟨a, b, c, d⟩ := tokQ_ok (p := skipN l i.toNat) hl h2
    refine ⟨a, b, c, fun h0 => ?_⟩
    obtain ⟨q, e1, e2, e3, e4⟩ := d h0
    exact ⟨q, e1, by omega, e3, fun hk => by have := e4 hk; omega⟩
/-- All tokens of a text. -/
def toksG (l : List UInt8) : Nat → Nat → List Tk → List Tk × Int
  | 0, _, _ => ([], 1)
  | f + 1, p, acc => if ¬ (tokP l p).2.2 = 0 then ([], (tokP l p).2.2) else if (tokP l p).1.k = 0 then (acc, 0) else toksG l f (tokP l p).2.1.toNat (acc ++ [(tokP l p).1])
def toksL (l : List UInt8) : List Tk × Int := toksG l (l.length + 1) 0 []
theorem toksG_bad {l : List UInt8} {f p : Nat} {acc : List Tk} {t : Tk} {q c : Int} (h : tokP l p = (t, q, c)) (hc : ¬ c = 0) : toksG l (f + 1) p acc = ([], c) := by
  unfold toksG; rw [h]; rw [if_pos hc]
theorem toksG_end {l : List UInt8} {f p : Nat} {acc : List Tk} {t : Tk} {q : Int} (h : tokP l p = (t, q, 0)) (hk : t.k = 0) : toksG l (f + 1) p acc = (acc, 0) := by
  unfold toksG; rw [h]; rw [if_neg (by simp), if_pos hk]
theorem toksG_step {l : List UInt8} {f p : Nat} {acc : List Tk} {t : Tk} {q : Int} (h : tokP l p = (t, q, 0)) (hk : ¬ t.k = 0) : toksG l (f + 1) p acc = toksG l f q.toNat (acc ++ [t]) := by
  conv => lhs; unfold toksG
  rw [h]; rw [if_neg (by simp), if_neg hk]
theorem toksG_ok {l : List UInt8} (hl : l.length ≤ 1073741824) : ∀ (f p : Nat) (acc : List Tk), p ≤ l.length → l.length < p + f → (∀ t ∈ acc, t.wf) → szK acc ≤ 4 * p →
    (∀ t ∈ (toksG l f p acc).1, t.wf) ∧ szK (toksG l f p acc).1 ≤ 4 * l.length ∧ 0 ≤ (toksG l f p acc).2 ∧ (toksG l f p acc).2 ≤ 2
  | 0, p, acc, h1, h2, _, _ => by omega
  | f + 1, p, acc, h1, h2, h3, h4 => by
    obtain ⟨⟨t, q, c⟩, hr⟩ : ∃ r, tokP l p = r := ⟨_, rfl⟩
    obtain ⟨a, b, k, d⟩ := tokP_ok (l := l) (i := (p : Int)) hl
    rw [hr] at a b k d
    simp only [Int.toNat_natCast] at a b k d
    by_cases hc : c = 0
    · subst hc
      obtain ⟨q', rfl, e2, e3, e4⟩ := d rfl
      by_cases hk : t.k = 0
      · rw [toksG_end hr hk]
        exact ⟨h3, by show szK acc ≤ _; omega, (show (0 : Int) ≤ 0 by decide), (show (0 : Int) ≤ 2 by decide)⟩
      · rw [toksG_step hr hk]
        obtain ⟨e5, e6⟩ := e4 hk
        rw [Int.toNat_natCast]
        refine toksG_ok hl f q' (acc ++ [t]) e3 (by omega) (fun u hu => ?_) (by rw [szK_snoc]; omega)
        rcases List.mem_append.1 hu with hu | hu
        · exact h3 u hu
        · rw [List.mem_singleton] at hu; subst hu; exact a
    · rw [toksG_bad hr hc]
      exact ⟨fun u hu => by (cases hu), Nat.zero_le _, b⟩
theorem toksL_ok {l : List UInt8} (hl : l.length ≤ 1073741824) : (∀ t ∈ (toksL l).1, t.wf) ∧ szK (toksL l).1 ≤ 4 * l.length ∧ 0 ≤ (toksL l).2 ∧ (toksL l).2 ≤ 2 :=
  toksG_ok hl _ _ _ (by omega) (by omega) (fun t ht => by cases ht) (Nat.zero_le _)
end Go.Proofs.YtceijgaocjghcaaGreatDoor
