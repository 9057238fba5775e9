/- What stands behind a backslash: byteAt, readUnit, readEscape (impl) and l9Escape (spec). readEscape (impl). -/
import Derived.Test.YtmnlkedacnemcaaGreatDoorTwReadFour
import Derived.Test.YtmnlkedacnemcaaGreatDoorTwM24
set_option linter.unusedVariables false
set_option maxRecDepth 100000
set_option linter.unusedSimpArgs false
namespace Go.Proofs.YtmnlkedacnemcaaGreatDoor
open Go.RowKit

def badE : Int × Int × Bool := (0, 0, false)
/-- The character of four digits or of two times four, and the place behind; q is the place behind the backslash. -/
def uniP (l : List UInt8) (q : Nat) : Int × Int × Bool :=
  if (fourL l ((q : Int) + 1)).2 = false ∨ inR (fourL l ((q : Int) + 1)).1 56320 57343 = true then badE
  else if inR (fourL l ((q : Int) + 1)).1 55296 56319 = false then ((fourL l ((q : Int) + 1)).1, (q : Int) + 5, true)
  else if l.getD (q + 5) 0 = 92 ∧ l.getD (q + 6) 0 = 117 then
    if (fourL l ((q : Int) + 7)).2 = true ∧ inR (fourL l ((q : Int) + 7)).1 56320 57343 = true then (65536 + 1024 * ((fourL l ((q : Int) + 1)).1 - 55296) + (fourL l ((q : Int) + 7)).1 - 56320, (q : Int) + 11, true)
    else badE
  else badE
def escP (l : List UInt8) (q : Nat) : Int × Int × Bool :=
  if l.getD q 0 = 34 ∨ l.getD q 0 = 92 ∨ l.getD q 0 = 47 then ((l.getD q 0).toNat, (q : Int) + 1, true)
  else if l.getD q 0 = 98 then (8, (q : Int) + 1, true)
  else if l.getD q 0 = 116 then (9, (q : Int) + 1, true)
  else if l.getD q 0 = 110 then (10, (q : Int) + 1, true)
  else if l.getD q 0 = 102 then (12, (q : Int) + 1, true)
  else if l.getD q 0 = 114 then (13, (q : Int) + 1, true)
  else if l.getD q 0 = 117 then uniP l q
  else badE
theorem numG_bd (f : UInt8 → Int) (hf : ∀ b, f b ≤ 15) : ∀ (l : List UInt8) (a : Int), 0 ≤ a → (numG f l a).2 = true → 0 ≤ (numG f l a).1 ∧ (numG f l a).1 < (a + 1) * 16 ^ l.length
  | [], a, h, _ => by simp only [numG_nil]; simp; omega
  | b :: l, a, h, ht => by
    by_cases hb : f b < 0
    · rw [numG_bad hb] at ht; cases ht
    · rw [numG_good (by omega)] at ht ⊢
      have := numG_bd f hf l (16 * a + f b) (by omega) ht
      have h2 := hf b
      refine ⟨this.1, Int.lt_of_lt_of_le this.2 ?_⟩
      rw [List.length_cons, Int.pow_succ]
      have h3 : (16 * a + f b + 1) ≤ (a + 1) * 16 := by omega
      calc (16 * a + f b + 1) * 16 ^ l.length ≤ ((a + 1) * 16) * 16 ^ l.length := Int.mul_le_mul_of_nonneg_right h3 (Int.le_of_lt (Int.pow_pos (by decide)))
        _ = (a + 1) * (16 ^ l.length * 16) := by rw [Int.mul_assoc, Int.mul_comm 16]
theorem fourL_bd {l : List UInt8} {i : Int} : 0 ≤ (fourL l i).1 ∧ (fourL l i).1 ≤ 65535 := by
  by_cases h : (fourL l i).2 = true
  · unfold fourL at h ⊢
    split at h
    · cases h
    · rename_i h0
      rw [if_neg h0]
      have := numG_bd digV (fun b => (digV_bd b).2) _ 0 (by omega) h
      rw [List.length_take] at this
      have h4 : (16 : Int) ^ (min 4 (l.drop i.toNat).length) ≤ 16 ^ 4 := by
        have : min 4 (l.drop i.toNat).length = 0 ∨ min 4 (l.drop i.toNat).length = 1 ∨ min 4 (l.drop i.toNat).length = 2 ∨ min 4 (l.drop i.toNat).length = 3 ∨ min 4 (l.drop i.toNat).length = 4 := by omega
        rcases this with e | e | e | e | e <;> rw [e] <;> decide
      omega
  · have : fourL l i = (0, false) := by
      unfold fourL at h ⊢
      split
      · rfl
      · rename_i h0
        rw [if_neg h0] at h
        have hn : ∀ (l : List UInt8) (a : Int), (numG digV l a).2 ≠ true → numG digV l a = (0, false) := by
          intro l
          induction l with
          | nil => intro a h; exact absurd rfl h
          | cons b l ih =>
            intro a h
            by_cases hb : digV b < 0
            · rw [numG_bad hb]
            · rw [numG_good (by omega)] at h ⊢; exact ih _ h
        exact hn _ _ h
    rw [this]; decide
theorem fourL_len {l : List UInt8} {i : Int} (h : (fourL l i).2 = true) : 0 ≤ i ∧ i + 4 ≤ l.length := by
  unfold fourL at h
  split at h
  · cases h
  · omega
theorem getD_lt {l : List UInt8} {q : Nat} (h : l.getD q 0 ≠ 0) : q < l.length := by
  by_cases hq : q < l.length
  · exact hq
  · exfalso; apply h; simp [List.getD, List.getElem?_eq_none (by omega : l.length ≤ q)]
theorem escP_zero {l : List UInt8} {q : Nat} (h : l.getD q 0 = 0) : escP l q = badE := by unfold escP; rw [h]; rfl
theorem escP_ok {l : List UInt8} {q : Nat} (h : (escP l q).2.2 = true) : runeOk (escP l q).1 = true ∧ (q : Int) < (escP l q).2.1 ∧ (escP l q).2.1 ≤ l.length := by
  have hlt : l.getD q 0 ≠ 0 := by
    intro e
    rw [escP_zero e] at h
    cases h
  have hq := getD_lt hlt
  have u1 := fourL_bd (l := l) (i := (q : Int) + 1)
  have u2 := fourL_bd (l := l) (i := (q : Int) + 7)
  have v1 := fun h => fourL_len (l := l) (i := (q : Int) + 1) h
  have v2 := fun h => fourL_len (l := l) (i := (q : Int) + 7) h
  obtain ⟨r, hr⟩ : ∃ r, escP l q = r := ⟨_, rfl⟩
  rw [hr] at h ⊢
  unfold escP uniP at hr
  generalize fourL l ((q : Int) + 1) = u at hr u1 v1
  generalize fourL l ((q : Int) + 7) = v at hr u2 v2
  generalize l.getD q 0 = x at hr hlt
  generalize l.getD (q + 5) 0 = y at hr
  generalize l.getD (q + 6) 0 = z at hr
  generalize l.length = n at *
  clear hlt
  by_cases h0 : x = 34 ∨ x = 92 ∨ x = 47
  · rw [if_pos h0] at hr
    subst hr
    refine ⟨?_, by show (q : Int) < (q : Int) + 1; omega, by show (q : Int) + 1 ≤ n; omega⟩
    rcases h0 with e | e | e <;> subst e <;> rfl
  rw [if_neg h0] at hr
  have one : ∀ k : Int, runeOk k = true → r = (k, (q : Int) + 1, true) → runeOk r.1 = true ∧ (q : Int) < r.2.1 ∧ r.2.1 ≤ n := by
    intro k hk e; subst e; exact ⟨hk, by show (q : Int) < (q : Int) + 1; omega, by show (q : Int) + 1 ≤ (n : Int); omega⟩
  by_cases h1 : x = 98
  · rw [if_pos h1] at hr; exact one 8 rfl hr.symm
  rw [if_neg h1] at hr
  by_cases h1 : x = 116
  · rw [if_pos h1] at hr; exact one 9 rfl hr.symm
  rw [if_neg h1] at hr
  by_cases h1 : x = 110
  · rw [if_pos h1] at hr; exact one 10 rfl hr.symm
  rw [if_neg h1] at hr
  by_cases h1 : x = 102
  · rw [if_pos h1] at hr; exact one 12 rfl hr.symm
  rw [if_neg h1] at hr
  by_cases h1 : x = 114
  · rw [if_pos h1] at hr; exact one 13 rfl hr.symm
  rw [if_neg h1] at hr
  by_cases h1 : x = 117
  · rw [if_pos h1] at hr
    by_cases h2 : u.2 = false ∨ inR u.1 56320 57343 = true
    · rw [if_pos h2] at hr; subst hr; cases h
    rw [if_neg h2] at hr
    have a1 : u.2 = true := by cases e : u.2 with
      | true => rfl
      | false => exact absurd (.inl e) h2
    have a2 : inR u.1 56320 57343 = false := by cases e : inR u.1 56320 57343 with
      | false => rfl
      | true => exact absurd (.inr e) h2
    rw [inR_not] at a2
    have w1 := v1 a1
    by_cases h3 : inR u.1 55296 56319 = false
    · rw [if_pos h3] at hr
      subst hr
      rw [inR_not] at h3
      exact ⟨runeOk_iff.2 (by show 0 ≤ u.1 ∧ _; omega), by show (q : Int) < (q : Int) + 5; omega, by show (q : Int) + 5 ≤ n; omega⟩
    rw [if_neg h3] at hr
    have a3 : inR u.1 55296 56319 = true := by cases e : inR u.1 55296 56319 with
      | true => rfl
      | false => exact absurd e h3
    rw [inR_iff] at a3
    by_cases h4 : y = 92 ∧ z = 117
    · rw [if_pos h4] at hr
      by_cases h5 : v.2 = true ∧ inR v.1 56320 57343 = true
      · rw [if_pos h5] at hr
        subst hr
        have w2 := v2 h5.1
        have a4 := inR_iff.1 h5.2
        exact ⟨runeOk_iff.2 (by show 0 ≤ 65536 + 1024 * (u.1 - 55296) + v.1 - 56320 ∧ _; omega), by show (q : Int) < (q : Int) + 11; omega, by show (q : Int) + 11 ≤ n; omega⟩
      · rw [if_neg h5] at hr; subst hr; cases h
    · rw [if_neg h4] at hr; subst hr; cases h
  · rw [if_neg h1] at hr; subst hr; cases h
def retII (p : Int × Int) : Ending := .returned (.tuple #[.int .i64 p.1, .int .i64 p.2])
theorem getD_size {s : ByteArray} {q : Nat} (h : q < s.size) : s.data.toList.getD q 0 = s[q] := by
  have hl : q < s.data.toList.length := by rw [blen_of]; exact h
  rw [List.getD_eq_getElem?_getD, List.getElem?_eq_getElem hl, Option.getD_some, getElem_data s q h hl]
theorem getD_out {s : ByteArray} {q : Nat} (h : ¬ q < s.size) : s.data.toList.getD q 0 = 0 := by
  rw [List.getD_eq_getElem?_getD, List.getElem?_eq_none (by rw [blen_of]; omega)]; rfl
/-- The byte at an offset; 0: none stands there. -/
def byteV (l : List UInt8) (z : Int) : UInt8 := if z < 0 then 0 else l.getD z.toNat 0
theorem byteV_nat (l : List UInt8) (q : Nat) : byteV l q = l.getD q 0 := by unfold byteV; rw [if_neg (by omega)]; rfl
theorem byteV_add (l : List UInt8) (q k : Nat) : byteV l ((q : Int) + (k : Int)) = l.getD (q + k) 0 := by rw [← Int.natCast_add, byteV_nat]
theorem byteV_neg {l : List UInt8} {z : Int} (h : z < 0) : byteV l z = 0 := by unfold byteV; rw [if_pos h]
theorem u8_ne {a : UInt8} (n : Nat) (hn : n < 256) (h : ¬ a = UInt8.ofNat n) : ((a.toNat : Int) == (n : Int)) = false := by
  simp only [beq_eq_false_iff_ne, ne_eq]
  intro e
  apply h
  rw [← UInt8.toNat_inj, ofNat_toNat' hn]
  omega
theorem uniP_A {l : List UInt8} {q : Nat} {u : Int × Bool} (hu : fourL l ((q : Int) + 1) = u) (h : u.2 = false ∨ inR u.1 56320 57343 = true) : uniP l q = badE := by unfold uniP; rw [hu, if_pos h]
theorem uniP_C {l : List UInt8} {q : Nat} {u : Int × Bool} (hu : fourL l ((q : Int) + 1) = u) (h : u.2 = true) (h2 : inR u.1 56320 57343 = false) (h3 : inR u.1 55296 56319 = false) : uniP l q = (u.1, (q : Int) + 5, true) := by
  unfold uniP; rw [hu, if_neg (by rw [h, h2]; decide), if_pos h3]
theorem uniP_D {l : List UInt8} {q : Nat} {u : Int × Bool} (hu : fourL l ((q : Int) + 1) = u) (h : u.2 = true) (h2 : inR u.1 56320 57343 = false) (h3 : inR u.1 55296 56319 = true) :
    uniP l q = if l.getD (q + 5) 0 = 92 ∧ l.getD (q + 6) 0 = 117 then
      if (fourL l ((q : Int) + 7)).2 = true ∧ inR (fourL l ((q : Int) + 7)).1 56320 57343 = true then (65536 + 1024 * (u.1 - 55296) + (fourL l ((q : Int) + 7)).1 - 56320, (q : Int) + 11, true)
      else badE
    else badE := by
  unfold uniP; rw [hu, if_neg (by rw [h, h2]; decide), if_neg (by rw [h3]; decide)]
theorem escP_u {l : List UInt8} {q : Nat} (h : l.getD q 0 = 117) : escP l q = uniP l q := by unfold escP; rw [h]; rfl
theorem escP_lit {l : List UInt8} {q : Nat} (h : l.getD q 0 = 34 ∨ l.getD q 0 = 92 ∨ l.getD q 0 = 47) : escP l q = (((l.getD q 0).toNat : Int), (q : Int) + 1, true) := by unfold escP; rw [if_pos h]
def noEsc (x : UInt8) : Prop := ¬ x = 34 ∧ ¬ x = 92 ∧ ¬ x = 47 ∧ ¬ x = 98 ∧ ¬ x = 116 ∧ ¬ x = 110 ∧ ¬ x = 102 ∧ ¬ x = 114 ∧ ¬ x = 117
theorem escP_no {l : List UInt8} {q : Nat} (h : noEsc (l.getD q 0)) : escP l q = badE := by
  obtain ⟨a, b, c, d, e, f, g, h, i⟩ := h
  unfold escP
  rw [if_neg (fun hh => by rcases hh with hh | hh | hh; exact a hh; exact b hh; exact c hh), if_neg d, if_neg e, if_neg f, if_neg g, if_neg h, if_neg i]
theorem esc_cases (x : UInt8) : x = 34 ∨ x = 92 ∨ x = 47 ∨ x = 98 ∨ x = 116 ∨ x = 110 ∨ x = 102 ∨ x = 114 ∨ x = 117 ∨ noEsc x := by
  unfold noEsc
  by_cases h1 : x = 34 <;> by_cases h2 : x = 92 <;> by_cases h3 : x = 47 <;> by_cases h4 : x = 98 <;> by_cases h5 : x = 116 <;> by_cases h6 : x = 110 <;> by_cases h7 : x = 102 <;> by_cases h8 : x = 114 <;> by_cases h9 : x = 117 <;> simp [*]
end Go.Proofs.YtmnlkedacnemcaaGreatDoor

namespace Go.Proofs.YtmnlkedacnemcaaGreatDoor
open Go.RowKit

theorem retII_eq {a b c d : Int} (h1 : a = c) (h2 : b = d) : Ending.returned (.tuple #[.int .i64 a, .int .i64 b]) = retII (c, d) := by rw [h1, h2]; rfl
end Go.Proofs.YtmnlkedacnemcaaGreatDoor
