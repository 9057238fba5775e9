/- EscapeOf. What stands behind a backslash: byteAt, readUnit, readEscape (impl) and l9Escape (spec). -/
import Derived.Test.YtceijgaocjghcaaGreatDoorTnM5
import Derived.Test.YtceijgaocjghcaaGreatDoorTnM1
import Derived.Test.YtceijgaocjghcaaGreatDoorTnReadFour
set_option linter.unusedVariables false
set_option maxRecDepth 100000
set_option linter.unusedSimpArgs false
namespace Go.Proofs.YtceijgaocjghcaaGreatDoor
open Go.RowKit

theorem wrap32_as (n : Int) (h : -2147483648 ≤ n ∧ n ≤ 2147483647) : wrap32 n = n := by unfold wrap32; omega
def escL (n : Int) : List UInt8 :=
  if runeOk n = true then
    if n = 34 then [92, 34] else if n = 92 then [92, 92] else if n = 8 then [92, 98] else if n = 9 then [92, 116] else if n = 10 then [92, 110]
    else if n = 12 then [92, 102] else if n = 13 then [92, 114] else if n < 32 then 92 :: 117 :: 48 :: 48 :: hexOf [UInt8.ofNat n.toNat] else encL n.toNat
  else []
theorem escL_not {n : Int} (h : runeOk n = false) : escL n = [] := by simp [escL, h]
theorem escL_low {n : Int} (h : 0 ≤ n) (h2 : n < 32) (h3 : n ≠ 8 ∧ n ≠ 9 ∧ n ≠ 10 ∧ n ≠ 12 ∧ n ≠ 13) : escL n = 92 :: 117 :: 48 :: 48 :: hexOf [UInt8.ofNat n.toNat] := by
  have h4 : runeOk n = true := runeOk_yes h (by omega) (by omega)
  obtain ⟨a, b, c, d, e⟩ := h3
  have f : n ≠ 34 := by omega
  have g : n ≠ 92 := by omega
  simp only [escL, h4, a, b, c, d, e, f, g, h2, if_true, if_false]
theorem escL_high {n : Int} (h : runeOk n = true) (h2 : 32 ≤ n) (h3 : n ≠ 34 ∧ n ≠ 92) : escL n = encL n.toNat := by
  obtain ⟨a, b⟩ := h3
  have : ¬ n < 32 := by omega
  have c : n ≠ 8 := by omega
  have d : n ≠ 9 := by omega
  have e : n ≠ 10 := by omega
  have f : n ≠ 12 := by omega
  have g : n ≠ 13 := by omega
  simp only [escL, h, a, b, c, d, e, f, g, this, if_true, if_false]
theorem escL_len (n : Int) : (escL n).length ≤ 8 := by
  unfold escL
  have := encL_len n.toNat
  have h2 := hexOf_len [UInt8.ofNat n.toNat]
  (repeat' split) <;> simp at h2 ⊢ <;> omega
theorem u8_low {n : Int} (h : 0 ≤ n) (h2 : n < 256) : [Value.int .u8 n] = u8s [UInt8.ofNat n.toNat] := by
  simp [u8s]; omega
theorem hexOf_size (b : List UInt8) : (⟨(hexOf b).toArray⟩ : ByteArray).size = 2 * b.length := by
  show (hexOf b).toArray.size = _
  simp [hexOf_len]
theorem utf8_one {n : Int} (h : 0 ≤ n) (h2 : n < 128) : Utf8.encode n = ⟨[UInt8.ofNat n.toNat].toArray⟩ := by
  rw [encode_ok (runeOk_yes h (by omega) (by omega)), encL, if_pos (by omega)]
set_option maxHeartbeats 1600000 in
theorem s_EscapeOf (n : Int) (w : World) :
    Calls Tryz.prog 112 #[.int .i64 n] w fun e w' => e = .returned (.string ⟨(escL n).toArray⟩) ∧ Below w.heap.size w w' := by
  cases hb : runeOk n
  · go_enter Tryz.func112, Tryz.ntmps112
    go_wp2_with (go_at_call 155; refine (s_RuneOk _ _).mono ?_; rintro e w' ⟨rfl, rfl⟩)
    go_ret
    exact ⟨ret_str (by rw [escL_not hb]), Below.refl _ _⟩
  · have hr := runeOk_iff.1 hb
    by_cases h : n = 34 ∨ n = 92 ∨ n = 8 ∨ n = 9 ∨ n = 10 ∨ n = 12 ∨ n = 13
    · rcases h with rfl | rfl | rfl | rfl | rfl | rfl | rfl
      all_goals
        go_enter Tryz.func112, Tryz.ntmps112
        go_wp2_with (go_at_call 155; refine (s_RuneOk _ _).mono ?_; rintro e w' ⟨rfl, rfl⟩)
        go_ret
        exact ⟨ret_str rfl, Below.refl _ _⟩
    · by_cases h2 : n < 32
      · have HC := Lib.hid h
        have HB := Lib.hid hr
        have h0 := hr.1
        have e1 : (n == 34) = false := by simp; omega
        have e2 : (n == 92) = false := by simp; omega
        have e3 : (n == 8) = false := by simp; omega
        have e4 : (n == 9) = false := by simp; omega
        have e5 : (n == 10) = false := by simp; omega
        have e6 : (n == 12) = false := by simp; omega
        have e7 : (n == 13) = false := by simp; omega
        clear hr h
        have hsl := Sl.congr (u8_low h0 (by omega)) (Sl.lit w 5 #[.int .u8 n] 1 1 rfl (by decide) _ (Nat.lt_succ_self _))
        have hcv := run_str_sl (P := Tryz.prog) 22 5 Tryz.underlying22 Tryz.underlying5 hsl 9 Tryz.underlying9
        go_enter Tryz.func112, Tryz.ntmps112
        go_wp2_with (go_at_call 155; refine (s_RuneOk _ _).mono ?_; rintro e w' ⟨rfl, rfl⟩)
        go_wp2_with (go_at_call 156; refine (s_HexText _ _ (by exact Nat.le_trans (Nat.le_refl 1) (by decide))).mono ?_; rintro e w1 ⟨rfl, hb1⟩)
        go_ret
        exact ⟨ret_str (by rw [escL_low h0 h2 (by have := HC.out; omega)]; rfl), hb1.boxed⟩
      · have HC := Lib.hid h
        have HB := Lib.hid hr
        have h0 : 32 ≤ n := by omega
        have e1 : (n == 34) = false := by simp; omega
        have e2 : (n == 92) = false := by simp; omega
        have e3 : (n == 8) = false := by simp; omega
        have e4 : (n == 9) = false := by simp; omega
        have e5 : (n == 10) = false := by simp; omega
        have e6 : (n == 12) = false := by simp; omega
        have e7 : (n == 13) = false := by simp; omega
        clear hr h
        go_enter Tryz.func112, Tryz.ntmps112
        go_wp2_with (go_at_call 155; refine (s_RuneOk _ _).mono ?_; rintro e w' ⟨rfl, rfl⟩)
        go_wp2_with (go_at_call 82; refine (s_FromRunes _ _ _ [n] _ _ (by exact Sl.congr (by rfl) (Sl.lit w 3 #[.int .i64 n] 1 1 rfl (by decide) _ (Nat.lt_succ_self _))) (by simp) (by decide)).mono ?_; rintro e w1 ⟨rfl, hb1⟩)
        go_ret
        exact ⟨ret_str (by rw [escL_high hb h0 (by have := HC.out; omega)]; simp [encAll, encR, hb]), hb1.boxed⟩
theorem ix_ctl : ∀ m, m < 32 → m ≠ 8 ∧ m ≠ 9 ∧ m ≠ 10 ∧ m ≠ 12 ∧ m ≠ 13 → Lib.indexByte [8, 9, 10, 12, 13] m.toUInt8 = -1 := by decide
theorem ix_8 : Lib.indexByte [8, 9, 10, 12, 13] 8 = 0 := by decide
theorem ix_9 : Lib.indexByte [8, 9, 10, 12, 13] 9 = 1 := by decide
theorem ix_10 : Lib.indexByte [8, 9, 10, 12, 13] 10 = 2 := by decide
theorem ix_12 : Lib.indexByte [8, 9, 10, 12, 13] 12 = 3 := by decide
theorem ix_13 : Lib.indexByte [8, 9, 10, 12, 13] 13 = 4 := by decide
set_option maxHeartbeats 1600000 in
theorem i_EscapeOf (n : Int) (w : World) :
    Calls Tryz.prog 108 #[.int .i64 n] w fun e w' => e = .returned (.string ⟨(escL n).toArray⟩) ∧ Below w.heap.size w w' := by
  cases hb : runeOk n
  · go_enter Tryz.func108, Tryz.ntmps108
    go_wp2_with (go_at_call 152; refine (i_RuneOk _ _).mono ?_; rintro e w' ⟨rfl, rfl⟩)
    go_ret
    exact ⟨ret_str (by rw [escL_not hb]), Below.refl _ _⟩
  · have hr := runeOk_iff.1 hb
    by_cases h : n = 34 ∨ n = 92 ∨ n = 8 ∨ n = 9 ∨ n = 10 ∨ n = 12 ∨ n = 13
    · have ha := ix_8
      have hb' := ix_9
      have hc := ix_10
      have hd := ix_12
      have he := ix_13
      rcases h with rfl | rfl | rfl | rfl | rfl | rfl | rfl
      all_goals
        go_enter Tryz.func108, Tryz.ntmps108
        go_wp2_with (first | (go_at_call 152; refine (i_RuneOk _ _).mono ?_; rintro e w' ⟨rfl, rfl⟩) | (go_at_call 52; refine (Tryz.strings_IndexByte _ _ _).mono ?_; rintro e w' ⟨rfl, hw⟩; subst hw))
        go_ret
        exact ⟨ret_str (by first | rfl | decide | (apply ByteArray.ext; rw [ByteArray.data_append, ByteArray.data_extract]; rfl)), Below.refl _ _⟩
    · by_cases h2 : n < 32
      · have HC := Lib.hid h
        have HB := Lib.hid hr
        have h0 := hr.1
        have e1 : (n == 34) = false := by simp; omega
        have e2 : (n == 92) = false := by simp; omega
        have e3 := ix_ctl n.toNat (by omega) (by omega)
        have e4 := utf8_one h0 (by omega)
        have e5 := wrap32_as n (by omega)
        clear hr h
        go_enter Tryz.func108, Tryz.ntmps108
        go_wp2_with (first | (go_at_call 152; refine (i_RuneOk _ _).mono ?_; rintro e w' ⟨rfl, rfl⟩) | (go_at_call 52; refine (Tryz.strings_IndexByte _ _ _).mono ?_; rintro e w' ⟨rfl, hw⟩; subst hw))
        go_wp2_with (go_at_call 153; refine (i_HexText _ _ (by exact Nat.le_trans (Nat.le_refl 1) (by decide))).mono ?_; rintro e w1 ⟨rfl, hb1⟩)
        go_ret
        exact ⟨ret_str (by rw [escL_low h0 h2 (by have := HC.out; omega)]; rfl), hb1⟩
      · have h0 : 32 ≤ n := by omega
        have HC := Lib.hid h
        have HB := Lib.hid hr
        have e1 : (n == 34) = false := by simp; omega
        have e2 : (n == 92) = false := by simp; omega
        have e4 := encode_ok hb
        clear hr h
        go_enter Tryz.func108, Tryz.ntmps108
        go_wp2_with (first | (go_at_call 152; refine (i_RuneOk _ _).mono ?_; rintro e w' ⟨rfl, rfl⟩) | (go_at_call 52; refine (Tryz.strings_IndexByte _ _ _).mono ?_; rintro e w' ⟨rfl, hw⟩; subst hw))
        go_ret
        exact ⟨ret_str (by rw [wrap32_as _ (by have := HB.out; omega), e4, escL_high hb h0 (by have := HC.out; omega)]), Below.refl _ _⟩
end Go.Proofs.YtceijgaocjghcaaGreatDoor

namespace Go.Proofs.YtceijgaocjghcaaGreatDoor
open Go.RowKit

def badE : Int × Int × Bool := (0, 0, false)
/-- The character of four digits or of two times four, and the place behind; q is the place behind the backslash. -/
def uniP (l : List UInt8) (q : Nat) : Int × Int × Bool :=
  if (fourL l ((q : Int) + 1)).2 = false ∨ inR (fourL l ((q : Int) + 1)).1 56320 57343 = true then badE
  else if inR (fourL l ((q : Int) + 1)).1 55296 56319 = false then ((fourL l ((q : Int) + 1)).1, (q : Int) + 5, true)
  else if l.getD (q + 5) 0 = 92 ∧ l.getD (q + 6) 0 = 117 then
    if (fourL l ((q : Int) + 7)).2 = true ∧ inR (fourL l ((q : Int) + 7)).1 56320 57343 = true then (65536 + 1024 * ((fourL l ((q : Int) + 1)).1 - 55296) + (fourL l ((q : Int) + 7)).1 - 56320, (q : Int) + 11, true)
    else badE
  else badE
def escP (l : List UInt8) (q : Nat) : Int × Int × Bool :=
  if l.getD q 0 = 34 ∨ l.getD q 0 = 92 ∨ l.getD q 0 = 47 then ((l.getD q 0).toNat, (q : Int) + 1, true)
  else if l.getD q 0 = 98 then (8, (q : Int) + 1, true)
  else if l.getD q 0 = 116 then (9, (q : Int) + 1, true)
  else if l.getD q 0 = 110 then (10, (q : Int) + 1, true)
  else if l.getD q 0 = 102 then (12, (q : Int) + 1, true)
  else if l.getD q 0 = 114 then (13, (q : Int) + 1, true)
  else if l.getD q 0 = 117 then uniP l q
  else badE
theorem numG_bd (f : UInt8 → Int) (hf : ∀ b, f b ≤ 15) : ∀ (l : List UInt8) (a : Int), 0 ≤ a → (numG f l a).2 = true → 0 ≤ (numG f l a).1 ∧ (numG f l a).1 < (a + 1) * 16 ^ l.length
  | [], a, h, _ => by simp only [numG_nil]; simp; omega
  | b :: l, a, h, ht => by
    by_cases hb : f b < 0
    · rw [numG_bad hb] at ht; cases ht
    · rw [numG_good (by omega)] at ht ⊢
      have := numG_bd f hf l (16 * a + f b) (by omega) ht
      have h2 := hf b
      refine ⟨this.1, Int.lt_of_lt_of_le this.2 ?_⟩
      rw [List.length_cons, Int.pow_succ]
      have h3 : (16 * a + f b + 1) ≤ (a + 1) * 16 := by omega
      calc (16 * a + f b + 1) * 16 ^ l.length ≤ ((a + 1) * 16) * 16 ^ l.length := Int.mul_le_mul_of_nonneg_right h3 (Int.le_of_lt (Int.pow_pos (by decide)))
        _ = (a + 1) * (16 ^ l.length * 16) := by rw [Int.mul_assoc, Int.mul_comm 16]
theorem fourL_bd {l : List UInt8} {i : Int} : 0 ≤ (fourL l i).1 ∧ (fourL l i).1 ≤ 65535 := by
  by_cases h : (fourL l i).2 = true
  · unfold fourL at h ⊢
    split at h
    · cases h
    · rename_i h0
      rw [if_neg h0]
      have := numG_bd digV (fun b => (digV_bd b).2) _ 0 (by omega) h
      rw [List.length_take] at this
      have h4 : (16 : Int) ^ (min 4 (l.drop i.toNat).length) ≤ 16 ^ 4 := by
        have : min 4 (l.drop i.toNat).length = 0 ∨ min 4 (l.drop i.toNat).length = 1 ∨ min 4 (l.drop i.toNat).length = 2 ∨ min 4 (l.drop i.toNat).length = 3 ∨ min 4 (l.drop i.toNat).length = 4 := by omega
        rcases this with e | e | e | e | e <;> rw [e] <;> decide
      omega
  · have : fourL l i = (0, false) := by
      unfold fourL at h ⊢
      split
      · rfl
      · rename_i h0
        rw [if_neg h0] at h
        have hn : ∀ (l : List UInt8) (a : Int), (numG digV l a).2 ≠ true → numG digV l a = (0, false) := by
          intro l
          induction l with
          | nil => intro a h; exact absurd rfl h
          | cons b l ih =>
            intro a h
            by_cases hb : digV b < 0
            · rw [numG_bad hb]
            · rw [numG_good (by omega)] at h ⊢; exact ih _ h
        exact hn _ _ h
    rw [this]; decide
theorem fourL_len {l : List UInt8} {i : Int} (h : (fourL l i).2 = true) : 0 ≤ i ∧ i + 4 ≤ l.length := by
  unfold fourL at h
  split at h
  · cases h
  · omega
theorem getD_lt {l : List UInt8} {q : Nat} (h : l.getD q 0 ≠ 0) : q < l.length := by
  by_cases hq : q < l.length
  · exact hq
  · exfalso; apply h; simp [List.getD, List.getElem?_eq_none (by omega : l.length ≤ q)]
theorem escP_zero {l : List UInt8} {q : Nat} (h : l.getD q 0 = 0) : escP l q = badE := by unfold escP; rw [h]; rfl
theorem escP_ok {l : List UInt8} {q : Nat} (h : (escP l q).2.2 = true) : runeOk (escP l q).1 = true ∧ (q : Int) < (escP l q).2.1 ∧ (escP l q).2.1 ≤ l.length := by
  have hlt : l.getD q 0 ≠ 0 := by
    intro e
    rw [escP_zero e] at h
    cases h
  have hq := getD_lt hlt
  have u1 := fourL_bd (l := l) (i := (q : Int) + 1)
  have u2 := fourL_bd (l := l) (i := (q : Int) + 7)
  have v1 := fun h => fourL_len (l := l) (i := (q : Int) + 1) h
  have v2 := fun h => fourL_len (l := l) (i := (q : Int) + 7) h
  obtain ⟨r, hr⟩ : ∃ r, escP l q = r := ⟨_, rfl⟩
  rw [hr] at h ⊢
  unfold escP uniP at hr
  generalize fourL l ((q : Int) + 1) = u at hr u1 v1
  generalize fourL l ((q : Int) + 7) = v at hr u2 v2
  generalize l.getD q 0 = x at hr hlt
  generalize l.getD (q + 5) 0 = y at hr
  generalize l.getD (q + 6) 0 = z at hr
  generalize l.length = n at *
  clear hlt
  by_cases h0 : x = 34 ∨ x = 92 ∨ x = 47
  · rw [if_pos h0] at hr
    subst hr
    refine ⟨?_, by show (q : Int) < (q : Int) + 1; omega, by show (q : Int) + 1 ≤ n; omega⟩
    rcases h0 with e | e | e <;> subst e <;> rfl
  rw [if_neg h0] at hr
  have one : ∀ k : Int, runeOk k = true → r = (k, (q : Int) + 1, true) → runeOk r.1 = true ∧ (q : Int) < r.2.1 ∧ r.2.1 ≤ n := by
    intro k hk e; subst e; exact ⟨hk, by show (q : Int) < (q : Int) + 1; omega, by show (q : Int) + 1 ≤ (n : Int); omega⟩
  by_cases h1 : x = 98
  · rw [if_pos h1] at hr; exact one 8 rfl hr.symm
  rw [if_neg h1] at hr
  by_cases h1 : x = 116
  · rw [if_pos h1] at hr; exact one 9 rfl hr.symm
  rw [if_neg h1] at hr
  by_cases h1 : x = 110
  · rw [if_pos h1] at hr; exact one 10 rfl hr.symm
  rw [if_neg h1] at hr
  by_cases h1 : x = 102
  · rw [if_pos h1] at hr; exact one 12 rfl hr.symm
  rw [if_neg h1] at hr
  by_cases h1 : x = 114
  · rw [if_pos h1] at hr; exact one 13 rfl hr.symm
  rw [if_neg h1] at hr
  by_cases h1 : x = 117
  · rw [if_pos h1] at hr
    by_cases h2 : u.2 = false ∨ inR u.1 56320 57343 = true
    · rw [if_pos h2] at hr; subst hr; cases h
    rw [if_neg h2] at hr
    have a1 : u.2 = true := by cases e : u.2 with
      | true => rfl
      | false => exact absurd (.inl e) h2
    have a2 : inR u.1 56320 57343 = false := by cases e : inR u.1 56320 57343 with
      | false => rfl
      | true => exact absurd (.inr e) h2
    rw [inR_not] at a2
    have w1 := v1 a1
    by_cases h3 : inR u.1 55296 56319 = false
    · rw [if_pos h3] at hr
      subst hr
      rw [inR_not] at h3
      exact ⟨runeOk_iff.2 (by show 0 ≤ u.1 ∧ _; omega), by show (q : Int) < (q : Int) + 5; omega, by show (q : Int) + 5 ≤ n; omega⟩
    rw [if_neg h3] at hr
    have a3 : inR u.1 55296 56319 = true := by cases e : inR u.1 55296 56319 with
      | true => rfl
      | false => exact absurd e h3
    rw [inR_iff] at a3
    by_cases h4 : y = 92 ∧ z = 117
    · rw [if_pos h4] at hr
      by_cases h5 : v.2 = true ∧ inR v.1 56320 57343 = true
      · rw [if_pos h5] at hr
        subst hr
        have w2 := v2 h5.1
        have a4 := inR_iff.1 h5.2
        exact ⟨runeOk_iff.2 (by show 0 ≤ 65536 + 1024 * (u.1 - 55296) + v.1 - 56320 ∧ _; omega), by show (q : Int) < (q : Int) + 11; omega, by show (q : Int) + 11 ≤ n; omega⟩
      · rw [if_neg h5] at hr; subst hr; cases h
    · rw [if_neg h4] at hr; subst hr; cases h
  · rw [if_neg h1] at hr; subst hr; cases h
def retII (p : Int × Int) : Ending := .returned (.tuple #[.int .i64 p.1, .int .i64 p.2])
theorem getD_size {s : ByteArray} {q : Nat} (h : q < s.size) : s.data.toList.getD q 0 = s[q] := by
  have hl : q < s.data.toList.length := by rw [blen_of]; exact h
  rw [List.getD_eq_getElem?_getD, List.getElem?_eq_getElem hl, Option.getD_some, getElem_data s q h hl]
theorem getD_out {s : ByteArray} {q : Nat} (h : ¬ q < s.size) : s.data.toList.getD q 0 = 0 := by
  rw [List.getD_eq_getElem?_getD, List.getElem?_eq_none (by rw [blen_of]; omega)]; rfl
/-- The byte at an offset; 0: none stands there. -/
def byteV (l : List UInt8) (z : Int) : UInt8 := if z < 0 then 0 else l.getD z.toNat 0
theorem byteV_nat (l : List UInt8) (q : Nat) : byteV l q = l.getD q 0 := by unfold byteV; rw [if_neg (by omega)]; rfl
theorem byteV_add (l : List UInt8) (q k : Nat) : byteV l ((q : Int) + (k : Int)) = l.getD (q + k) 0 := by rw [← Int.natCast_add, byteV_nat]
theorem byteV_neg {l : List UInt8} {z : Int} (h : z < 0) : byteV l z = 0 := by unfold byteV; rw [if_pos h]
theorem i_byteAt (s : ByteArray) (z : Int) (w : World) (hs : s.size ≤ 1099511627776) :
    Calls Tryz.prog 75 #[.string s, .int .i64 z] w fun e w' => e = .returned (.int .u8 ((byteV s.data.toList z).toNat : Int)) ∧ w = w' := by
  by_cases h : 0 ≤ z ∧ z < s.size
  · obtain ⟨q, rfl⟩ : ∃ q : Nat, z = q := ⟨z.toNat, by omega⟩
    have hi : inR (q : Int) 0 ((s.size : Int) - 1) = true := inR_yes (by omega) (by omega)
    have hq : q < s.size := by omega
    rw [byteV_nat, getD_size hq]
    clear h
    go_enter Tryz.func75, Tryz.ntmps75
    go_wp2_with (go_at_call 41; refine (i_within _ _ _ _).mono ?_; rintro e w' ⟨rfl, rfl⟩)
    go_ret
    exact ⟨rfl, rfl⟩
  · have hi : inR z 0 ((s.size : Int) - 1) = false := inR_no (by omega)
    have e : byteV s.data.toList z = 0 := by
      unfold byteV
      split
      · rfl
      · exact getD_out (by omega)
    rw [e]
    clear e h
    go_enter Tryz.func75, Tryz.ntmps75
    go_wp2_with (go_at_call 41; refine (i_within _ _ _ _).mono ?_; rintro e w' ⟨rfl, rfl⟩)
    go_ret
    exact ⟨rfl, rfl⟩
theorem u8_ne {a : UInt8} (n : Nat) (hn : n < 256) (h : ¬ a = UInt8.ofNat n) : ((a.toNat : Int) == (n : Int)) = false := by
  simp only [beq_eq_false_iff_ne, ne_eq]
  intro e
  apply h
  rw [← UInt8.toNat_inj, ofNat_toNat' hn]
  omega
/-- What stands behind a backslash and u at an offset. -/
def unitP (l : List UInt8) (q : Nat) : Int × Bool := if l.getD q 0 = 92 ∧ l.getD (q + 1) 0 = 117 then fourL l ((q : Int) + 2) else (0, false)
set_option maxHeartbeats 1000000 in
theorem i_readUnit (s : ByteArray) (q : Nat) (w : World) (hs : s.size ≤ 1099511627776) (hq : q ≤ 4611686018427387) (hC : Lib.CaseVar 6 Lib.caseA w) (hT : Lib.Utf8Tabs 1 2 w) :
    Calls Tryz.prog 114 #[.string s, .int .i64 q] w fun e w' => e = ret2 (unitP s.data.toList q) ∧ Below w.heap.size w w' := by
  have h3 := i_ReadFour s ((q : Int) + 2) w hs (by omega) hC hT
  have e1 := byteV_nat s.data.toList q
  have e2 : byteV s.data.toList ((q : Int) + 1) = s.data.toList.getD (q + 1) 0 := byteV_add s.data.toList q 1
  unfold unitP
  obtain ⟨⟨a, b⟩, hr⟩ : ∃ r, fourL s.data.toList ((q : Int) + 2) = r := ⟨_, rfl⟩
  rw [hr] at h3 ⊢
  simp only [ret2] at h3
  clear hr
  generalize s.data.toList.getD q 0 = x at e1 ⊢
  generalize s.data.toList.getD (q + 1) 0 = y at e2 ⊢
  by_cases c1 : x = 92
  · subst c1
    by_cases c2 : y = 117
    · subst c2
      rw [if_pos ⟨rfl, rfl⟩]
      go_enter Tryz.func114, Tryz.ntmps114
      go_wp2_with (first
        | (go_at_call 75; refine (i_byteAt _ _ _ hs).mono ?_; rintro e w' ⟨rfl, rfl⟩)
        | (go_at_call 158; refine h3.mono ?_; rintro e w2 ⟨rfl, hb2⟩))
      go_ret2
      exact ⟨rfl, hb2⟩
    · rw [if_neg (fun h => c2 h.2)]
      have e3 : ((y.toNat : Int) == 117) = false := u8_ne 117 (by decide) c2
      clear h3
      go_enter Tryz.func114, Tryz.ntmps114
      go_wp2_with (first
        | (go_at_call 75; refine (i_byteAt _ _ _ hs).mono ?_; rintro e w' ⟨rfl, rfl⟩))
      go_ret2
      exact ⟨rfl, Below.refl _ _⟩
  · rw [if_neg (fun h => c1 h.1)]
    have e3 : ((x.toNat : Int) == 92) = false := u8_ne 92 (by decide) c1
    clear e2 h3
    go_enter Tryz.func114, Tryz.ntmps114
    go_wp2_with (first
        | (go_at_call 75; refine (i_byteAt _ _ _ hs).mono ?_; rintro e w' ⟨rfl, rfl⟩))
    go_ret2
    exact ⟨rfl, Below.refl _ _⟩
theorem uniP_A {l : List UInt8} {q : Nat} {u : Int × Bool} (hu : fourL l ((q : Int) + 1) = u) (h : u.2 = false ∨ inR u.1 56320 57343 = true) : uniP l q = badE := by unfold uniP; rw [hu, if_pos h]
theorem uniP_C {l : List UInt8} {q : Nat} {u : Int × Bool} (hu : fourL l ((q : Int) + 1) = u) (h : u.2 = true) (h2 : inR u.1 56320 57343 = false) (h3 : inR u.1 55296 56319 = false) : uniP l q = (u.1, (q : Int) + 5, true) := by
  unfold uniP; rw [hu, if_neg (by rw [h, h2]; decide), if_pos h3]
theorem uniP_D {l : List UInt8} {q : Nat} {u : Int × Bool} (hu : fourL l ((q : Int) + 1) = u) (h : u.2 = true) (h2 : inR u.1 56320 57343 = false) (h3 : inR u.1 55296 56319 = true) :
    uniP l q = if l.getD (q + 5) 0 = 92 ∧ l.getD (q + 6) 0 = 117 then
      if (fourL l ((q : Int) + 7)).2 = true ∧ inR (fourL l ((q : Int) + 7)).1 56320 57343 = true then (65536 + 1024 * (u.1 - 55296) + (fourL l ((q : Int) + 7)).1 - 56320, (q : Int) + 11, true)
      else badE
    else badE := by
  unfold uniP; rw [hu, if_neg (by rw [h, h2]; decide), if_neg (by rw [h3]; decide)]
theorem escP_u {l : List UInt8} {q : Nat} (h : l.getD q 0 = 117) : escP l q = uniP l q := by unfold escP; rw [h]; rfl
theorem escP_lit {l : List UInt8} {q : Nat} (h : l.getD q 0 = 34 ∨ l.getD q 0 = 92 ∨ l.getD q 0 = 47) : escP l q = (((l.getD q 0).toNat : Int), (q : Int) + 1, true) := by unfold escP; rw [if_pos h]
def noEsc (x : UInt8) : Prop := ¬ x = 34 ∧ ¬ x = 92 ∧ ¬ x = 47 ∧ ¬ x = 98 ∧ ¬ x = 116 ∧ ¬ x = 110 ∧ ¬ x = 102 ∧ ¬ x = 114 ∧ ¬ x = 117
theorem escP_no {l : List UInt8} {q : Nat} (h : noEsc (l.getD q 0)) : escP l q = badE := by
  obtain ⟨a, b, c, d, e, f, g, h, i⟩ := h
  unfold escP
  rw [if_neg (fun hh => by rcases hh with hh | hh | hh; exact a hh; exact b hh; exact c hh), if_neg d, if_neg e, if_neg f, if_neg g, if_neg h, if_neg i]
theorem esc_cases (x : UInt8) : x = 34 ∨ x = 92 ∨ x = 47 ∨ x = 98 ∨ x = 116 ∨ x = 110 ∨ x = 102 ∨ x = 114 ∨ x = 117 ∨ noEsc x := by
  unfold noEsc
  by_cases h1 : x = 34 <;> by_cases h2 : x = 92 <;> by_cases h3 : x = 47 <;> by_cases h4 : x = 98 <;> by_cases h5 : x = 116 <;> by_cases h6 : x = 110 <;> by_cases h7 : x = 102 <;> by_cases h8 : x = 114 <;> by_cases h9 : x = 117 <;> simp [*]
end Go.Proofs.YtceijgaocjghcaaGreatDoor
