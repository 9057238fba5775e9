/- EscapeOf. -/
import Derived.Test.YtceijgaocjghcaaGreatDoorTbM5
import Derived.Test.YtceijgaocjghcaaGreatDoorTbM1
set_option linter.unusedVariables false
set_option maxRecDepth 100000
set_option linter.unusedSimpArgs false
namespace Go.Proofs.YtceijgaocjghcaaGreatDoor
open Go.RowKit

theorem wrap32_as (n : Int) (h : -2147483648 ≤ n ∧ n ≤ 2147483647) : wrap32 n = n := by unfold wrap32; omega
def escL (n : Int) : List UInt8 :=
  if runeOk n = true then
    if n = 34 then [92, 34] else if n = 92 then [92, 92] else if n = 8 then [92, 98] else if n = 9 then [92, 116] else if n = 10 then [92, 110]
    else if n = 12 then [92, 102] else if n = 13 then [92, 114] else if n < 32 then 92 :: 117 :: 48 :: 48 :: hexOf [UInt8.ofNat n.toNat] else encL n.toNat
  else []
theorem escL_not {n : Int} (h : runeOk n = false) : escL n = [] := by simp [escL, h]
theorem escL_low {n : Int} (h : 0 ≤ n) (h2 : n < 32) (h3 : n ≠ 8 ∧ n ≠ 9 ∧ n ≠ 10 ∧ n ≠ 12 ∧ n ≠ 13) : escL n = 92 :: 117 :: 48 :: 48 :: hexOf [UInt8.ofNat n.toNat] := by
  have h4 : runeOk n = true := runeOk_yes h (by omega) (by omega)
  obtain ⟨a, b, c, d, e⟩ := h3
  have f : n ≠ 34 := by omega
  have g : n ≠ 92 := by omega
  simp only [escL, h4, a, b, c, d, e, f, g, h2, if_true, if_false]
theorem escL_high {n : Int} (h : runeOk n = true) (h2 : 32 ≤ n) (h3 : n ≠ 34 ∧ n ≠ 92) : escL n = encL n.toNat := by
  obtain ⟨a, b⟩ := h3
  have : ¬ n < 32 := by omega
  have c : n ≠ 8 := by omega
  have d : n ≠ 9 := by omega
  have e : n ≠ 10 := by omega
  have f : n ≠ 12 := by omega
  have g : n ≠ 13 := by omega
  simp only [escL, h, a, b, c, d, e, f, g, this, if_true, if_false]
theorem escL_len (n : Int) : (escL n).length ≤ 8 := by
  unfold escL
  have := encL_len n.toNat
  have h2 := hexOf_len [UInt8.ofNat n.toNat]
  (repeat' split) <;> simp at h2 ⊢ <;> omega
theorem u8_low {n : Int} (h : 0 ≤ n) (h2 : n < 256) : [Value.int .u8 n] = u8s [UInt8.ofNat n.toNat] := by
  simp [u8s]; omega
theorem hexOf_size (b : List UInt8) : (⟨(hexOf b).toArray⟩ : ByteArray).size = 2 * b.length := by
  show (hexOf b).toArray.size = _
  simp [hexOf_len]
theorem utf8_one {n : Int} (h : 0 ≤ n) (h2 : n < 128) : Utf8.encode n = ⟨[UInt8.ofNat n.toNat].toArray⟩ := by
  rw [encode_ok (runeOk_yes h (by omega) (by omega)), encL, if_pos (by omega)]
set_option maxHeartbeats 1600000 in
theorem s_EscapeOf (n : Int) (w : World) :
    Calls Tryz.prog 112 #[.int .i64 n] w fun e w' => e = .returned (.string ⟨(escL n).toArray⟩) ∧ Below w.heap.size w w' := by
  cases hb : runeOk n
  · go_enter Tryz.func112, Tryz.ntmps112
    go_wp2_with (go_at_call 155; refine (s_RuneOk _ _).mono ?_; rintro e w' ⟨rfl, rfl⟩)
    go_ret
    exact ⟨ret_str (by rw [escL_not hb]), Below.refl _ _⟩
  · have hr := runeOk_iff.1 hb
    by_cases h : n = 34 ∨ n = 92 ∨ n = 8 ∨ n = 9 ∨ n = 10 ∨ n = 12 ∨ n = 13
    · rcases h with rfl | rfl | rfl | rfl | rfl | rfl | rfl
      all_goals
        go_enter Tryz.func112, Tryz.ntmps112
        go_wp2_with (go_at_call 155; refine (s_RuneOk _ _).mono ?_; rintro e w' ⟨rfl, rfl⟩)
        go_ret
        exact ⟨ret_str rfl, Below.refl _ _⟩
    · by_cases h2 : n < 32
      · have HC := Lib.hid h
        have HB := Lib.hid hr
        have h0 := hr.1
        have e1 : (n == 34) = false := by simp; omega
        have e2 : (n == 92) = false := by simp; omega
        have e3 : (n == 8) = false := by simp; omega
        have e4 : (n == 9) = false := by simp; omega
        have e5 : (n == 10) = false := by simp; omega
        have e6 : (n == 12) = false := by simp; omega
        have e7 : (n == 13) = false := by simp; omega
        clear hr h
        have hsl := Sl.congr (u8_low h0 (by omega)) (Sl.lit w 5 #[.int .u8 n] 1 1 rfl (by decide) _ (Nat.lt_succ_self _))
        have hcv := run_str_sl (P := Tryz.prog) 22 5 Tryz.underlying22 Tryz.underlying5 hsl 9 Tryz.underlying9
        go_enter Tryz.func112, Tryz.ntmps112
        go_wp2_with (go_at_call 155; refine (s_RuneOk _ _).mono ?_; rintro e w' ⟨rfl, rfl⟩)
        go_wp2_with (go_at_call 156; refine (s_HexText _ _ (by exact Nat.le_trans (Nat.le_refl 1) (by decide))).mono ?_; rintro e w1 ⟨rfl, hb1⟩)
        go_ret
        exact ⟨ret_str (by rw [escL_low h0 h2 (by have := HC.out; omega)]; rfl), hb1.boxed⟩
      · have HC := Lib.hid h
        have HB := Lib.hid hr
        have h0 : 32 ≤ n := by omega
        have e1 : (n == 34) = false := by simp; omega
        have e2 : (n == 92) = false := by simp; omega
        have e3 : (n == 8) = false := by simp; omega
        have e4 : (n == 9) = false := by simp; omega
        have e5 : (n == 10) = false := by simp; omega
        have e6 : (n == 12) = false := by simp; omega
        have e7 : (n == 13) = false := by simp; omega
        clear hr h
        go_enter Tryz.func112, Tryz.ntmps112
        go_wp2_with (go_at_call 155; refine (s_RuneOk _ _).mono ?_; rintro e w' ⟨rfl, rfl⟩)
        go_wp2_with (go_at_call 82; refine (s_FromRunes _ _ _ [n] _ _ (by exact Sl.congr (by rfl) (Sl.lit w 3 #[.int .i64 n] 1 1 rfl (by decide) _ (Nat.lt_succ_self _))) (by simp) (by decide)).mono ?_; rintro e w1 ⟨rfl, hb1⟩)
        go_ret
        exact ⟨ret_str (by rw [escL_high hb h0 (by have := HC.out; omega)]; simp [encAll, encR, hb]), hb1.boxed⟩
theorem ix_ctl : ∀ m, m < 32 → m ≠ 8 ∧ m ≠ 9 ∧ m ≠ 10 ∧ m ≠ 12 ∧ m ≠ 13 → Lib.indexByte [8, 9, 10, 12, 13] m.toUInt8 = -1 := by decide
theorem ix_8 : Lib.indexByte [8, 9, 10, 12, 13] 8 = 0 := by decide
theorem ix_9 : Lib.indexByte [8, 9, 10, 12, 13] 9 = 1 := by decide
theorem ix_10 : Lib.indexByte [8, 9, 10, 12, 13] 10 = 2 := by decide
theorem ix_12 : Lib.indexByte [8, 9, 10, 12, 13] 12 = 3 := by decide
theorem ix_13 : Lib.indexByte [8, 9, 10, 12, 13] 13 = 4 := by decide
set_option maxHeartbeats 1600000 in
theorem i_EscapeOf (n : Int) (w : World) :
    Calls Tryz.prog 108 #[.int .i64 n] w fun e w' => e = .returned (.string ⟨(escL n).toArray⟩) ∧ Below w.heap.size w w' := by
  cases hb : runeOk n
  · go_enter Tryz.func108, Tryz.ntmps108
    go_wp2_with (go_at_call 152; refine (i_RuneOk _ _).mono ?_; rintro e w' ⟨rfl, rfl⟩)
    go_ret
    exact ⟨ret_str (by rw [escL_not hb]), Below.refl _ _⟩
  · have hr := runeOk_iff.1 hb
    by_cases h : n = 34 ∨ n = 92 ∨ n = 8 ∨ n = 9 ∨ n = 10 ∨ n = 12 ∨ n = 13
    · have ha := ix_8
      have hb' := ix_9
      have hc := ix_10
      have hd := ix_12
      have he := ix_13
      rcases h with rfl | rfl | rfl | rfl | rfl | rfl | rfl
      all_goals
        go_enter Tryz.func108, Tryz.ntmps108
        go_wp2_with (first | (go_at_call 152; refine (i_RuneOk _ _).mono ?_; rintro e w' ⟨rfl, rfl⟩) | (go_at_call 52; refine (Tryz.strings_IndexByte _ _ _).mono ?_; rintro e w' ⟨rfl, hw⟩; subst hw))
        go_ret
        exact ⟨ret_str (by first | rfl | decide | (apply ByteArray.ext; rw [ByteArray.data_append, ByteArray.data_extract]; rfl)), Below.refl _ _⟩
    · by_cases h2 : n < 32
      · have HC := Lib.hid h
        have HB := Lib.hid hr
        have h0 := hr.1
        have e1 : (n == 34) = false := by simp; omega
        have e2 : (n == 92) = false := by simp; omega
        have e3 := ix_ctl n.toNat (by omega) (by omega)
        have e4 := utf8_one h0 (by omega)
        have e5 := wrap32_as n (by omega)
        clear hr h
        go_enter Tryz.func108, Tryz.ntmps108
        go_wp2_with (first | (go_at_call 152; refine (i_RuneOk _ _).mono ?_; rintro e w' ⟨rfl, rfl⟩) | (go_at_call 52; refine (Tryz.strings_IndexByte _ _ _).mono ?_; rintro e w' ⟨rfl, hw⟩; subst hw))
        go_wp2_with (go_at_call 153; refine (i_HexText _ _ (by exact Nat.le_trans (Nat.le_refl 1) (by decide))).mono ?_; rintro e w1 ⟨rfl, hb1⟩)
        go_ret
        exact ⟨ret_str (by rw [escL_low h0 h2 (by have := HC.out; omega)]; rfl), hb1⟩
      · have h0 : 32 ≤ n := by omega
        have HC := Lib.hid h
        have HB := Lib.hid hr
        have e1 : (n == 34) = false := by simp; omega
        have e2 : (n == 92) = false := by simp; omega
        have e4 := encode_ok hb
        clear hr h
        go_enter Tryz.func108, Tryz.ntmps108
        go_wp2_with (first | (go_at_call 152; refine (i_RuneOk _ _).mono ?_; rintro e w' ⟨rfl, rfl⟩) | (go_at_call 52; refine (Tryz.strings_IndexByte _ _ _).mono ?_; rintro e w' ⟨rfl, hw⟩; subst hw))
        go_ret
        exact ⟨ret_str (by rw [wrap32_as _ (by have := HB.out; omega), e4, escL_high hb h0 (by have := HC.out; omega)]), Below.refl _ _⟩
end Go.Proofs.YtceijgaocjghcaaGreatDoor
