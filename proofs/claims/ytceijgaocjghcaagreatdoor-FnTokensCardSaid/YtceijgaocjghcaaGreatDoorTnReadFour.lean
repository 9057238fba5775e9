/- ReadFour: impl and spec, and the law. -/
import Derived.Test.YtceijgaocjghcaaGreatDoorTnM6
import Derived.Test.YtceijgaocjghcaaGreatDoorTnTextOk
import Derived.Test.YtceijgaocjghcaaGreatDoorTnM1
import Derived.Lib.SmallJoins
import Derived.Shelf.Unicode.DecodeSlow
set_option linter.unusedVariables false
set_option maxRecDepth 100000
set_option linter.unusedSimpArgs false
namespace Go.Proofs.YtceijgaocjghcaaGreatDoor
open Go.RowKit

theorem ret2ib {a b : Int} {c d : Bool} (h : (a, c) = (b, d)) : Ending.returned (.tuple #[.int .i64 a, .bool c]) = .returned (.tuple #[.int .i64 b, .bool d]) := by
  injection h with h1 h2; rw [h1, h2]
def ret2 (r : Int × Bool) : Ending := .returned (.tuple #[.int .i64 r.1, .bool r.2])
theorem numG_nil (f : UInt8 → Int) (a : Int) : numG f [] a = (a, true) := rfl
theorem numG_bad {f : UInt8 → Int} {b : UInt8} {l : List UInt8} {a : Int} (h : f b < 0) : numG f (b :: l) a = (0, false) := by simp [numG, h]
theorem numG_good {f : UInt8 → Int} {b : UInt8} {l : List UInt8} {a : Int} (h : 0 ≤ f b) : numG f (b :: l) a = numG f l (16 * a + f b) := by
  have : ¬ f b < 0 := by omega
  simp [numG, this]
theorem s_l3Hex (b : UInt8) (w : World) : Calls Tryz.prog 194 #[.int .u8 (b.toNat : Int)] w fun e w' => e = .returned (.int .i64 (lowV b)) ∧ w = w' := by
  have h8 := b.toNat_lt
  unfold lowV
  by_cases h1 : 48 ≤ b.toNat ∧ b.toNat ≤ 57
  · rw [if_pos h1]
    have t1 := inR_yes (n := (b.toNat : Int)) (lo := 48) (hi := 57) (by omega) (by omega)
    generalize b.toNat = n at h8 h1 t1 ⊢
    go_enter Tryz.func194, Tryz.ntmps194
    go_wp2_with (go_at_call 47; refine (s_l1In _ _ _ _).mono ?_; rintro e w' ⟨rfl, rfl⟩)
    go_ret
    exact ⟨ret_int (by go_num), rfl⟩
  · rw [if_neg h1]
    have t1 := inR_no (n := (b.toNat : Int)) (lo := 48) (hi := 57) (by omega)
    by_cases h2 : 97 ≤ b.toNat ∧ b.toNat ≤ 102
    · rw [if_pos h2]
      have t2 := inR_yes (n := (b.toNat : Int)) (lo := 97) (hi := 102) (by omega) (by omega)
      generalize b.toNat = n at h8 h1 h2 t1 t2 ⊢
      go_enter Tryz.func194, Tryz.ntmps194
      go_wp2_with (go_at_call 47; refine (s_l1In _ _ _ _).mono ?_; rintro e w' ⟨rfl, rfl⟩)
      go_ret
      exact ⟨ret_int (by go_num), rfl⟩
    · rw [if_neg h2]
      have t2 := inR_no (n := (b.toNat : Int)) (lo := 97) (hi := 102) (by omega)
      generalize b.toNat = n at h8 h1 h2 t1 t2 ⊢
      go_enter Tryz.func194, Tryz.ntmps194
      go_wp2_with (go_at_call 47; refine (s_l1In _ _ _ _).mono ?_; rintro e w' ⟨rfl, rfl⟩)
      go_ret
      exact ⟨rfl, rfl⟩
theorem s_l9Digit (b : UInt8) (w : World) : Calls Tryz.prog 166 #[.int .u8 (b.toNat : Int)] w fun e w' => e = .returned (.int .i64 (digV b)) ∧ w = w' := by
  have h8 := b.toNat_lt
  have h3 := s_l3Hex b w
  by_cases h1 : 65 ≤ b.toNat ∧ b.toNat ≤ 70
  · have e : digV b = (b.toNat : Int) - 55 := by unfold digV; rw [if_pos h1]
    rw [e]
    have t1 := inR_yes (n := (b.toNat : Int)) (lo := 65) (hi := 70) (by omega) (by omega)
    clear h3
    generalize b.toNat = n at h8 h1 t1 ⊢
    go_enter Tryz.func166, Tryz.ntmps166
    go_wp2_with (go_at_call 47; refine (s_l1In _ _ _ _).mono ?_; rintro e w' ⟨rfl, rfl⟩)
    go_ret
    exact ⟨ret_int (by go_num), rfl⟩
  · have e : digV b = lowV b := by unfold digV lowV; rw [if_neg h1]
    rw [e]
    have t1 := inR_no (n := (b.toNat : Int)) (lo := 65) (hi := 70) (by omega)
    generalize lowV b = v at h3 ⊢
    generalize b.toNat = n at h8 h1 t1 h3 ⊢
    go_enter Tryz.func166, Tryz.ntmps166
    go_wp2_with (first | (go_at_call 47; refine (s_l1In _ _ _ _).mono ?_; rintro e w' ⟨rfl, rfl⟩) | (go_at_call 194; refine h3.mono ?_; rintro e w' ⟨rfl, rfl⟩))
    go_ret
    exact ⟨rfl, rfl⟩
set_option maxHeartbeats 1000000 in
theorem s_ReadFour (s : ByteArray) (i : Int) (w : World) (hs : s.size ≤ 1152921504606846976) (hi : -9223372036854775808 ≤ i ∧ i ≤ 9223372036854775807) :
    Calls Tryz.prog 123 #[.string s, .int .i64 i] w fun e w' => e = ret2 (fourL s.data.toList i) ∧ w = w' := by
  by_cases h : i < 0 ∨ (s.size : Int) - 4 < i
  · have e : fourL s.data.toList i = (0, false) := by unfold fourL; rw [if_pos (by rw [blen_of]; exact h)]
    rw [e]
    by_cases h0 : i < 0
    · go_enter Tryz.func123, Tryz.ntmps123
      go_wp2_with fail
      go_ret2
      exact ⟨rfl, rfl⟩
    · have h1 : (s.size : Int) - 4 < i := by omega
      go_enter Tryz.func123, Tryz.ntmps123
      go_wp2_with fail
      go_ret2
      exact ⟨rfl, rfl⟩
  · obtain ⟨k, rfl⟩ : ∃ k : Nat, i = k := ⟨i.toNat, by omega⟩
    have e : fourL s.data.toList k = numG digV ((s.data.toList.drop k).take 4) 0 := by unfold fourL; rw [if_neg (by rw [blen_of]; exact h)]; rfl
    obtain ⟨R, hR⟩ : ∃ R, fourL s.data.toList k = R := ⟨_, rfl⟩
    rw [hR]
    rw [hR] at e
    have HR : Hid (numG digV ((s.data.toList.drop k).take 4) 0 = R) := Lib.hid e.symm
    have h0 : ¬ (k : Int) < 0 := by omega
    have h1 : ¬ (k : Int) > (s.size : Int) - 4 := by omega
    have hk : k + 4 ≤ s.size := by omega
    clear e hR h
    go_enter Tryz.func123, Tryz.ntmps123
    go_wp2_with fail
    go_loopg [6, 7, 8] 4 (fun f v x y wr => ∃ (q : Nat) (a : Int), k ≤ q ∧ q + f = k + 4 ∧ x = .int .i64 q ∧ v = .int .i64 a ∧ 0 ≤ a ∧ a < 16 ^ (4 - f) ∧ Hid (numG digV ((s.data.toList.drop q).take f) a = R) ∧ w = wr)
    case atStart => exact ⟨k, 0, Nat.le_refl _, rfl, rfl, rfl, by omega, by decide, HR, rfl⟩
    case round =>
      obtain ⟨q, a, hkq, hjf, rfl, rfl, ha0, ha1, hH, rfl⟩ := hrel
      clear HR
      by_cases hlt : q < k + 4
      · obtain ⟨f, rfl⟩ : ∃ f, gk = f + 1 := ⟨gk - 1, by omega⟩
        have hqs : q < s.size := by omega
        have hkj : q < s.data.toList.length := by rw [blen_of]; omega
        have hh := hH.out
        rw [List.drop_eq_getElem_cons hkj, List.take_succ_cons, getElem_data s q hqs hkj] at hh
        have hd := s_l9Digit s[q] w
        have hbd := digV_bd s[q]
        have hpw : (16 : Int) ^ (4 - (f + 1)) ≤ 4096 ∧ (16 : Int) ^ (4 - f) = 16 * 16 ^ (4 - (f + 1)) := by
          have : f = 0 ∨ f = 1 ∨ f = 2 ∨ f = 3 := by omega
          rcases this with rfl | rfl | rfl | rfl <;> decide
        have hlti : (q : Int) < (k : Int) + 4 := by omega
        obtain ⟨p1, p2⟩ := hpw
        by_cases hneg : digV s[q] < 0
        · rw [numG_bad hneg] at hh
          have HH := Lib.hid hh
          clear hh hH p2
          generalize digV s[q] = v at hd hneg hbd
          go_wp2_with (go_at_call 166; refine hd.mono ?_; rintro e w' ⟨rfl, rfl⟩)
          go_ret2
          rw [← HH.out]
          exact ⟨rfl, rfl⟩
        · rw [numG_good (by omega)] at hh
          have HH := Lib.hid hh
          clear hh hH
          generalize digV s[q] = v at hd hneg hbd HH
          have h16 : 0 ≤ 16 * a + v ∧ 16 * a + v < 16 ^ (4 - f) := by rw [p2]; omega
          clear p2
          go_wp2_with (go_at_call 166; refine hd.mono ?_; rintro e w' ⟨rfl, rfl⟩)
          go_roundg f
          case measure => omega
          case rel => exact ⟨q + 1, 16 * a + v, by omega, by omega, by go_num, by go_num, h16.1, h16.2, HH, rfl⟩
      · obtain rfl : gk = 0 := by omega
        have hh := hH.out
        rw [List.take_zero, numG_nil] at hh
        have HH := Lib.hid hh
        have hlti : ¬ (q : Int) < (k : Int) + 4 := by omega
        clear hh hH ha1
        go_wp2_with fail
        go_ret2
        rw [← HH.out]
        exact ⟨rfl, rfl⟩
theorem ix_hex (c : UInt8) : Lib.indexByte [48, 49, 50, 51, 52, 53, 54, 55, 56, 57, 97, 98, 99, 100, 101, 102] c = lowV c := by
  refine u8_all (p := fun c => Lib.indexByte [48, 49, 50, 51, 52, 53, 54, 55, 56, 57, 97, 98, 99, 100, 101, 102] c = lowV c) ?_ c
  decide
theorem extract_list (s : ByteArray) (k : Nat) (h : k + 4 ≤ s.size) : (s.extract k (k + 4)).data.toList = (s.data.toList.drop k).take 4 := by
  rw [Lib.extract_data]
  simp
theorem toUInt8_toNat (c : UInt8) : (c.toNat : Int).toNat.toUInt8 = c := by
  show UInt8.ofNat ((c.toNat : Int).toNat) = c
  simp
theorem lower_len : ∀ (n : Nat) (l : List UInt8), l.length ≤ n → (Lib.toLowerD l).length ≤ 4 * l.length
  | _, [], _ => Nat.le_refl _
  | 0, b :: l, h => by simp at h
  | n + 1, b :: l, h => by
    have hs := Lib.mapD_step Lib.toLowerU (b :: l) (by simp)
    have hw : 1 ≤ (Lib.decodeL (b :: l)).2 := by
      by_cases hb : b.toNat < 128
      · rw [Lib.decodeL_ascii b l hb]; exact Nat.le_refl _
      · exact (decode_high ⟨(b :: l).toArray⟩ 0 (by show 0 < (b :: l).toArray.size; simp) (by show 128 ≤ b.toNat; omega)).2
    have hr := Lib.runeCells_le (Lib.toLowerU ((Lib.decodeL (b :: l)).1 : Int))
    rw [Lib.runeCells_length] at hr
    have ih := lower_len n ((b :: l).drop (Lib.decodeL (b :: l)).2) (by rw [List.length_drop]; omega)
    rw [List.length_drop] at ih
    unfold Lib.toLowerD at ih ⊢
    rw [hs, List.length_append]
    simp only [List.length_cons] at ih h ⊢
    split
    · omega
    · simp only [List.length_nil]; omega
set_option maxHeartbeats 1000000 in
theorem i_ReadFour (s : ByteArray) (i : Int) (w : World) (hs : s.size ≤ 1099511627776) (hi : -9223372036854775808 ≤ i ∧ i ≤ 9223372036854775807) (hC : Lib.CaseVar 6 Lib.caseA w) (hT : Lib.Utf8Tabs 1 2 w) :
    Calls Tryz.prog 158 #[.string s, .int .i64 i] w fun e w' => e = ret2 (fourL s.data.toList i) ∧ Below w.heap.size w w' := by
  by_cases h : i < 0 ∨ (s.size : Int) - 4 < i
  · have e : fourL s.data.toList i = (0, false) := by unfold fourL; rw [if_pos (by rw [blen_of]; exact h)]
    rw [e]
    have hw : inR i 0 ((s.size : Int) - 4) = false := inR_no (by omega)
    go_enter Tryz.func158, Tryz.ntmps158
    go_wp2_with (go_at_call 41; refine (i_within _ _ _ _).mono ?_; rintro e w' ⟨rfl, rfl⟩)
    go_ret2
    exact ⟨rfl, Below.refl _ _⟩
  · obtain ⟨k, rfl⟩ : ∃ k : Nat, i = k := ⟨i.toNat, by omega⟩
    have e : fourL s.data.toList k = numG digV ((s.data.toList.drop k).take 4) 0 := by unfold fourL; rw [if_neg (by rw [blen_of]; exact h)]; rfl
    have hk : k + 4 ≤ s.size := by omega
    obtain ⟨T, hT4⟩ : ∃ T, (s.data.toList.drop k).take 4 = T := ⟨_, rfl⟩
    have hTl : T.length = 4 := by rw [← hT4, List.length_take, List.length_drop, blen_of]; omega
    rw [hT4] at e
    have hx := extract_list s k hk
    rw [hT4] at hx
    have hlow : Calls Tryz.prog 189 #[.string (s.extract k (k + 4))] w fun e w' => e = .returned (.string ⟨(Lib.toLowerD T).toArray⟩) ∧ Below w.heap.size w w' := by
      have := Tryz.strings_ToLower_any (s.extract k (k + 4)) w (by have := congrArg List.length hx; rw [blen_of] at this; omega) hC hT
      rw [hx] at this
      exact this
    have hLl := lower_len _ T (Nat.le_refl _)
    obtain ⟨L, hL⟩ : ∃ L, Lib.toLowerD T = L := ⟨_, rfl⟩
    rw [hL] at hlow hLl
    obtain ⟨R, hR⟩ : ∃ R, fourL s.data.toList k = R := ⟨_, rfl⟩
    rw [hR]
    rw [hR] at e
    have HR : Hid (numG digV T 0 = R) := Lib.hid e.symm
    have HL : Hid (L.drop 0 = Lib.toLowerD T) := Lib.hid hL.symm
    have hw : inR (k : Int) 0 ((s.size : Int) - 4) = true := inR_yes (by omega) (by omega)
    clear e hR hT4 hx hL h hC hT
    go_enter Tryz.func158, Tryz.ntmps158
    go_wp2_with (first
      | (go_at_call 41; refine (i_within _ _ _ _).mono ?_; rintro e w' ⟨rfl, rfl⟩)
      | (go_at_call 189; refine hlow.mono ?_; rintro e w1 ⟨rfl, hb1⟩; obtain ⟨c, w2, hrun, hsl, hb2, _⟩ := run_bytes_of ⟨L.toArray⟩ w1 (by show L.toArray.size ≤ _; simp; omega)))
    have hbw := hb2
    clear hrun hlow hb2
    have hk2 : Below w.heap.size w w2 := hb1.up hbw
    go_loopg [6, 8, 9, 24] 4 (fun f v x y z wr => ∃ (j : Nat) (l : List UInt8) (a : Int), z = .int .i64 j ∧ v = .int .i64 a ∧ l.length = f ∧ 0 ≤ a ∧ a < 16 ^ (4 - f) ∧ f ≤ 4 ∧ Hid (L.drop j = Lib.toLowerD l) ∧ Hid (numG digV l a = R) ∧ w2 = wr)
    case atStart => exact ⟨0, T, 0, rfl, rfl, hTl, by omega, by decide, Nat.le_refl _, HL, HR, rfl⟩
    case round =>
      obtain ⟨j, l, a, rfl, rfl, hlf, ha0, ha1, hf4, hD, hH, rfl⟩ := hrel
      clear HL HR
      cases l with
      | nil =>
        have hd := hD.out
        rw [lower_nil, List.drop_eq_nil_iff] at hd
        have hlt : ¬ (j : Int) < (L.length : Int) := by omega
        clear hlf ha1 ha0
        go_wp2_with fail
        go_ret2
        rw [← hH.out]
        exact ⟨rfl, hk2⟩
      | cons b l =>
        obtain ⟨f, rfl⟩ : ∃ f, gk = f + 1 := ⟨l.length, by simpa using hlf.symm⟩
        obtain ⟨ch, m, h1, h2, h3⟩ := lower_step b l
        have hd := hD.out
        rw [h1] at hd
        have hjL : j < L.length := by
          have := congrArg List.length hd
          rw [List.length_drop, List.length_cons] at this
          omega
        have hch : L[j] = ch := by
          rw [List.drop_eq_getElem_cons hjL] at hd
          exact (List.cons.inj hd).1
        have hm : L.drop (j + 1) = m := by
          rw [List.drop_eq_getElem_cons hjL] at hd
          exact (List.cons.inj hd).2
        have hh := hH.out
        obtain ⟨g, o, e, _, hbb, hc2⟩ := hsl.byte hjL
        cases e
        rw [hch, Nat.zero_add] at hc2
        have hix := fun w => Tryz.strings_IndexByte ⟨#[48, 49, 50, 51, 52, 53, 54, 55, 56, 57, 97, 98, 99, 100, 101, 102]⟩ (ch.toNat : Int) w
        simp only [toUInt8_toNat] at hix
        rw [ix_hex ch] at hix
        have hbd := lowV_bd ch
        have hlt : (j : Int) < (L.length : Int) := by omega
        simp only [List.length_cons] at hlf
        have hpw : (16 : Int) ^ (4 - (f + 1)) ≤ 4096 ∧ (16 : Int) ^ (4 - f) = 16 * 16 ^ (4 - (f + 1)) := by
          have : f = 0 ∨ f = 1 ∨ f = 2 ∨ f = 3 := by omega
          rcases this with rfl | rfl | rfl | rfl <;> decide
        obtain ⟨p1, p2⟩ := hpw
        by_cases hneg : lowV ch < 0
        · rw [numG_bad (by omega)] at hh
          have HH := Lib.hid hh
          clear hh hH hD hd h1 h2 h3 hch hm p2
          generalize lowV ch = v at hix hneg hbd
          go_wp2_with (go_at_call 52; refine (hix _).mono ?_; rintro e w' ⟨rfl, hw⟩; subst hw)
          go_ret2
          rw [← HH.out]
          exact ⟨rfl, hk2⟩
        · rw [numG_good (by omega), ← h2] at hh
          have HD : Hid (L.drop (j + 1) = Lib.toLowerD l) := by rw [hm]; exact Lib.hid (h3 (by omega))
          have HH := Lib.hid hh
          clear hh hH hD hd h1 h2 h3 hch hm
          generalize lowV ch = v at hix hneg hbd HH
          have h16 : 0 ≤ 16 * a + v ∧ 16 * a + v < 16 ^ (4 - f) := by rw [p2]; omega
          clear p2
          go_wp2_with (go_at_call 52; refine (hix _).mono ?_; rintro e w' ⟨rfl, hw⟩; subst hw)
          go_roundg f
          case measure => omega
          case rel => exact ⟨j + 1, l, 16 * a + v, by go_num, by go_num, by omega, h16.1, h16.2, by omega, HD, HH, rfl⟩
end Go.Proofs.YtceijgaocjghcaaGreatDoor
