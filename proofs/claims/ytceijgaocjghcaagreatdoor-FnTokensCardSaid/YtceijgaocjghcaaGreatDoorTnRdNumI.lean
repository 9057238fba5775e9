/- Numbers read from text: impl. -/
import Derived.Test.YtceijgaocjghcaaGreatDoorTnRdNumP
import Derived.Test.YtceijgaocjghcaaGreatDoorTnM13
import Derived.Test.YtceijgaocjghcaaGreatDoorTnNumText
import Derived.Test.YtceijgaocjghcaaGreatDoorShelf
import Derived.Deep.LoopGhost
import Derived.Deep.Cut
import Derived.Shelf.Strconv.AtoiErr
set_option linter.unusedVariables false
set_option maxRecDepth 100000
set_option linter.unusedSimpArgs false
namespace Go.Proofs.YtceijgaocjghcaaGreatDoor
open Go.RowKit

theorem i_isDigit (s : ByteArray) (p : Nat) (w : World) (hs : s.size ≤ 1099511627776) :
    Calls Tryz.prog 43 #[.string s, .int .i64 p] w fun e w' => e = .returned (.bool (isDg (s.data.toList.getD p 0))) ∧ w = w' := by
  by_cases hp : p < s.size
  · have hi : inR (p : Int) 0 ((s.size : Int) - 1) = true := inR_yes (by omega) (by omega)
    rw [getD_size hp]
    obtain ⟨y, hy⟩ : ∃ y, s[p] = y := ⟨_, rfl⟩
    rw [hy]
    by_cases h1 : 48 ≤ y.toNat
    · by_cases h2 : y.toNat ≤ 57
      · have e : isDg y = true := (isDg_iff y).2 ⟨h1, h2⟩
        have e1 : (48 : Int) ≤ (y.toNat : Int) := by omega
        have e2 : (y.toNat : Int) ≤ 57 := by omega
        rw [e]
        clear h1 h2 e
        go_enter Tryz.func43, Tryz.ntmps43
        go_wp2_with (go_at_call 41; refine (i_within _ _ _ _).mono ?_; rintro e w' ⟨rfl, rfl⟩)
        go_ret
        exact ⟨rfl, rfl⟩
      · have e : isDg y = false := by cases h : isDg y with | false => rfl | true => exact absurd ((isDg_iff y).1 h).2 h2
        have e1 : (48 : Int) ≤ (y.toNat : Int) := by omega
        have e2 : ¬ (y.toNat : Int) ≤ 57 := by omega
        rw [e]
        clear h1 h2 e
        go_enter Tryz.func43, Tryz.ntmps43
        go_wp2_with (go_at_call 41; refine (i_within _ _ _ _).mono ?_; rintro e w' ⟨rfl, rfl⟩)
        go_ret
        exact ⟨ret_bool (decide_eq_false (by omega)), rfl⟩
    · have e : isDg y = false := by cases h : isDg y with | false => rfl | true => exact absurd ((isDg_iff y).1 h).1 h1
      have e1 : ¬ (48 : Int) ≤ (y.toNat : Int) := by omega
      rw [e]
      clear h1 e
      go_enter Tryz.func43, Tryz.ntmps43
      go_wp2_with (go_at_call 41; refine (i_within _ _ _ _).mono ?_; rintro e w' ⟨rfl, rfl⟩)
      go_ret
      exact ⟨rfl, rfl⟩
  · have hi : inR (p : Int) 0 ((s.size : Int) - 1) = false := inR_no (by omega)
    rw [getD_out hp]
    have e : isDg 0 = false := by decide
    rw [e]
    go_enter Tryz.func43, Tryz.ntmps43
    go_wp2_with (go_at_call 41; refine (i_within _ _ _ _).mono ?_; rintro e w' ⟨rfl, rfl⟩)
    go_ret
    exact ⟨rfl, rfl⟩
theorem i_digitsFrom (s : ByteArray) (p0 : Nat) (w : World) (hs : s.size ≤ 1099511627776) (hp0 : p0 ≤ s.size) :
    Calls Tryz.prog 78 #[.string s, .int .i64 p0] w fun e w' => e = .returned (.string ⟨(dgl s.data.toList p0).toArray⟩) ∧ w = w' := by
  rw [← dgl_extract]
  obtain ⟨q, hq⟩ : ∃ q, dgEnd s.data.toList p0 = q := ⟨_, rfl⟩
  have hq1 : p0 ≤ q := by rw [← hq]; unfold dgEnd; omega
  have hq2 : q ≤ s.size := by rw [← hq, ← blen_of]; exact dgEnd_le (by rw [blen_of]; exact hp0)
  have H := Lib.hid hq
  rw [hq]
  clear hq
  go_enter Tryz.func78, Tryz.ntmps78
  go_wp2_with fail
  go_loop [5] (fun i => ∃ k : Nat, i = .int .i64 k ∧ p0 ≤ k ∧ k ≤ s.size ∧ Hid (dgEnd s.data.toList k = q)) (fun i => s.size - (intOf i).toNat)
  case atStart => exact ⟨p0, rfl, Nat.le_refl _, hp0, H⟩
  case round =>
    obtain ⟨k, rfl, hk1, hk2, HK⟩ := hrel
    clear H
    have hd := fun w1 => i_isDigit s k w1 hs
    obtain ⟨b, hb⟩ : ∃ b, isDg (s.data.toList.getD k 0) = b := ⟨_, rfl⟩
    rw [hb] at hd
    cases b with
    | true =>
      have hlt : k < s.size := by have := lt_of_dg hb; rwa [blen_of] at this
      have HH : Hid (dgEnd s.data.toList (k + 1) = q) := Lib.hid (by rw [← dgEnd_yes hb]; exact HK.out)
      clear hb HK
      go_wp2_with (go_at_call 43; refine (hd _).mono ?_; rintro e w' ⟨rfl, rfl⟩)
      go_round
      case rel => exact ⟨k + 1, by go_num, by omega, by omega, HH⟩
      case measure => simp [intOf]; omega
    | false =>
      obtain rfl : k = q := by rw [← HK.out, dgEnd_no hb]
      clear hb HK
      go_wp2_with (go_at_call 43; refine (hd _).mono ?_; rintro e w' ⟨rfl, rfl⟩)
      go_ret
      exact ⟨rfl, rfl⟩
theorem results_tmp4 {fn : Func} {t u v x : Tmp} (h : fn.results = #[.tmp t, .tmp u, .tmp v, .tmp x]) (tmps : Array Value) (P : Program) (w : World) :
    (results fn tmps).run P w = .ok (.tuple #[tmps.getD t undef, tmps.getD u undef, tmps.getD v undef, tmps.getD x undef]) w := by
  simp [results, h]
/-- The variable ErrSyntax holds an error or nil. -/
def ErrT (w : World) : Prop := ∃ ev, w.cell? ⟨3, 0, none⟩ = some ev ∧ (ev = .nilIface ∨ ∃ te pe, ev = .iface te pe)
theorem ErrT.below {w w' : World} (h : ErrT w) (hb : Below w.heap.size w w') : ErrT w' := by
  obtain ⟨ev, h1, h2⟩ := h
  exact ⟨ev, (hb.cell (Lib.lt_of_cell h1)).trans h1, h2⟩
/-- strconv.Atoi of digits, at most 18 of them, none let in. -/
theorem i_Atoi (D : List UInt8) (s : ByteArray) (hs : s.data.toList = D) (h : ∀ c ∈ D, isDg c = true) (hl : D.length ≤ 18) (w : World) (hE : ErrT w) :
    Calls Tryz.prog 80 #[.string s] w fun e w' => (∃ x, e = .returned (.tuple #[.int .i64 (valD D : Int), x])) ∧ Below w.heap.size w w' := by
  have hsz : s.size ≤ 18 := by rw [← blen_of, hs]; exact hl
  by_cases h0 : D = []
  · subst h0
    obtain ⟨ev, h1, h2⟩ := hE
    refine (Tryz.strconv_Atoi_err s hsz (by rw [hs]; rfl) ev w h1 h2).mono ?_
    rintro e w' ⟨N, rfl, _, _, hb⟩
    exact ⟨⟨_, rfl⟩, hb⟩
  · refine (Tryz.strconv_Atoi s (valD D) hsz (by rw [hs]; exact atoi_digits h h0) w).mono ?_
    rintro e w' ⟨rfl, t, rfl⟩
    exact ⟨⟨_, rfl⟩, Lib.bytesWorld_below _ _ _⟩
theorem ba_data (W : List UInt8) : (⟨W.toArray⟩ : ByteArray).data.toList = W := by simp
theorem ba_empty_no {b : ByteArray} {W : List UInt8} (h : b.data.toList = W) (h2 : W ≠ []) : b.toList.isEmpty = false := by
  rw [ByteArray.toList_eq, h]
  cases W with
  | nil => exact absurd rfl h2
  | cons a l => rfl
theorem ba_size {b : ByteArray} {W : List UInt8} (h : b.data.toList = W) : b.size = W.length := by rw [← h, blen_of]
theorem hasPrefix_zero {W : List UInt8} (h : W ≠ []) : Lib.hasPrefix W [48] = decide (W.getD 0 0 = 48) := by
  cases W with
  | nil => exact absurd rfl h
  | cons a l =>
    show ([48] : List UInt8).isPrefixOf (a :: l) = decide (a = 48)
    rw [Bool.eq_iff_iff]
    simp [List.isPrefixOf]
    exact eq_comm
set_option maxHeartbeats 4000000 in
theorem i_ReadNumber (s : ByteArray) (i : Int) (w : World) (hs : s.size ≤ 1073741824) (hi : 0 ≤ i ∧ i ≤ s.size) (hE : ErrT w) :
    Calls Tryz.prog 44 #[.string s, .int .i64 i] w fun e w' => e = retN (numbP s.data.toList i.toNat) ∧ Below w.heap.size w w' := by
  obtain ⟨p, rfl⟩ : ∃ p : Nat, i = p := ⟨i.toNat, by omega⟩
  have hp : p ≤ s.size := by omega
  rw [Int.toNat_natCast]
  obtain ⟨R, hR⟩ : ∃ R, numbP s.data.toList p = R := ⟨_, rfl⟩
  rw [hR]
  have HR := Lib.hid hR
  have hin : inR (p : Int) 0 (s.size : Int) = true := inR_yes (by omega) (by omega)
  have hbA := fun (q : Nat) (y : UInt8) (hy : s.data.toList.getD q 0 = y) w1 => (show Calls Tryz.prog 75 #[.string s, .int .i64 q] w1 fun e w' => e = .returned (.int .u8 (y.toNat : Int)) ∧ w1 = w' by have h := i_byteAt s q w1 (by omega); rw [byteV_nat, hy] at h; exact h)
  obtain ⟨l, hl⟩ : ∃ l, s.data.toList = l := ⟨_, rfl⟩
  have hll := blen_of s
  have hdF := fun (q : Nat) (hq : q ≤ s.size) w1 => i_digitsFrom s q w1 (by omega) hq
  rw [hl] at HR hll
  simp only [hl] at hbA hdF
  obtain ⟨y, hy⟩ : ∃ y, l.getD p 0 = y := ⟨_, rfl⟩
  have hb0 := hbA p y hy
  have Hy := Lib.hid hy
  clear hR hi hl hy
  go_enter Tryz.func44, Tryz.ntmps44
  go_upto_if 30 with (first
    | (go_at_call 41; refine (i_within _ _ _ _).mono ?_; rintro e w' ⟨rfl, rfl⟩)
    | (go_at_call 75; refine (hb0 _).mono ?_; rintro e w' ⟨rfl, rfl⟩))
  go_cut [1, 8] from 20 (fun s1 s8 w' => ∃ (neg : Bool) (q : Nat), s1 = .int .i64 q ∧ s8 = .bool neg ∧ q ≤ s.size ∧ Hid (numW l neg q = R) ∧ w' = w)
  case first =>
    by_cases h45 : y = 45
    · have hlt : p < s.size := by
        rcases Nat.lt_or_ge p s.size with h | h
        · exact h
        · have := Hy.out
          rw [h45, show l.getD p 0 = 0 by simp [List.getD, List.getElem?_eq_none (show l.length ≤ p by omega)]] at this; exact absurd this (by decide)
      have HH : Hid (numW l true (p + 1) = R) := Lib.hid (by rw [← HR.out]; unfold numbP; rw [if_pos (Hy.out.trans h45)])
      subst h45
      clear HR hbA hdF hb0 Hy
      go_wp2_with fail
      go_meet
      case rel => exact ⟨true, p + 1, by go_num, rfl, by omega, HH, rfl⟩
    · have HH : Hid (numW l false p = R) := Lib.hid (by rw [← HR.out]; unfold numbP; rw [if_neg (by rw [Hy.out]; exact h45)])
      have x5 : ((y.toNat : Int) == 45) = false := u8_ne 45 (by decide) h45
      clear HR hbA hdF hb0 h45 Hy
      go_wp2_with fail
      go_meet
      case rel => exact ⟨false, p, rfl, congrArg Value.bool x5, hp, HH, rfl⟩
  case rest =>
  obtain ⟨neg, q, rfl, rfl, hq, HW, rfl⟩ := hcut
  have hd0 := hdF q hq
  by_cases hd : dgl l q = []
  · have hR : R = badN q := by rw [← HW.out]; unfold numW; rw [if_pos hd]
    subst hR
    rw [hd] at hd0
    have hpre := fun w1 => Tryz.strings_HasPrefix ⟨#[]⟩ ⟨#[48]⟩ w1
    have e0 : Lib.hasPrefix (⟨#[]⟩ : ByteArray).data.toList (⟨#[48]⟩ : ByteArray).data.toList = false := rfl
    rw [e0] at hpre
    clear HW HR hdF hbA hd Hy hb0
    go_wp2_with (first
      | (go_at_call 78; refine (hd0 _).mono ?_; rintro e w' ⟨rfl, rfl⟩)
      | (go_at_call 45; refine (hpre _).mono ?_; rintro e w' ⟨rfl, hw⟩; have hw2 := hw.symm; clear hw; subst hw2))
    refine bodyPost_ret (results_tmp4 rfl _ _ _) rfl ?_
    exact ⟨retN_eq rfl rfl (by go_num) rfl, Below.refl _ _⟩
  obtain ⟨DB, hDB⟩ : ∃ b : ByteArray, b = ⟨(dgl l q).toArray⟩ := ⟨_, rfl⟩
  have hDd : DB.data.toList = dgl l q := by rw [hDB, ba_data]
  rw [← hDB] at hd0
  have hpre := fun w1 => Tryz.strings_HasPrefix DB ⟨#[48]⟩ w1
  have e0 : Lib.hasPrefix DB.data.toList (⟨#[48]⟩ : ByteArray).data.toList = decide (l.getD q 0 = 48) := by
    rw [hDd]
    show Lib.hasPrefix (dgl l q) [48] = _
    rw [hasPrefix_zero hd, dgl_yes' (dgl_ne hd)]
    rfl
  rw [e0] at hpre
  obtain ⟨b48, hb48⟩ : ∃ b, decide (l.getD q 0 = 48) = b := ⟨_, rfl⟩
  rw [hb48] at hpre
  have H48 := Lib.hid hb48
  clear hb48
  have hDq := lt_of_dg (dgl_ne hd)
  have hEq := dgEnd_le (l := l) (p := q) (by omega)
  have hDz : DB.size = dgn l q := ba_size hDd
  clear hDB e0
  go_upto_if 37 with (first
    | (go_at_call 78; refine (hd0 _).mono ?_; rintro e w' ⟨rfl, rfl⟩)
    | (go_at_call 45; refine (hpre _).mono ?_; rintro e w' ⟨rfl, hw⟩; have hw2 := hw.symm; clear hw; subst hw2))
  go_cut [9] from 20 (fun s9 w' => ∃ (WB : ByteArray) (W : List UInt8) (r : Nat), s9 = .string WB ∧ WB.data.toList = W ∧ W ≠ [] ∧ (∀ c ∈ W, isDg c = true) ∧ r = q + WB.size ∧ r ≤ s.size ∧ Hid (numF l neg W r = R) ∧ w' = wc)
  case first =>
    cases b48 with
    | true =>
      have h48 := of_decide_eq_true H48.out
      have HH : Hid (numF l neg [48] (q + 1) = R) := Lib.hid (by rw [← HW.out]; unfold numW; rw [if_neg hd, if_pos h48])
      clear HW HR hbA hdF hb0 Hy h48 hpre hd0 H48
      go_wp2_with fail
      go_meet
      case rel => exact ⟨⟨#[48]⟩, [48], q + 1, rfl, rfl, by simp, fun c hc => by (rw [List.mem_singleton] at hc; subst hc; decide), rfl, by omega, HH, rfl⟩
    | false =>
      have h48 := of_decide_eq_false H48.out
      have HH : Hid (numF l neg (dgl l q) (dgEnd l q) = R) := Lib.hid (by rw [← HW.out]; unfold numW; rw [if_neg hd, if_neg h48])
      clear HW HR hbA hdF hb0 Hy h48 hpre hd0 H48
      go_wp2_with fail
      go_meet
      case rel => exact ⟨DB, dgl l q, dgEnd l q, rfl, hDd, hd, fun c hc => dgl_all c hc, by rw [hDz]; rfl, by omega, HH, rfl⟩
  case rest =>
  obtain ⟨WB, W, r, rfl, hWB, hWn, hWd, hr, hrs, HF, rfl⟩ := hcut
  have hWe := ba_empty_no hWB hWn
  clear hd0 hpre hDd hDz hd HW HR hDq hEq hb0 Hy H48
  have hr2 : (q : Int) + (WB.size : Int) = (r : Int) := by omega
  have hWz : WB.size ≤ 1073741824 := by omega
  clear hr hq
  obtain ⟨y1, hy1⟩ : ∃ y, l.getD r 0 = y := ⟨_, rfl⟩
  have hb1 := hbA r y1 hy1
  have Hy1 := Lib.hid hy1
  clear hy1
  have hdF1 := hdF (r + 1)
  by_cases hbad : y1 = 46 ∧ dgl l (r + 1) = []
  · have hR : R = badN (r + 1) := by rw [← HF.out]; unfold numF; rw [if_pos (Hy1.out.trans hbad.1), if_pos hbad.2]
    subst hR
    obtain ⟨rfl, hd1⟩ := hbad
    have hrl : r < s.size := by
      rcases Nat.lt_or_ge r s.size with h | h
      · exact h
      · have := Hy1.out
        rw [show l.getD r 0 = 0 by simp [List.getD, List.getElem?_eq_none (show l.length ≤ r by omega)]] at this; exact absurd this (by decide)
    have hdF2 := hdF1 (by omega)
    rw [hd1] at hdF2
    have hdF3 : ∀ w1, Calls Tryz.prog 78 #[.string s, .int .i64 ((r : Int) + 1)] w1 fun e w' => e = .returned (.string ⟨([] : List UInt8).toArray⟩) ∧ w1 = w' := fun w1 => hdF2 w1
    clear HF hdF hdF1 hdF2 hbA Hy1 hWd hWn hWB hd1
    go_wp2_with (first
      | (go_at_call 75; refine (hb1 _).mono ?_; rintro e w' ⟨rfl, rfl⟩)
      | (go_at_call 78; refine (hdF3 _).mono ?_; rintro e w' ⟨rfl, rfl⟩))
    refine bodyPost_ret (results_tmp4 rfl _ _ _) rfl ?_
    exact ⟨retN_eq rfl rfl (by go_num) rfl, Below.refl _ _⟩
  go_upto_if 48 with (go_at_call 75; refine (hb1 _).mono ?_; rintro e w' ⟨rfl, rfl⟩)
  go_cut [1, 10] from 20 (fun s1 s10 w' => ∃ (FB : ByteArray) (F : List UInt8) (q2 : Nat), s1 = .int .i64 q2 ∧ s10 = .string FB ∧ FB.data.toList = F ∧ (∀ c ∈ F, isDg c = true) ∧ FB.size ≤ s.size ∧ q2 ≤ s.size ∧ Hid (numE l neg (W ++ F) FB.size q2 = R) ∧ w' = wc)
  case first =>
    by_cases h46 : y1 = 46
    · have hd1 : dgl l (r + 1) ≠ [] := fun h => hbad ⟨h46, h⟩
      have hlt := lt_of_dg (dgl_ne hd1)
      have hE2 := dgEnd_le (l := l) (p := r + 1) (by omega)
      have HH : Hid (numE l neg (W ++ dgl l (r + 1)) (dgn l (r + 1)) (dgEnd l (r + 1)) = R) := Lib.hid (by rw [← HF.out]; unfold numF; rw [if_pos (Hy1.out.trans h46), if_neg hd1])
      have hdF2 := hdF1 (by omega)
      obtain ⟨FB, hFB⟩ : ∃ b : ByteArray, b = ⟨(dgl l (r + 1)).toArray⟩ := ⟨_, rfl⟩
      have hFd : FB.data.toList = dgl l (r + 1) := by rw [hFB, ba_data]
      rw [← hFB] at hdF2
      have hFz : FB.size = dgn l (r + 1) := ba_size hFd
      have hFe := ba_empty_no hFd hd1
      have hdF3 : ∀ w1, Calls Tryz.prog 78 #[.string s, .int .i64 ((r : Int) + 1)] w1 fun e w' => e = .returned (.string FB) ∧ w1 = w' := fun w1 => hdF2 w1
      have hfn := dgn_le l (r + 1)
      have hFq : ∃ q2 : Nat, q2 = dgEnd l (r + 1) ∧ (r : Int) + (1 + (FB.size : Int)) = (q2 : Int) := ⟨_, rfl, by unfold dgEnd; omega⟩
      obtain ⟨q2, hq2, hq3⟩ := hFq
      rw [← hq2, ← hFz] at HH
      rw [← hq2] at hE2
      have hFa : ∀ c ∈ dgl l (r + 1), isDg c = true := fun c hc => dgl_all c hc
      rw [← hFz] at hfn
      have hFsz : FB.size ≤ 1073741824 := by omega
      subst h46
      clear HF hdF hdF1 hdF2 hbA Hy1 hWd hWn hWB hd1 hbad hFB hFz hb1 hq2
      go_wp2_with (go_at_call 78; refine (hdF3 _).mono ?_; rintro e w' ⟨rfl, rfl⟩)
      go_meet
      case rel => exact ⟨FB, _, q2, by go_num, rfl, hFd, hFa, by omega, by omega, HH, rfl⟩
    · have HH : Hid (numE l neg (W ++ []) 0 r = R) := Lib.hid (by rw [← HF.out, List.append_nil]; unfold numF; rw [if_neg (by rw [Hy1.out]; exact h46)])
      have x5 : ((y1.toNat : Int) == 46) = false := u8_ne 46 (by decide) h46
      clear HF hdF hdF1 hbA Hy1 hWd hWn hWB hbad hb1 h46
      go_wp2_with fail
      go_meet
      case rel => exact ⟨⟨#[]⟩, [], r, rfl, rfl, rfl, fun c hc => by (cases hc), Nat.zero_le _, hrs, HH, rfl⟩
  case rest =>
  obtain ⟨FB, F, q2, rfl, rfl, hFB, hFd, hFz, hq2, HE, rfl⟩ := hcut
  have hWFd : ∀ c ∈ W ++ F, isDg c = true := fun c hc => by
    rcases List.mem_append.1 hc with hc | hc
    · exact hWd c hc
    · exact hFd c hc
  have hWFB : (WB ++ FB).data.toList = W ++ F := by rw [ByteArray.data_append, Array.toList_append, hWB, hFB]
  obtain ⟨D, hD⟩ : ∃ D, W ++ F = D := ⟨_, rfl⟩
  rw [hD] at HE hWFd hWFB
  obtain ⟨y2, hy2⟩ : ∃ y, l.getD q2 0 = y := ⟨_, rfl⟩
  have hb2 := hbA q2 y2 hy2
  have Hy2 := Lib.hid hy2
  have hlt2 : ¬ y2 = 0 → q2 < s.size := fun h => by
    rcases Nat.lt_or_ge q2 s.size with h5 | h5
    · exact h5
    · exact absurd (by rw [← hy2]; simp [List.getD, List.getElem?_eq_none (show l.length ≤ q2 by omega)]) h
  obtain ⟨y3, hy3⟩ : ∃ y, l.getD (q2 + 1) 0 = y := ⟨_, rfl⟩
  have hb3 : ∀ w1, Calls Tryz.prog 75 #[.string s, .int .i64 ((q2 : Int) + 1)] w1 fun e w' => e = .returned (.int .u8 (y3.toNat : Int)) ∧ w1 = w' := hbA (q2 + 1) y3 hy3
  have Hy3 := Lib.hid hy3
  have hlt3 : ¬ y3 = 0 → q2 + 1 < s.size := fun h => by
    rcases Nat.lt_or_ge (q2 + 1) s.size with h5 | h5
    · exact h5
    · exact absurd (by rw [← hy3]; simp [List.getD, List.getElem?_eq_none (show l.length ≤ q2 + 1 by omega)]) h
  clear hy2 hy3 hbA hb1 Hy1 hdF1 hbad hWd hFd hWB hFB hD hWn HF hWe
  have hex : (y2 = 101 ∨ y2 = 69) ∨ ¬ (y2 = 101 ∨ y2 = 69) := Classical.em _
  have hx3 : (y3 = 43 ∨ y3 = 45) ∨ ¬ (y3 = 43 ∨ y3 = 45) := Classical.em _
  have hEat : expAt l q2 = if y3 = 43 ∨ y3 = 45 then q2 + 2 else q2 + 1 := by unfold expAt; rw [Hy3.out]
  obtain ⟨ea, hea⟩ : ∃ ea, expAt l q2 = ea := ⟨_, rfl⟩
  rw [hea] at hEat
  have hEl : (y2 = 101 ∨ y2 = 69) → ea ≤ s.size := fun h => by
    have h1 := hlt2 (by rcases h with h | h <;> rw [h] <;> decide)
    rw [hEat]
    split
    · rename_i h3
      have h4 := hlt3 (by rcases h3 with h | h <;> rw [h] <;> decide)
      omega
    · omega
  have hdF1 := hdF ea
  clear hlt2 hlt3 hdF
  by_cases hbad : (y2 = 101 ∨ y2 = 69) ∧ dgl l ea = []
  · have hR : R = badN ea := by
      rw [← HE.out]
      unfold numE
      rw [if_pos (by rw [Hy2.out]; exact hbad.1), hea, if_pos hbad.2]
    subst hR
    obtain ⟨h2, h3⟩ := hbad
    have hdF2 := hdF1 (hEl h2)
    rw [h3] at hdF2
    clear HE hdF1 Hy2 Hy3 hWFd hWFB h3 hex hEl hea
    rcases hx3 with h4 | h4
    · rw [if_pos h4] at hEat
      subst hEat
      have hdF3 : ∀ w1, Calls Tryz.prog 78 #[.string s, .int .i64 ((q2 : Int) + 1 + 1)] w1 fun e w' => e = .returned (.string ⟨#[]⟩) ∧ w1 = w' := hdF2
      clear hdF2
      have hx : y3 = 43 ∨ (((y3.toNat : Int) == 43) = false ∧ y3 = 45) := by
        rcases h4 with h | h
        · exact .inl h
        · exact .inr ⟨by rw [h]; rfl, h⟩
      rcases h2 with rfl | rfl <;> rcases hx with rfl | ⟨x7, rfl⟩
      all_goals
        go_wp2_with (first
          | (have hq := hb2; clear hq; go_at_call 75; refine (hb2 _).mono ?_; rintro e w' ⟨rfl, rfl⟩; clear hb2)
          | (go_at_call 75; refine (hb3 _).mono ?_; rintro e w' ⟨rfl, rfl⟩)
          | (go_at_call 78; refine (hdF3 _).mono ?_; rintro e w' ⟨rfl, rfl⟩))
        refine bodyPost_ret (results_tmp4 rfl _ _ _) rfl ?_
        exact ⟨retN_eq rfl rfl (by go_num) rfl, Below.refl _ _⟩
    · rw [if_neg h4] at hEat
      subst hEat
      have hdF3 : ∀ w1, Calls Tryz.prog 78 #[.string s, .int .i64 ((q2 : Int) + 1)] w1 fun e w' => e = .returned (.string ⟨#[]⟩) ∧ w1 = w' := hdF2
      have x7 : ((y3.toNat : Int) == 43) = false := u8_ne 43 (by decide) (fun h => h4 (.inl h))
      have x8 : ((y3.toNat : Int) == 45) = false := u8_ne 45 (by decide) (fun h => h4 (.inr h))
      clear hdF2 h4
      rcases h2 with rfl | rfl
      all_goals
        go_wp2_with (first
          | (have hq := hb2; clear hq; go_at_call 75; refine (hb2 _).mono ?_; rintro e w' ⟨rfl, rfl⟩; clear hb2)
          | (go_at_call 75; refine (hb3 _).mono ?_; rintro e w' ⟨rfl, rfl⟩)
          | (go_at_call 78; refine (hdF3 _).mono ?_; rintro e w' ⟨rfl, rfl⟩))
        refine bodyPost_ret (results_tmp4 rfl _ _ _) rfl ?_
        exact ⟨retN_eq rfl rfl (by go_num) rfl, Below.refl _ _⟩
  go_upto_region 20 with (go_at_call 75; refine (hb2 _).mono ?_; rintro e w' ⟨rfl, rfl⟩; clear hb2)
  go_cut [69] from 20 (fun s69 w' => s69 = .bool (decide (y2 = 101 ∨ y2 = 69)) ∧ w' = wc)
  case first =>
    have hx : y2 = 101 ∨ (((y2.toNat : Int) == 101) = false ∧ y2 = 69) ∨ (((y2.toNat : Int) == 101) = false ∧ ((y2.toNat : Int) == 69) = false ∧ decide (y2 = 101 ∨ y2 = 69) = false) := by
      by_cases h1 : y2 = 101
      · exact .inl h1
      · by_cases h2 : y2 = 69
        · exact .inr (.inl ⟨u8_ne 101 (by decide) h1, h2⟩)
        · exact .inr (.inr ⟨u8_ne 101 (by decide) h1, u8_ne 69 (by decide) h2, decide_eq_false (fun h => by rcases h with h | h; exact h1 h; exact h2 h)⟩)
    clear HE hdF1 Hy2 Hy3 hWFd hWFB hex hEl hea hbad hEat hx3 hb3
    rcases hx with rfl | ⟨x7, rfl⟩ | ⟨x7, x8, x9⟩
    all_goals
      go_wp2_with fail
      go_meet
      case rel => first | exact ⟨rfl, rfl⟩ | exact ⟨congrArg Value.bool (x8.trans x9.symm), rfl⟩ | exact ⟨congrArg Value.bool x9.symm, rfl⟩
  case rest =>
  obtain ⟨rfl, rfl⟩ := hcut
  go_upto_if 69 with fail
  go_cut [1, 11, 12] from 20 (fun s1 s11 s12 w' => ∃ (EB : ByteArray) (E : List UInt8) (q3 : Nat) (down : Bool), s1 = .int .i64 q3 ∧ s11 = .string EB ∧ s12 = .bool down ∧ EB.data.toList = E ∧ (∀ c ∈ E, isDg c = true) ∧ EB.size ≤ s.size ∧ q3 ≤ s.size ∧ Hid (numZ neg D FB.size down E q3 = R) ∧ w' = wc)
  case first =>
    rcases hex with h2 | h2
    · have hd1 : dgl l ea ≠ [] := fun h => hbad ⟨h2, h⟩
      have hlt := lt_of_dg (dgl_ne hd1)
      have hE2 := dgEnd_le (l := l) (p := ea) (by omega)
      have HH : Hid (numZ neg D FB.size (y3 == 45) (dgl l ea) (dgEnd l ea) = R) := Lib.hid (by
        rw [← HE.out]; unfold numE; rw [if_pos (by rw [Hy2.out]; exact h2), hea, if_neg hd1, Hy3.out])
      have hdF2 := hdF1 (by omega)
      obtain ⟨EB, hEB⟩ : ∃ b : ByteArray, b = ⟨(dgl l ea).toArray⟩ := ⟨_, rfl⟩
      have hEd : EB.data.toList = dgl l ea := by rw [hEB, ba_data]
      rw [← hEB] at hdF2
      have hEz : EB.size = dgn l ea := ba_size hEd
      have hEe := ba_empty_no hEd hd1
      have hfn := dgn_le l ea
      obtain ⟨q3, hq3, hq4⟩ : ∃ q3 : Nat, q3 = dgEnd l ea ∧ (ea : Int) + (EB.size : Int) = (q3 : Int) := ⟨_, rfl, by unfold dgEnd; omega⟩
      rw [← hq3] at HH hE2
      have hEa : ∀ c ∈ dgl l ea, isDg c = true := fun c hc => dgl_all c hc
      have hEsz : EB.size ≤ 1073741824 := by omega
      have hEsz2 : EB.size ≤ s.size := by omega
      have hq5 : q3 ≤ s.size := by omega
      have hdt : decide (y2 = 101 ∨ y2 = 69) = true := decide_eq_true h2
      rw [hdt]
      clear HE hdF1 Hy2 Hy3 hWFd hWFB hEl hea hbad hEB hEz hd1 hdt hfn hlt hq3 hE2
      rcases hx3 with h4 | h4
      · rw [if_pos h4] at hEat
        subst hEat
        have hdF3 : ∀ w1, Calls Tryz.prog 78 #[.string s, .int .i64 ((q2 : Int) + 1 + 1)] w1 fun e w' => e = .returned (.string EB) ∧ w1 = w' := hdF2
        have hq6 : (q2 : Int) + 1 + 1 + (EB.size : Int) = (q3 : Int) := by omega
        clear hdF2 hq4
        have hx : y3 = 43 ∨ (((y3.toNat : Int) == 43) = false ∧ y3 = 45) := by
          rcases h4 with h | h
          · exact .inl h
          · exact .inr ⟨by rw [h]; rfl, h⟩
        rcases hx with rfl | ⟨x7, rfl⟩
        all_goals
          go_wp2_with (first
            | (go_at_call 75; refine (hb3 _).mono ?_; rintro e w' ⟨rfl, rfl⟩)
            | (go_at_call 78; refine (hdF3 _).mono ?_; rintro e w' ⟨rfl, rfl⟩))
          go_meet
          case rel => exact ⟨EB, _, q3, _, by go_num, rfl, rfl, hEd, hEa, hEsz2, hq5, HH, rfl⟩
      · rw [if_neg h4] at hEat
        subst hEat
        have hdF3 : ∀ w1, Calls Tryz.prog 78 #[.string s, .int .i64 ((q2 : Int) + 1)] w1 fun e w' => e = .returned (.string EB) ∧ w1 = w' := hdF2
        have hq6 : (q2 : Int) + 1 + (EB.size : Int) = (q3 : Int) := by omega
        have x7 : ((y3.toNat : Int) == 43) = false := u8_ne 43 (by decide) (fun h => h4 (.inl h))
        have x8 : ((y3.toNat : Int) == 45) = false := u8_ne 45 (by decide) (fun h => h4 (.inr h))
        have x9 : (y3 == 45) = false := by
          cases h : (y3 == 45) with
          | false => rfl
          | true => exact absurd (.inr (by simpa using h)) h4
        rw [x9] at HH
        clear hdF2 h4 hq4
        go_wp2_with (first
          | (go_at_call 75; refine (hb3 _).mono ?_; rintro e w' ⟨rfl, rfl⟩)
          | (go_at_call 78; refine (hdF3 _).mono ?_; rintro e w' ⟨rfl, rfl⟩))
        go_meet
        case rel => exact ⟨EB, _, q3, false, by go_num, rfl, rfl, hEd, hEa, hEsz2, hq5, HH, rfl⟩
    · have HH : Hid (numZ neg D FB.size false [] q2 = R) := Lib.hid (by rw [← HE.out]; unfold numE; rw [if_neg (by rw [Hy2.out]; exact h2)])
      have hdt : decide (y2 = 101 ∨ y2 = 69) = false := decide_eq_false h2
      rw [hdt]
      clear HE hdF1 Hy2 Hy3 hWFd hWFB hEl hea hbad hdt hx3 hEat hb3 h2
      go_wp2_with fail
      go_meet
      case rel => exact ⟨⟨#[]⟩, [], q2, false, rfl, rfl, rfl, rfl, fun c hc => by (cases hc), Nat.zero_le _, hq2, HH, rfl⟩
  case rest =>
  obtain ⟨EB, E, q3, down, rfl, rfl, rfl, hEB, hEd, hEz, hq3, HZ, rfl⟩ := hcut
  have hTr := fun w1 => Tryz.strings_TrimLeft_one (WB ++ FB) 48 (by decide) w1
  rw [hWFB] at hTr
  obtain ⟨TB, hTB⟩ : ∃ b : ByteArray, b = ⟨(Lib.trimLeftB D 48).toArray⟩ := ⟨_, rfl⟩
  have hTd : TB.data.toList = D.dropWhile (· == 48) := by rw [hTB, ba_data]; rfl
  have hTz : TB.size = sigN D := ba_size hTd
  have hEl2 : EB.size = E.length := ba_size hEB
  have hWF2 : WB.size + FB.size ≤ 2147483648 := by omega
  rw [← hTB] at hTr
  clear hTB hx3 hEat hEl hdF1 hbad hex HE Hy2 Hy3 hb3 hea
  have hTr2 : ∀ w1, Calls Tryz.prog 79 #[.string (WB ++ FB), .string ⟨#[48]⟩] w1 fun e w' => e = .returned (.string TB) ∧ w1 = w' := fun w1 => (hTr w1).mono (by rintro e w' ⟨h1, h2⟩; exact ⟨h1, h2.symm⟩)
  clear hTr
  by_cases hlim : 17 < sigN D ∨ 3 < E.length
  · have hR : R = (0, 0, (q3 : Int), 2) := by rw [← HZ.out]; unfold numZ; rw [if_pos hlim]
    subst hR
    have hx : (17 : Int) < (TB.size : Int) ∨ (¬ (17 : Int) < (TB.size : Int) ∧ (3 : Int) < (EB.size : Int)) := by omega
    clear HZ hlim hTz hEl2 hTd hWFd hWFB hEd hEB
    rcases hx with x1 | ⟨x1, x2⟩
    all_goals
      go_wp2_with (go_at_call 79; refine (hTr2 _).mono ?_; rintro e w' ⟨rfl, rfl⟩)
      refine bodyPost_ret (results_tmp4 rfl _ _ _) rfl ?_
      exact ⟨retN_eq rfl rfl rfl rfl, Below.refl _ _⟩
  · have hR : R = (sgn neg (valD D), sgn down (valD E) - (FB.size : Int), (q3 : Int), 0) := by rw [← HZ.out]; unfold numZ; rw [if_neg hlim]
    have x1 : ¬ (17 : Int) < (TB.size : Int) := by omega
    have x2 : ¬ (3 : Int) < (EB.size : Int) := by omega
    have hv1 := valD_big hWFd (by omega)
    have hv2 := valD_small hEd (by have := sigN_len E; omega)
    have hA1 := fun w1 hE => i_Atoi (D.dropWhile (· == 48)) TB hTd (fun c hc => hWFd c ((List.dropWhile_sublist _).subset hc)) (by rw [← ba_size hTd]; omega) w1 hE
    have hA2 := fun w1 hE => i_Atoi E EB hEB hEd (by omega) w1 hE
    rw [valD_skip] at hA1
    obtain ⟨v1, e1⟩ : ∃ v, valD D = v := ⟨_, rfl⟩
    obtain ⟨v2, e2⟩ : ∃ v, valD E = v := ⟨_, rfl⟩
    rw [e1] at hA1 hv1
    rw [e2] at hA2 hv2
    rw [e1, e2] at hR
    clear e1 e2
    clear HZ hlim hTz hEl2 hTd hWFd hWFB hEd hEB
    subst hR
    have hsg : ∀ (b : Bool) (v : Nat), sgn b v = if b = true then -(v : Int) else (v : Int) := fun _ _ => rfl
    cases neg <;> cases down
    all_goals
      go_wp2_with (first
        | (go_at_call 79; refine (hTr2 _).mono ?_; rintro e w' ⟨rfl, rfl⟩)
        | (have hq := hA1; clear hq; go_at_call 80; refine (hA1 _ hE).mono ?_; rintro e w1 ⟨⟨z1, rfl⟩, hb1⟩; clear hA1)
        | (go_at_call 80; refine (hA2 _ (hE.below hb1)).mono ?_; rintro e w2 ⟨⟨z2, rfl⟩, hb2⟩))
      refine bodyPost_ret (results_tmp4 rfl _ _ _) rfl ?_
      exact ⟨retN_eq (by rw [hsg]; simp) (by rw [hsg]; go_num) rfl rfl, hb1.up hb2⟩
end Go.Proofs.YtceijgaocjghcaaGreatDoor
