/- ReadToken: impl. Written by gen/readtok.py. Numbers read from text: spec. -/
import Derived.Test.YtceijgaocjghcaaGreatDoorTnTokP
import Derived.Test.YtceijgaocjghcaaGreatDoorTnRdNumI
import Derived.Test.YtceijgaocjghcaaGreatDoorTnM39
import Derived.Deep.LoopGhost
import Derived.Test.YtceijgaocjghcaaGreatDoorTnRdNumP
import Derived.Test.YtceijgaocjghcaaGreatDoorTnM13
import Derived.Deep.Cut
set_option linter.unusedVariables false
set_option maxRecDepth 100000
set_option linter.unusedSimpArgs false
namespace Go.Proofs.YtceijgaocjghcaaGreatDoor
open Go.RowKit

set_option maxHeartbeats 4000000 in
theorem i_ReadToken (s : ByteArray) (i : Int) (w : World) (hs : s.size ≤ 1073741824) (hi : -9223372036854775808 ≤ i ∧ i ≤ 9223372036854775807) (hT : Lib.Utf8Tabs 1 2 w) (hC : Lib.CaseVar 6 Lib.caseA w) (hE : ErrT w) :
    Calls Tryz.prog 11 #[.string s, .int .i64 i] w fun e w' => e = retT (tokP s.data.toList i) ∧ Below w.heap.size w w' := by
  have K := Below.one w (.cells #[.int .i64 0, .string ⟨#[]⟩, .int .i64 0, .int .i64 0] 31)
  have hR := Blk.new w 31 #[.int .i64 0, .string ⟨#[]⟩, .int .i64 0, .int .i64 0]
  have hll := blen_of s
  by_cases hin : i < 0 ∨ (s.size : Int) < i
  · have e : tokP s.data.toList i = (noTk, 0, 1) := by unfold tokP; rw [if_pos (by rw [hll]; exact hin)]
    have hb : inR i 0 (s.size : Int) = false := inR_no hin
    rw [e]
    clear e hin hll
    go_enter Tryz.func11, Tryz.ntmps11
    go_wp2_with (go_at_call 41; refine (i_within _ _ _ _).mono ?_; rintro e w' ⟨rfl, rfl⟩)
    exact bodyPost_ret (results_blk3 Tryz.results11 Tryz.isAgg31 (by exact Tryz.sizeOf31) rfl (Blk.new _ _ _)) rfl ⟨rfl, Below.one _ _⟩
  obtain ⟨p, rfl⟩ : ∃ p : Nat, i = p := ⟨i.toNat, by omega⟩
  have hp : p ≤ s.size := by omega
  have hb : inR (p : Int) 0 (s.size : Int) = true := inR_yes (by omega) (by omega)
  rw [skip_in (by omega)]
  have hSk := fun w1 => i_Skip s p w1 (by unfold maxLen; omega)
  have e0 : skipI s.data.toList (p : Int) = ((skipN s.data.toList p : Nat) : Int) := by unfold skipI; rw [if_neg (by omega), Int.toNat_natCast]
  rw [e0] at hSk
  have hq := skipN_le (l := s.data.toList) (k := p) (by omega)
  rw [hll] at hq
  generalize skipN s.data.toList p = q at hSk hq ⊢
  clear e0 hin hi
  by_cases hlt : ¬ q < s.size
  · obtain rfl : q = s.size := by omega
    rw [tokQ_end (by omega)]
    clear hlt hll
    go_enter Tryz.func11, Tryz.ntmps11
    go_wp2_with (first
      | (go_at_call 41; refine (i_within _ _ _ _).mono ?_; rintro e w' ⟨rfl, rfl⟩)
      | (go_at_call 16; refine (hSk _).mono ?_; rintro e w' ⟨rfl, rfl⟩))
    exact bodyPost_ret (results_blk3 Tryz.results11 Tryz.isAgg31 (by exact Tryz.sizeOf31) rfl (Blk.new _ _ _)) rfl ⟨rfl, Below.one _ _⟩
  have hlt : q < s.size := by omega
  have hqi : (q : Int) < (s.size : Int) := by omega
  have hqe : ((q : Int) == (s.size : Int)) = false := by simp; omega
  have hg := getD_size hlt
  have hx1 := extract_one s q hlt
  have hSO := fun w1 => i_SignOk (s.extract q (q + 1)) w1
  have e1 : signOk (s.extract q (q + 1)).data.toList = isSign s[q] := by rw [hx1]; rfl
  rw [e1] at hSO
  obtain ⟨y, hy⟩ : ∃ y, s[q] = y := ⟨_, rfl⟩
  rw [hy] at hg hx1 hSO
  rw [hx1] at hSO
  clear e1
  have hql : q < s.data.toList.length := by omega
  cases hsg : isSign y with
  | true =>
    rw [tokQ_sign hql (by rw [hg]; exact hsg), hg]
    rw [hsg] at hSO
    clear hsg hg hll hql
    go_enter Tryz.func11, Tryz.ntmps11
    go_wp2_with (first
      | (go_at_call 41; refine (i_within _ _ _ _).mono ?_; rintro e w' ⟨rfl, rfl⟩)
      | (go_at_call 16; refine (hSk _).mono ?_; rintro e w' ⟨rfl, rfl⟩)
      | (go_at_call 18; refine (hSO _).mono ?_; rintro e w' ⟨rfl, rfl⟩))
    exact bodyPost_ret (results_blk3 Tryz.results11 Tryz.isAgg31 (by exact Tryz.sizeOf31) rfl (Blk.new _ _ _)) rfl ⟨retT_eq (t := ⟨1, ⟨#[y]⟩, 0, 0⟩) rfl (by go_num) rfl, Below.one _ _⟩
  | false =>
  rw [hsg] at hSO
  rw [← hg] at hsg
  by_cases h34 : y = 34
  · rw [tokQ_quo hql hsg (by rw [hg]; exact h34)]
    have hQ := fun w1 (hb : Below w.heap.size w w1) => i_ReadQuoted s q w1 hs (by omega) (Lib.CaseVar_below hC hb) (Utf8Tabs_below hT hb)
    obtain ⟨⟨a, b, c⟩, hr⟩ : ∃ r, quotedL s.data.toList (q : Int) = r := ⟨_, rfl⟩
    rw [hr] at hQ ⊢
    simp only [retQ] at hQ
    have x5 : ((y.toNat : Int) == 34) = true := by rw [h34]; rfl
    clear hr hsg hg hll hql h34 hT hC hE
    by_cases hc : c = 0
    · subst hc
      have e2 : quoP (a, b, 0) = (⟨2, ⟨a.toArray⟩, 0, 0⟩, b, 0) := by unfold quoP; rw [if_pos rfl]
      rw [e2]
      go_enter Tryz.func11, Tryz.ntmps11
      go_wp2_with (first
        | (go_at_call 41; refine (i_within _ _ _ _).mono ?_; rintro e w' ⟨rfl, rfl⟩)
        | (go_at_call 16; refine (hSk _).mono ?_; rintro e w' ⟨rfl, rfl⟩)
        | (go_at_call 18; refine (hSO _).mono ?_; rintro e w' ⟨rfl, rfl⟩)
        | (go_at_call 42; refine (hQ _ K).mono ?_; rintro e w1 ⟨rfl, hb1⟩; replace hR := hR.below hb1 hR.lt; replace K := K.up hb1; have r0 := hR.cell 0; have r1 := hR.cell 1; have r2 := hR.cell 2; have r3 := hR.cell 3; have f0 := hR.frozen 0; have f1 := hR.frozen 1; have f2 := hR.frozen 2; have f3 := hR.frozen 3))
      exact bodyPost_ret (results_blk3 Tryz.results11 Tryz.isAgg31 (by exact Tryz.sizeOf31) rfl (hR.tokQ _ _ _ _)) rfl ⟨rfl, below_set4 K (Nat.le_refl _) _ _ _ _⟩
    · have e2 : quoP (a, b, c) = (noTk, 0, c) := by unfold quoP; rw [if_neg hc]
      have hcz : (c == 0) = false := by simpa using hc
      have hcn : (c != 0) = true := by simp only [bne, hcz]; rfl
      rw [e2]
      clear hc
      go_enter Tryz.func11, Tryz.ntmps11
      go_wp2_with (first
        | (go_at_call 41; refine (i_within _ _ _ _).mono ?_; rintro e w' ⟨rfl, rfl⟩)
        | (go_at_call 16; refine (hSk _).mono ?_; rintro e w' ⟨rfl, rfl⟩)
        | (go_at_call 18; refine (hSO _).mono ?_; rintro e w' ⟨rfl, rfl⟩)
        | (go_at_call 42; refine (hQ _ K).mono ?_; rintro e w1 ⟨rfl, hb1⟩; replace hR := hR.below hb1 hR.lt; replace K := K.up hb1; have r0 := hR.cell 0; have r1 := hR.cell 1; have r2 := hR.cell 2; have r3 := hR.cell 3; have f0 := hR.frozen 0; have f1 := hR.frozen 1; have f2 := hR.frozen 2; have f3 := hR.frozen 3))
      exact bodyPost_ret (results_blk3 Tryz.results11 Tryz.isAgg31 (by exact Tryz.sizeOf31) rfl (hR.tokQ _ _ _ _)) rfl ⟨rfl, below_set4 K (Nat.le_refl _) _ _ _ _⟩
  have x5 : ((y.toNat : Int) == 34) = false := u8_ne 34 (by decide) h34
  have hDg := fun w1 => i_isDigit s q w1 (by omega)
  by_cases hnm : y = 45 ∨ isDg y = true
  · rw [tokQ_num hql hsg (by rw [hg]; exact h34) (by rw [hg]; exact hnm)]
    have hN := fun w1 (hb : Below w.heap.size w w1) => i_ReadNumber s q w1 hs (by omega) (hE.below hb)
    rw [Int.toNat_natCast] at hN
    have hNO := (numbP_num (l := s.data.toList) (p := q) (by omega)).code
    obtain ⟨⟨a, b, c, d⟩, hr⟩ : ∃ r, numbP s.data.toList q = r := ⟨_, rfl⟩
    rw [hr] at hN hNO ⊢
    simp only [retN] at hN
    simp only [] at hNO
    rw [hg] at hDg
    have hy2 : ((y.toNat : Int) == 45) = true ∨ (((y.toNat : Int) == 45) = false ∧ isDg y = true) := by
      by_cases h : y = 45
      · exact .inl (by rw [h]; rfl)
      · exact .inr ⟨u8_ne 45 (by decide) h, by rcases hnm with h2 | h2; exact absurd h2 h; exact h2⟩
    clear hr hsg hg hll hql h34 hT hC hE hnm
    rcases hy2 with x6 | ⟨x6, hdy⟩
    all_goals
      try rw [hdy] at hDg
      rcases hNO with rfl | rfl | rfl
      all_goals
        go_enter Tryz.func11, Tryz.ntmps11
        go_wp2_with (first
          | (go_at_call 41; refine (i_within _ _ _ _).mono ?_; rintro e w' ⟨rfl, rfl⟩)
          | (go_at_call 16; refine (hSk _).mono ?_; rintro e w' ⟨rfl, rfl⟩)
          | (go_at_call 18; refine (hSO _).mono ?_; rintro e w' ⟨rfl, rfl⟩)
          | (go_at_call 43; refine (hDg _).mono ?_; rintro e w' ⟨rfl, rfl⟩)
          | (go_at_call 44; refine (hN _ K).mono ?_; rintro e w1 ⟨rfl, hb1⟩; replace hR := hR.below hb1 hR.lt; replace K := K.up hb1; have r0 := hR.cell 0; have r1 := hR.cell 1; have r2 := hR.cell 2; have r3 := hR.cell 3; have f0 := hR.frozen 0; have f1 := hR.frozen 1; have f2 := hR.frozen 2; have f3 := hR.frozen 3))
        exact bodyPost_ret (results_blk3 Tryz.results11 Tryz.isAgg31 (by exact Tryz.sizeOf31) rfl (hR.tokQ _ _ _ _)) rfl ⟨rfl, below_set4 K (Nat.le_refl _) _ _ _ _⟩
  have h45 : ¬ y = 45 := fun h => hnm (.inl h)
  have hdy : isDg y = false := by cases h : isDg y with | false => rfl | true => exact absurd (.inr h) hnm
  have x6 : ((y.toNat : Int) == 45) = false := u8_ne 45 (by decide) h45
  rw [hg, hdy] at hDg
  rw [tokQ_word hql hsg (by rw [hg]; exact h34) (by rw [hg]; exact h45) (by rw [hg]; exact hdy)]
  have hpre := fun (j : Nat) w1 => Tryz.strings_HasPrefix (s.extract q s.size) ⟨(wordOf j).toArray⟩ w1
  have e3 : (s.extract q s.size).data.toList = s.data.toList.drop q := by
    rw [extractL, ba_data]
    exact List.take_of_length_le (by rw [List.length_drop]; omega)
  simp only [e3, ba_data] at hpre
  obtain ⟨R, hRR⟩ : ∃ R, wordP s.data.toList q = R := ⟨_, rfl⟩
  have HW : Hid (wordG s.data.toList q 0 = R) := Lib.hid hRR
  rw [hRR]
  clear e3 hRR hnm h45 hdy h34 hsg hg hll hT hC hE
  go_enter Tryz.func11, Tryz.ntmps11
  go_wp2_with (first
    | (go_at_call 41; refine (i_within _ _ _ _).mono ?_; rintro e w' ⟨rfl, rfl⟩)
    | (go_at_call 16; refine (hSk _).mono ?_; rintro e w' ⟨rfl, rfl⟩)
    | (go_at_call 18; refine (hSO _).mono ?_; rintro e w' ⟨rfl, rfl⟩)
    | (go_at_call 43; refine (hDg _).mono ?_; rintro e w' ⟨rfl, rfl⟩))
  have hW3 := Blk.new (w.alloc (.cells #[.int .i64 0, .string ⟨#[]⟩, .int .i64 0, .int .i64 0] 31)) 9 #[.string ⟨wNull.toArray⟩, .string ⟨wTrue.toArray⟩, .string ⟨wFalse.toArray⟩]
  rw [World.size_alloc] at hW3
  go_loopg [96] 3 (fun f v96 wr => ∃ j : Nat, j + f = 3 ∧ v96 = .int .i64 j ∧ Blk wr w.heap.size 31 #[.int .i64 0, .string ⟨#[]⟩, .int .i64 0, .int .i64 0] ∧ Blk wr (w.heap.size + 1) 9 #[.string ⟨wNull.toArray⟩, .string ⟨wTrue.toArray⟩, .string ⟨wFalse.toArray⟩] ∧ Below w.heap.size w wr ∧ Hid (wordG s.data.toList q j = R))
  case atStart => exact ⟨0, rfl, rfl, hR.alloc _, hW3, K.alloc (by simp) _, HW⟩
  case round =>
    obtain ⟨j, hjf, rfl, B1, B2, KK, HJ⟩ := hrel
    clear HW hW3 hR K
    by_cases hj : j < 3
    · obtain ⟨f, rfl⟩ : ∃ f, gk = f + 1 := ⟨gk - 1, by omega⟩
      have hc := B2.cell j
      rw [show (#[.string ⟨wNull.toArray⟩, .string ⟨wTrue.toArray⟩, .string ⟨wFalse.toArray⟩] : Array Value)[j]? = some (.string ⟨(wordOf j).toArray⟩) by
        obtain rfl | rfl | rfl : j = 0 ∨ j = 1 ∨ j = 2 := by omega
        all_goals rfl] at hc
      have hp2 := hpre j
      obtain ⟨b, hbb⟩ : ∃ b, Lib.hasPrefix (s.data.toList.drop q) (wordOf j) = b := ⟨_, rfl⟩
      have hwl : (wordOf j).length ≤ 5 := by
        obtain rfl | rfl | rfl : j = 0 ∨ j = 1 ∨ j = 2 := by omega
        all_goals decide
      have hy1 := fun h => wordG_yes (l := s.data.toList) (p := q) hj h
      have hy2 := fun h => wordG_no (l := s.data.toList) (p := q) hj h
      rw [HJ.out, hbb] at hy1 hy2
      rw [hbb] at hp2
      have hzz : (⟨(wordOf j).toArray⟩ : ByteArray).size = (wordOf j).length := ba_sz _
      obtain ⟨WB, hWB⟩ : ∃ WB : ByteArray, (⟨(wordOf j).toArray⟩ : ByteArray) = WB := ⟨_, rfl⟩
      rw [hWB] at hc hp2 hzz hy1
      rw [← hzz] at hy1 hwl
      have hji : (j : Int) < 3 := by omega
      have hjf2 : j + 1 + f = 3 := by omega
      have r0 := B1.cell 0
      have r1 := B1.cell 1
      have r2 := B1.cell 2
      have r3 := B1.cell 3
      have f0 := B1.frozen 0
      have f1 := B1.frozen 1
      have f2 := B1.frozen 2
      have f3 := B1.frozen 3
      clear hWB hzz hpre hjf
      cases b with
      | true =>
        have hR := hy1 rfl
        subst hR
        clear hy1 hy2 HJ hbb
        go_wp2_with (go_at_call 45; refine (hp2 _).mono ?_; rintro e w' ⟨rfl, hw⟩; have hw2 := hw.symm; clear hw; subst hw2)
        exact bodyPost_ret (results_blk3 Tryz.results11 Tryz.isAgg31 (by exact Tryz.sizeOf31) rfl (B1.tokQ _ _ _ _)) rfl ⟨retT_eq (t := ⟨4, WB, 0, 0⟩) rfl (by go_num) rfl, below_set4 KK (Nat.le_refl _) _ _ _ _⟩
      | false =>
        have HH := Lib.hid (hy2 rfl).symm
        clear hy1 hy2 HJ hbb r0 r1 r2 r3 f0 f1 f2 f3
        go_wp2_with (go_at_call 45; refine (hp2 _).mono ?_; rintro e w' ⟨rfl, hw⟩; have hw2 := hw.symm; clear hw; subst hw2)
        go_roundg f
        case measure => omega
        case rel => exact ⟨j + 1, hjf2, by go_num, B1, B2, KK, HH⟩
    · obtain rfl : j = 3 := by omega
      have hR : R = (noTk, 0, 1) := by rw [← HJ.out]; rfl
      subst hR
      have r0 := B1.cell 0
      have r1 := B1.cell 1
      have r2 := B1.cell 2
      have r3 := B1.cell 3
      have f0 := B1.frozen 0
      have f1 := B1.frozen 1
      have f2 := B1.frozen 2
      have f3 := B1.frozen 3
      clear HJ hpre
      go_wp2_with fail
      exact bodyPost_ret (results_blk3 Tryz.results11 Tryz.isAgg31 (by exact Tryz.sizeOf31) rfl (B1.tokQ _ _ _ _)) rfl ⟨rfl, below_set4 KK (Nat.le_refl _) _ _ _ _⟩
end Go.Proofs.YtceijgaocjghcaaGreatDoor

namespace Go.Proofs.YtceijgaocjghcaaGreatDoor
open Go.RowKit

theorem inR_dg (y : UInt8) : inR (y.toNat : Int) 48 57 = isDg y := by
  cases h : isDg y with
  | true => exact inR_yes (isDg_in h).1 (isDg_in h).2
  | false => exact inR_no (isDg_no h)
theorem wrap_u8 (y : UInt8) : wrap64 (y.toNat : Int) = (y.toNat : Int) := by have := y.toNat_lt; unfold wrap64; omega
theorem s_inDg (y : UInt8) (b : Bool) (hb : isDg y = b) (w : World) : Calls Tryz.prog 47 #[.int .i64 (wrap64 (y.toNat : Int)), .int .i64 48, .int .i64 57] w fun e w' => e = .returned (.bool b) ∧ w = w' := by
  have h := s_l1In (y.toNat : Int) 48 57 w
  rw [inR_dg, hb] at h
  rw [wrap_u8]
  exact h
set_option maxHeartbeats 1000000 in
theorem s_l4Digits (s : ByteArray) (p0 : Nat) (w : World) (hs : s.size ≤ 1099511627776) (hp0 : p0 ≤ s.size) :
    Calls Tryz.prog 85 #[.string s, .int .i64 p0] w fun e w' => e = .returned (.int .i64 (dgEnd s.data.toList p0)) ∧ w = w' := by
  obtain ⟨q, hq⟩ : ∃ q, dgEnd s.data.toList p0 = q := ⟨_, rfl⟩
  have hq1 : p0 ≤ q := by rw [← hq]; unfold dgEnd; omega
  have hq2 : q ≤ s.size := by rw [← hq, ← blen_of]; exact dgEnd_le (by rw [blen_of]; exact hp0)
  have H := Lib.hid hq
  rw [hq]
  clear hq
  go_enter Tryz.func85, Tryz.ntmps85
  go_wp2_with fail
  go_loop [1] (fun i => ∃ k : Nat, i = .int .i64 k ∧ p0 ≤ k ∧ k ≤ s.size ∧ Hid (dgEnd s.data.toList k = q)) (fun i => s.size - (intOf i).toNat)
  case atStart => exact ⟨p0, rfl, Nat.le_refl _, hp0, H⟩
  case round =>
    obtain ⟨k, rfl, hk1, hk2, HK⟩ := hrel
    clear H
    by_cases hlt : k < s.size
    · have hg := getD_size hlt
      obtain ⟨y, hy⟩ : ∃ y, s[k] = y := ⟨_, rfl⟩
      rw [hy] at hg
      obtain ⟨b, hb⟩ : ∃ b, isDg y = b := ⟨_, rfl⟩
      have hki : (k : Int) < (s.size : Int) := by omega
      have hd := fun w1 => s_inDg y b hb w1
      cases b with
      | true =>
        have HH : Hid (dgEnd s.data.toList (k + 1) = q) := Lib.hid (by rw [← dgEnd_yes (by rw [hg]; exact hb)]; exact HK.out)
        clear hb HK hg
        go_wp2_with (go_at_call 47; refine (hd _).mono ?_; rintro e w' ⟨rfl, rfl⟩)
        go_round
        case rel => exact ⟨k + 1, by go_num, by omega, by omega, HH⟩
        case measure => simp [intOf]; omega
      | false =>
        obtain rfl : k = q := by rw [← HK.out, dgEnd_no (by rw [hg]; exact hb)]
        clear hb HK hg
        go_wp2_with (go_at_call 47; refine (hd _).mono ?_; rintro e w' ⟨rfl, rfl⟩)
        go_ret
        exact ⟨rfl, rfl⟩
    · have hki : ¬ (k : Int) < (s.size : Int) := by omega
      obtain rfl : k = q := by rw [← HK.out, dgEnd_no (by rw [getD_out hlt]; decide)]
      clear HK
      go_wp2_with fail
      go_ret
      exact ⟨rfl, rfl⟩
set_option maxHeartbeats 1000000 in
theorem s_l4Value (D : List UInt8) (s : ByteArray) (hD : s.data.toList = D) (h : ∀ c ∈ D, isDg c = true) (m : Nat) (hm : m ≤ 17) (hs : s.size ≤ 1099511627776) (w : World) :
    Calls Tryz.prog 86 #[.string s, .int .i64 m] w fun e w' => e = .returned (.tuple #[.int .i64 (if sigN D ≤ m then (valD D : Int) else 0), .bool (decide (sigN D ≤ m))]) ∧ w = w' := by
  obtain ⟨R, hR⟩ : ∃ R : Int × Bool, (if sigN D ≤ m then ((valD D : Int), true) else (0, false)) = R := ⟨_, rfl⟩
  have e1 : (if sigN D ≤ m then (valD D : Int) else 0) = R.1 := by rw [← hR]; split <;> rfl
  have e2 : decide (sigN D ≤ m) = R.2 := by
    rw [← hR]
    by_cases h5 : sigN D ≤ m
    · rw [if_pos h5, decide_eq_true h5]
    · rw [if_neg h5, decide_eq_false h5]
  rw [e1, e2]
  have HR := Lib.hid hR
  have hl : D.length = s.size := by rw [← hD, blen_of]
  clear hR e1 e2
  go_enter Tryz.func86, Tryz.ntmps86
  go_wp2_with fail
  go_loop [6, 7, 8] (fun v6 v7 v8 => ∃ (j k n : Nat), v8 = .int .i64 j ∧ v7 = .int .i64 k ∧ v6 = .int .i64 n ∧ j ≤ s.size ∧ n < 100000000000000000 ∧ k ≤ m ∧ Hid (sigN (D.take j) = k ∧ valD (D.take j) = n)) (fun v6 v7 v8 => s.size - (intOf v8).toNat)
  case atStart => exact ⟨0, 0, 0, rfl, rfl, rfl, Nat.zero_le _, by decide, Nat.zero_le _, Lib.hid ⟨rfl, rfl⟩⟩
  case round =>
    obtain ⟨j, k, n, rfl, rfl, rfl, hj, hn, hk, HK⟩ := hrel
    by_cases hlt : j < s.size
    · have hjl : j < D.length := by omega
      have hsj : s[j] = D[j] := by
        rw [← getElem_data s j hlt (by rw [hD]; exact hjl)]
        simp only [hD]
      have hdg := isDg_in (h D[j] (List.getElem_mem hjl))
      have hst : D.take (j + 1) = D.take j ++ [D[j]] := List.take_succ_eq_append_getElem hjl
      have hs1 := sigN_snoc (D.take j) D[j]
      have hv1 := valD_snoc (D.take j) D[j]
      have hmx := sigN_take D (j + 1)
      have hvb : sigN (D.take (j + 1)) ≤ 17 → valD (D.take (j + 1)) < 100000000000000000 := fun h5 => valD_big (fun c hc => h c (List.mem_of_mem_take hc)) h5
      rw [hst] at hmx hvb
      rw [HK.out.1] at hs1
      rw [HK.out.2] at hv1
      obtain ⟨S, hS⟩ : ∃ S, sigN (D.take j ++ [D[j]]) = S := ⟨_, rfl⟩
      obtain ⟨V, hV⟩ : ∃ V, valD (D.take j ++ [D[j]]) = V := ⟨_, rfl⟩
      rw [hS] at hs1 hmx hvb
      rw [hV] at hv1 hvb
      have HN : Hid (sigN (D.take (j + 1)) = S ∧ valD (D.take (j + 1)) = V) := Lib.hid ⟨by rw [hst]; exact hS, by rw [hst]; exact hV⟩
      rw [← hsj] at hs1 hv1 hdg
      obtain ⟨y, hy⟩ : ∃ y, s[j] = y := ⟨_, rfl⟩
      rw [hy] at hs1 hv1 hdg
      have HV : Hid ((10 * (n : Int)) + ((y.toNat : Int) - 48) = (V : Int)) := Lib.hid (by omega)
      have HB : Hid ((S ≤ m → V < 100000000000000000) ∧ (¬ S ≤ m → R = (0, false))) := Lib.hid ⟨fun h5 => hvb (by omega), fun h5 => by rw [← HR.out, if_neg (by omega)]⟩
      have hy0 : 0 ≤ (y.toNat : Int) - 48 := by omega
      have hy1 : (y.toNat : Int) - 48 ≤ 9 := by omega
      clear hvb hv1 hst hsj HK hS hV hmx
      by_cases h48 : y = 48
      · by_cases hk0 : 0 < k
        · rw [if_pos (.inr hk0)] at hs1
          subst hs1
          have x5 : ((y.toNat : Int) == 48) = true := by rw [h48]; decide
          have x6 : ((y.toNat : Int) != 48) = false := by rw [h48]; decide
          have hk1 : (0 : Int) < (k : Int) := by omega
          clear h48 hk0
          by_cases hkm : k + 1 ≤ m
          · have hkm2 : ¬ (m : Int) < (k : Int) + 1 := by omega
            have hV2 := HB.out.1 hkm
            clear HB hkm
            go_wp2_with fail
            go_round
            case rel => exact ⟨j + 1, k + 1, V, by go_num, by go_num, by rw [← HV.out], by omega, hV2, by omega, HN⟩
            case measure => simp [intOf]; omega
          · have hkm2 : (m : Int) < (k : Int) + 1 := by omega
            obtain rfl := HB.out.2 hkm
            clear HB hkm HR
            go_wp2_with fail
            go_ret2
            exact ⟨rfl, rfl⟩
        · rw [if_neg (by intro h5; rcases h5 with h5 | h5; exact h5 h48; exact hk0 h5)] at hs1
          have hs2 := hs1.symm
          clear hs1
          subst hs2
          have x5 : ((y.toNat : Int) == 48) = true := by rw [h48]; decide
          have x6 : ((y.toNat : Int) != 48) = false := by rw [h48]; decide
          have hk1 : ¬ (0 : Int) < (k : Int) := by omega
          have hkm2 : ¬ (m : Int) < (k : Int) := by omega
          have hV2 := HB.out.1 hk
          clear h48 hk0 HB
          go_wp2_with fail
          go_round
          case rel => exact ⟨j + 1, k, V, by go_num, rfl, by rw [← HV.out], by omega, hV2, by omega, HN⟩
          case measure => simp [intOf]; omega
      · rw [if_pos (.inl h48)] at hs1
        subst hs1
        have x5 : ((y.toNat : Int) == 48) = false := u8_ne 48 (by decide) h48
        have x6 : ((y.toNat : Int) != 48) = true := by simp only [bne, x5]; rfl
        clear h48
        by_cases hkm : k + 1 ≤ m
        · have hkm2 : ¬ (m : Int) < (k : Int) + 1 := by omega
          have hV2 := HB.out.1 hkm
          clear HB hkm
          go_wp2_with fail
          go_round
          case rel => exact ⟨j + 1, k + 1, V, by go_num, by go_num, by rw [← HV.out], by omega, hV2, by omega, HN⟩
          case measure => simp [intOf]; omega
        · have hkm2 : (m : Int) < (k : Int) + 1 := by omega
          obtain rfl := HB.out.2 hkm
          clear HB hkm HR
          go_wp2_with fail
          go_ret2
          exact ⟨rfl, rfl⟩
    · have hjl : D.take j = D := List.take_of_length_le (by omega)
      have hki : ¬ (j : Int) < (s.size : Int) := by omega
      have hh := HK.out
      rw [hjl] at hh
      have hR2 : R = ((n : Int), true) := by rw [← HR.out, if_pos (by omega), hh.2]
      subst hR2
      clear HK HR hh hjl
      go_wp2_with fail
      go_ret2
      exact ⟨rfl, rfl⟩
end Go.Proofs.YtceijgaocjghcaaGreatDoor
