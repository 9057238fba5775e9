/- l10Word: spec. Written by gen/readtok.py. ReadToken: spec. Written by gen/readtoks.py. -/
import Derived.Test.YtceijgaocjghcaaGreatDoorTnTokP
import Derived.Test.YtceijgaocjghcaaGreatDoorTnM44
import Derived.Test.YtceijgaocjghcaaGreatDoorTnM39
import Derived.Deep.LoopGhost
import Derived.Test.YtceijgaocjghcaaGreatDoorTnRdNumT
import Derived.Test.YtceijgaocjghcaaGreatDoorTnQuotedS
import Derived.Deep.Cut
set_option linter.unusedVariables false
set_option maxRecDepth 100000
set_option linter.unusedSimpArgs false
namespace Go.Proofs.YtceijgaocjghcaaGreatDoor
open Go.RowKit

theorem prefix_eq (s WB : ByteArray) (q : Nat) (W : List UInt8) (hW : WB.data.toList = W) (h : q + WB.size ≤ s.size) : Lib.hasPrefix (s.data.toList.drop q) W = decide (s.extract q (q + WB.size) = WB) := by
  have e1 : (s.extract q (q + WB.size)).data.toList = (s.data.toList.drop q).take WB.size := by rw [extractL, ba_dataW, Nat.add_sub_cancel_left]
  have hz : WB.size = W.length := by rw [← hW, blen_of]
  by_cases h2 : s.extract q (q + WB.size) = WB
  · rw [decide_eq_true h2]
    rw [h2, hW, hz] at e1
    show W.isPrefixOf (s.data.toList.drop q) = true
    rw [List.isPrefixOf_iff_prefix]
    rw [e1]
    exact List.take_prefix _ _
  · rw [decide_eq_false h2]
    cases hp : Lib.hasPrefix (s.data.toList.drop q) W with
    | false => rfl
    | true =>
      exfalso
      apply h2
      have h3 : W.isPrefixOf (s.data.toList.drop q) = true := hp
      rw [List.isPrefixOf_iff_prefix] at h3
      have h4 := List.prefix_iff_eq_take.1 h3
      apply ByteArray.ext
      exact Array.toList_inj.1 (by rw [e1, hz, ← h4, hW])
theorem prefix_no {s : ByteArray} {q : Nat} {W : List UInt8} (hw : 0 < W.length) (h : ¬ q + W.length ≤ s.size) : Lib.hasPrefix (s.data.toList.drop q) W = false := by
  cases hp : Lib.hasPrefix (s.data.toList.drop q) W with
  | false => rfl
  | true => have := prefix_len hp hw; rw [blen_of] at this; omega
set_option maxHeartbeats 4000000 in
theorem s_l10Word (s : ByteArray) (q : Nat) (w : World) (hs : s.size ≤ 1073741824) (hq : q ≤ s.size) :
    Calls Tryz.prog 49 #[.string s, .int .i64 q] w fun e w' => e = retT (wordP s.data.toList q) ∧ Below w.heap.size w w' := by
  have K := Below.one w (.cells #[.int .i64 0, .string ⟨#[]⟩, .int .i64 0, .int .i64 0] 31)
  have hR := Blk.new w 31 #[.int .i64 0, .string ⟨#[]⟩, .int .i64 0, .int .i64 0]
  obtain ⟨R, hRR⟩ : ∃ R, wordP s.data.toList q = R := ⟨_, rfl⟩
  have HW : Hid (wordG s.data.toList q 0 = R) := Lib.hid hRR
  rw [hRR]
  clear hRR
  go_enter Tryz.func49, Tryz.ntmps49
  go_wp2_with fail
  have hW3 := Blk.new (w.alloc (.cells #[.int .i64 0, .string ⟨#[]⟩, .int .i64 0, .int .i64 0] 31)) 9 #[.string ⟨wNull.toArray⟩, .string ⟨wTrue.toArray⟩, .string ⟨wFalse.toArray⟩]
  rw [World.size_alloc] at hW3
  go_loopg [11] 3 (fun f v96 wr => ∃ j : Nat, j + f = 3 ∧ v96 = .int .i64 j ∧ Blk wr w.heap.size 31 #[.int .i64 0, .string ⟨#[]⟩, .int .i64 0, .int .i64 0] ∧ Blk wr (w.heap.size + 1) 9 #[.string ⟨wNull.toArray⟩, .string ⟨wTrue.toArray⟩, .string ⟨wFalse.toArray⟩] ∧ Below w.heap.size w wr ∧ Hid (wordG s.data.toList q j = R))
  case atStart => exact ⟨0, rfl, rfl, hR.alloc _, hW3, K.alloc (by simp) _, HW⟩
  case round =>
    obtain ⟨j, hjf, rfl, B1, B2, KK, HJ⟩ := hrel
    clear HW hW3 hR K
    by_cases hj : j < 3
    · obtain ⟨f, rfl⟩ : ∃ f, gk = f + 1 := ⟨gk - 1, by omega⟩
      have hc := B2.cell j
      rw [show (#[.string ⟨wNull.toArray⟩, .string ⟨wTrue.toArray⟩, .string ⟨wFalse.toArray⟩] : Array Value)[j]? = some (.string ⟨(wordOf j).toArray⟩) by
        obtain rfl | rfl | rfl : j = 0 ∨ j = 1 ∨ j = 2 := by omega
        all_goals rfl] at hc
      have hwl : (wordOf j).length ≤ 5 ∧ 0 < (wordOf j).length := by
        obtain rfl | rfl | rfl : j = 0 ∨ j = 1 ∨ j = 2 := by omega
        all_goals decide
      have hy1 := fun h => wordG_yes (l := s.data.toList) (p := q) hj h
      have hy2 := fun h => wordG_no (l := s.data.toList) (p := q) hj h
      rw [HJ.out] at hy1 hy2
      have hzz : (⟨(wordOf j).toArray⟩ : ByteArray).size = (wordOf j).length := ba_sz _
      have hdd : (⟨(wordOf j).toArray⟩ : ByteArray).data.toList = wordOf j := ba_dataW _
      have hpn := fun h => prefix_no (s := s) (q := q) hwl.2 h
      have hpe := fun h => prefix_eq s ⟨(wordOf j).toArray⟩ q (wordOf j) hdd h
      obtain ⟨WB, hWB⟩ : ∃ WB : ByteArray, (⟨(wordOf j).toArray⟩ : ByteArray) = WB := ⟨_, rfl⟩
      rw [hWB] at hc hzz hy1 hpe
      rw [← hzz] at hy1 hwl hpn
      have hji : (j : Int) < 3 := by omega
      have hjf2 : j + 1 + f = 3 := by omega
      clear hWB hzz hjf hdd
      by_cases hfit : q + WB.size ≤ s.size
      · have hfi : (q : Int) ≤ (s.size : Int) - (WB.size : Int) := by omega
        have hfi2 : (q : Int) + (WB.size : Int) ≤ (s.size : Int) := by omega
        obtain ⟨X, hX⟩ : ∃ X, s.extract q (q + WB.size) = X := ⟨_, rfl⟩
        rw [hX] at hpe
        by_cases hXW : X = WB
        · have hR := hy1 (by rw [hpe hfit, decide_eq_true hXW])
          subst hR
          have r0 := B1.cell 0
          have r1 := B1.cell 1
          have r2 := B1.cell 2
          have r3 := B1.cell 3
          have f0 := B1.frozen 0
          have f1 := B1.frozen 1
          have f2 := B1.frozen 2
          have f3 := B1.frozen 3
          subst hXW
          clear hy1 hy2 HJ hpn hpe hfit
          go_wp2_with fail
          exact bodyPost_ret (results_blk3 Tryz.results49 Tryz.isAgg31 (by exact Tryz.sizeOf31) rfl (B1.tokQ _ _ _ _)) rfl ⟨retT_eq (t := ⟨4, X, 0, 0⟩) rfl (by go_num) rfl, below_set4 KK (Nat.le_refl _) _ _ _ _⟩
        · have HH := Lib.hid (hy2 (by rw [hpe hfit, decide_eq_false hXW])).symm
          have hXe : (X.toList == WB.toList) = false := by
            rw [beq_eq_false_iff_ne]
            exact fun h => hXW (by rw [ByteArray.toList_eq, ByteArray.toList_eq] at h; exact ByteArray.ext (Array.toList_inj.1 h))
          clear hy1 hy2 HJ hpn hpe hfit
          go_wp2_with fail
          go_roundg f
          case measure => omega
          case rel => exact ⟨j + 1, hjf2, by go_num, B1, B2, KK, HH⟩
      · have hfi : ¬ (q : Int) ≤ (s.size : Int) - (WB.size : Int) := by omega
        have HH := Lib.hid (hy2 (hpn hfit)).symm
        clear hy1 hy2 HJ hpn hpe hfit
        go_wp2_with fail
        go_roundg f
        case measure => omega
        case rel => exact ⟨j + 1, hjf2, by go_num, B1, B2, KK, HH⟩
    · obtain rfl : j = 3 := by omega
      have hR : R = (noTk, 0, 1) := by rw [← HJ.out]; rfl
      subst hR
      have r0 := B1.cell 0
      have r1 := B1.cell 1
      have r2 := B1.cell 2
      have r3 := B1.cell 3
      have f0 := B1.frozen 0
      have f1 := B1.frozen 1
      have f2 := B1.frozen 2
      have f3 := B1.frozen 3
      clear HJ
      go_wp2_with fail
      exact bodyPost_ret (results_blk3 Tryz.results49 Tryz.isAgg31 (by exact Tryz.sizeOf31) rfl (B1.tokQ _ _ _ _)) rfl ⟨rfl, below_set4 KK (Nat.le_refl _) _ _ _ _⟩
end Go.Proofs.YtceijgaocjghcaaGreatDoor

namespace Go.Proofs.YtceijgaocjghcaaGreatDoor
open Go.RowKit

set_option maxHeartbeats 4000000 in
theorem s_ReadToken (s : ByteArray) (i : Int) (w : World) (hs : s.size ≤ 1073741824) (hi : -9223372036854775808 ≤ i ∧ i ≤ 9223372036854775807) :
    Calls Tryz.prog 12 #[.string s, .int .i64 i] w fun e w' => e = retT (tokP s.data.toList i) ∧ Below w.heap.size w w' := by
  have K := (Below.one w (.cells #[.int .i64 0, .string ⟨#[]⟩, .int .i64 0, .int .i64 0] 31)).alloc (by simp) (.cells #[.int .i64 0, .string ⟨#[]⟩, .int .i64 0, .int .i64 0] 31)
  have B1 := (Blk.new w 31 #[.int .i64 0, .string ⟨#[]⟩, .int .i64 0, .int .i64 0]).alloc (.cells #[.int .i64 0, .string ⟨#[]⟩, .int .i64 0, .int .i64 0] 31)
  have B2 := Blk.new (w.alloc (.cells #[.int .i64 0, .string ⟨#[]⟩, .int .i64 0, .int .i64 0] 31)) 31 #[.int .i64 0, .string ⟨#[]⟩, .int .i64 0, .int .i64 0]
  rw [World.size_alloc] at B2
  have hll := blen_of s
  obtain ⟨R, hR⟩ : ∃ R, tokP s.data.toList i = R := ⟨_, rfl⟩
  rw [hR]
  have HR := Lib.hid hR
  clear hR
  go_enter Tryz.func12, Tryz.ntmps12
  go_upto_region 2 with fail
  generalize ((w.alloc (.cells #[.int .i64 0, .string ⟨#[]⟩, .int .i64 0, .int .i64 0] 31)).alloc (.cells #[.int .i64 0, .string ⟨#[]⟩, .int .i64 0, .int .i64 0] 31)) = w1 at K B1 B2 ⊢
  by_cases hin : i < 0 ∨ (s.size : Int) < i
  · have hR : R = (noTk, 0, 1) := by rw [← HR.out]; unfold tokP; rw [if_pos (by rw [hll]; exact hin)]
    subst hR
    have r0 := B1.cell 0
    have f0 := B1.frozen 0
    have r1 := B1.cell 1
    have f1 := B1.frozen 1
    have r2 := B1.cell 2
    have f2 := B1.frozen 2
    have r3 := B1.cell 3
    have f3 := B1.frozen 3
    have g0 := B2.cell 0
    have g1 := B2.cell 1
    have g2 := B2.cell 2
    have g3 := B2.cell 3
    clear HR hll
    have hx : i < 0 ∨ (¬ i < 0 ∧ (s.size : Int) < i) := by omega
    clear hin
    rcases hx with x1 | ⟨x1, x2⟩
    all_goals
      go_wp2_with fail
      exact bodyPost_ret (results_blk3 Tryz.results12 Tryz.isAgg31 (by exact Tryz.sizeOf31) rfl (B1.tokQ _ _ _ _)) rfl ⟨rfl, below_set4 K (Nat.le_refl _) _ _ _ _⟩
  obtain ⟨p, rfl⟩ : ∃ p : Nat, i = p := ⟨i.toNat, by omega⟩
  have hp : p ≤ s.size := by omega
  have hp0 : ¬ (p : Int) < 0 := by omega
  have hp1 : ¬ (s.size : Int) < (p : Int) := by omega
  have hh := HR.out
  rw [skip_in (by omega)] at hh
  have hSk := fun w1 => s_Skip s p w1 (by unfold maxLen; omega)
  have e0 : skipI s.data.toList (p : Int) = ((skipN s.data.toList p : Nat) : Int) := by unfold skipI; rw [if_neg (by omega), Int.toNat_natCast]
  rw [e0] at hSk
  have hq := skipN_le (l := s.data.toList) (k := p) (by omega)
  rw [hll] at hq
  generalize skipN s.data.toList p = q at hSk hq hh
  clear e0 hin hi HR
  by_cases hlt : ¬ q < s.size
  · obtain rfl : q = s.size := by omega
    rw [tokQ_end (by omega)] at hh
    subst hh
    have r0 := B1.cell 0
    have f0 := B1.frozen 0
    have r1 := B1.cell 1
    have f1 := B1.frozen 1
    have r2 := B1.cell 2
    have f2 := B1.frozen 2
    have r3 := B1.cell 3
    have f3 := B1.frozen 3
    have g0 := B2.cell 0
    have g1 := B2.cell 1
    have g2 := B2.cell 2
    have g3 := B2.cell 3
    clear hlt hll
    go_wp2_with (go_at_call 17; refine (hSk _).mono ?_; rintro e w' ⟨rfl, rfl⟩)
    exact bodyPost_ret (results_blk3 Tryz.results12 Tryz.isAgg31 (by exact Tryz.sizeOf31) rfl (B1.tokQ _ _ _ _)) rfl ⟨rfl, below_set4 K (Nat.le_refl _) _ _ _ _⟩
  have hlt : q < s.size := by omega
  have hqi : (q : Int) < (s.size : Int) := by omega
  have hqe : ((q : Int) == (s.size : Int)) = false := by simp; omega
  have hg := getD_size hlt
  have hx1 := extract_one s q hlt
  obtain ⟨y, hy⟩ : ∃ y, s[q] = y := ⟨_, rfl⟩
  rw [hy] at hg hx1
  have hSO := fun w1 => s_SignOk ⟨#[y]⟩ w1
  have e1 : signOk (⟨#[y]⟩ : ByteArray).data.toList = isSign y := rfl
  rw [e1] at hSO
  clear e1
  have hql : q < s.data.toList.length := by omega
  cases hsg : isSign y with
  | true =>
    rw [tokQ_sign hql (by rw [hg]; exact hsg), hg] at hh
    subst hh
    rw [hsg] at hSO
    have r0 := B1.cell 0
    have f0 := B1.frozen 0
    have r1 := B1.cell 1
    have f1 := B1.frozen 1
    have r2 := B1.cell 2
    have f2 := B1.frozen 2
    have r3 := B1.cell 3
    have f3 := B1.frozen 3
    have g0 := B2.cell 0
    have g1 := B2.cell 1
    have g2 := B2.cell 2
    have g3 := B2.cell 3
    clear hsg hg hll hql
    go_wp2_with (first
      | (go_at_call 17; refine (hSk _).mono ?_; rintro e w' ⟨rfl, rfl⟩)
      | (go_at_call 19; refine (hSO _).mono ?_; rintro e w' ⟨rfl, rfl⟩))
    exact bodyPost_ret (results_blk3 Tryz.results12 Tryz.isAgg31 (by exact Tryz.sizeOf31) rfl (B1.tokQ _ _ _ _)) rfl ⟨retT_eq (t := ⟨1, ⟨#[y]⟩, 0, 0⟩) rfl (by go_num) rfl, below_set4 K (Nat.le_refl _) _ _ _ _⟩
  | false =>
  rw [hsg] at hSO
  rw [← hg] at hsg
  by_cases h34 : y = 34
  · rw [tokQ_quo hql hsg (by rw [hg]; exact h34)] at hh
    have hQ := fun w1 => s_ReadQuoted s q w1 hs (by omega)
    obtain ⟨⟨a, b, c⟩, hr⟩ : ∃ r, quotedL s.data.toList (q : Int) = r := ⟨_, rfl⟩
    rw [hr] at hQ hh
    simp only [retQ] at hQ
    have x5 : ((y.toNat : Int) == 34) = true := by rw [h34]; rfl
    clear hr hsg hg hll hql h34
    by_cases hc : c = 0
    · subst hc
      have e2 : quoP (a, b, 0) = (⟨2, ⟨a.toArray⟩, 0, 0⟩, b, 0) := by unfold quoP; rw [if_pos rfl]
      rw [e2] at hh
      subst hh
      go_wp2_with (first
        | (go_at_call 17; refine (hSk _).mono ?_; rintro e w' ⟨rfl, rfl⟩)
        | (go_at_call 19; refine (hSO _).mono ?_; rintro e w' ⟨rfl, rfl⟩)
        | (go_at_call 46; refine (hQ _).mono ?_; rintro e w2 ⟨rfl, hb1⟩; replace B1 := B1.below hb1 B1.lt; replace B2 := B2.below hb1 B2.lt; replace K := K.trans (hb1.mono K.size); have r0 := B1.cell 0; have f0 := B1.frozen 0; have g0 := B2.cell 0; have r1 := B1.cell 1; have f1 := B1.frozen 1; have g1 := B2.cell 1; have r2 := B1.cell 2; have f2 := B1.frozen 2; have g2 := B2.cell 2; have r3 := B1.cell 3; have f3 := B1.frozen 3; have g3 := B2.cell 3))
      exact bodyPost_ret (results_blk3 Tryz.results12 Tryz.isAgg31 (by exact Tryz.sizeOf31) rfl (B1.tokQ _ _ _ _)) rfl ⟨rfl, below_set4 K (Nat.le_refl _) _ _ _ _⟩
    · have e2 : quoP (a, b, c) = (noTk, 0, c) := by unfold quoP; rw [if_neg hc]
      have hcz : (c == 0) = false := by simpa using hc
      have hcn : (c != 0) = true := by simp only [bne, hcz]; rfl
      rw [e2] at hh
      subst hh
      clear hc
      go_wp2_with (first
        | (go_at_call 17; refine (hSk _).mono ?_; rintro e w' ⟨rfl, rfl⟩)
        | (go_at_call 19; refine (hSO _).mono ?_; rintro e w' ⟨rfl, rfl⟩)
        | (go_at_call 46; refine (hQ _).mono ?_; rintro e w2 ⟨rfl, hb1⟩; replace B1 := B1.below hb1 B1.lt; replace B2 := B2.below hb1 B2.lt; replace K := K.trans (hb1.mono K.size); have r0 := B1.cell 0; have f0 := B1.frozen 0; have g0 := B2.cell 0; have r1 := B1.cell 1; have f1 := B1.frozen 1; have g1 := B2.cell 1; have r2 := B1.cell 2; have f2 := B1.frozen 2; have g2 := B2.cell 2; have r3 := B1.cell 3; have f3 := B1.frozen 3; have g3 := B2.cell 3))
      exact bodyPost_ret (results_blk3 Tryz.results12 Tryz.isAgg31 (by exact Tryz.sizeOf31) rfl (B1.tokQ _ _ _ _)) rfl ⟨rfl, below_set4 K (Nat.le_refl _) _ _ _ _⟩
  have x5 : ((y.toNat : Int) == 34) = false := u8_ne 34 (by decide) h34
  by_cases hnm : y = 45 ∨ isDg y = true
  · rw [tokQ_num hql hsg (by rw [hg]; exact h34) (by rw [hg]; exact hnm)] at hh
    have hN := fun w1 => s_ReadNumber s q w1 hs (by omega)
    rw [Int.toNat_natCast] at hN
    have hNO := (numbP_num (l := s.data.toList) (p := q) (by omega)).code
    obtain ⟨⟨a, b, c, d⟩, hr⟩ : ∃ r, numbP s.data.toList q = r := ⟨_, rfl⟩
    rw [hr] at hN hNO hh
    simp only [retN] at hN
    simp only [] at hNO
    have hy2 : ((y.toNat : Int) == 45) = true ∨ (((y.toNat : Int) == 45) = false ∧ isDg y = true) := by
      by_cases h : y = 45
      · exact .inl (by rw [h]; rfl)
      · exact .inr ⟨u8_ne 45 (by decide) h, by rcases hnm with h2 | h2; exact absurd h2 h; exact h2⟩
    clear hr hsg hg hll hql h34 hnm
    rcases hy2 with x6 | ⟨x6, hdy⟩
    · rcases hNO with rfl | rfl | rfl
      all_goals
        subst hh
        have r0 := B1.cell 0
        have f0 := B1.frozen 0
        have r1 := B1.cell 1
        have f1 := B1.frozen 1
        have r2 := B1.cell 2
        have f2 := B1.frozen 2
        have r3 := B1.cell 3
        have f3 := B1.frozen 3
        have g0 := B2.cell 0
        have g1 := B2.cell 1
        have g2 := B2.cell 2
        have g3 := B2.cell 3
        go_wp2_with (first
          | (go_at_call 17; refine (hSk _).mono ?_; rintro e w' ⟨rfl, rfl⟩)
          | (go_at_call 19; refine (hSO _).mono ?_; rintro e w' ⟨rfl, rfl⟩)
          | (go_at_call 48; refine (hN _).mono ?_; rintro e w' ⟨rfl, rfl⟩))
        exact bodyPost_ret (results_blk3 Tryz.results12 Tryz.isAgg31 (by exact Tryz.sizeOf31) rfl (B1.tokQ _ _ _ _)) rfl ⟨rfl, below_set4 K (Nat.le_refl _) _ _ _ _⟩
    · have hDg := fun w1 => s_inDg y true hdy w1
      rcases hNO with rfl | rfl | rfl
      all_goals
        subst hh
        have r0 := B1.cell 0
        have f0 := B1.frozen 0
        have r1 := B1.cell 1
        have f1 := B1.frozen 1
        have r2 := B1.cell 2
        have f2 := B1.frozen 2
        have r3 := B1.cell 3
        have f3 := B1.frozen 3
        have g0 := B2.cell 0
        have g1 := B2.cell 1
        have g2 := B2.cell 2
        have g3 := B2.cell 3
        go_wp2_with (first
          | (go_at_call 17; refine (hSk _).mono ?_; rintro e w' ⟨rfl, rfl⟩)
          | (go_at_call 19; refine (hSO _).mono ?_; rintro e w' ⟨rfl, rfl⟩)
          | (go_at_call 47; refine (hDg _).mono ?_; rintro e w' ⟨rfl, rfl⟩)
          | (go_at_call 48; refine (hN _).mono ?_; rintro e w' ⟨rfl, rfl⟩))
        exact bodyPost_ret (results_blk3 Tryz.results12 Tryz.isAgg31 (by exact Tryz.sizeOf31) rfl (B1.tokQ _ _ _ _)) rfl ⟨rfl, below_set4 K (Nat.le_refl _) _ _ _ _⟩
  have h45 : ¬ y = 45 := fun h => hnm (.inl h)
  have hdy : isDg y = false := by cases h : isDg y with | false => rfl | true => exact absurd (.inr h) hnm
  have x6 : ((y.toNat : Int) == 45) = false := u8_ne 45 (by decide) h45
  have hDg := fun w1 => s_inDg y false hdy w1
  rw [tokQ_word hql hsg (by rw [hg]; exact h34) (by rw [hg]; exact h45) (by rw [hg]; exact hdy)] at hh
  have hWd := fun w1 => s_l10Word s q w1 hs hq
  rw [hh] at hWd
  obtain ⟨⟨tk, ts, tn, tx⟩, a, b⟩ := R
  simp only [retT, Tk.v, tokV] at hWd
  clear hnm h45 hdy h34 hsg hg hll hh
  go_wp2_with (first
    | (go_at_call 17; refine (hSk _).mono ?_; rintro e w' ⟨rfl, rfl⟩)
    | (go_at_call 19; refine (hSO _).mono ?_; rintro e w' ⟨rfl, rfl⟩)
    | (go_at_call 47; refine (hDg _).mono ?_; rintro e w' ⟨rfl, rfl⟩)
    | (go_at_call 49; refine (hWd _).mono ?_; rintro e w2 ⟨rfl, hb1⟩; replace B1 := B1.below hb1 B1.lt; replace B2 := B2.below hb1 B2.lt; replace K := K.trans (hb1.mono K.size); have r0 := B1.cell 0; have f0 := B1.frozen 0; have g0 := B2.cell 0; have r1 := B1.cell 1; have f1 := B1.frozen 1; have g1 := B2.cell 1; have r2 := B1.cell 2; have f2 := B1.frozen 2; have g2 := B2.cell 2; have r3 := B1.cell 3; have f3 := B1.frozen 3; have g3 := B2.cell 3))
  exact bodyPost_ret (results_blk3 Tryz.results12 Tryz.isAgg31 (by exact Tryz.sizeOf31) rfl (B1.tokQ _ _ _ _)) rfl ⟨rfl, below_set4 K (Nat.le_refl _) _ _ _ _⟩
end Go.Proofs.YtceijgaocjghcaaGreatDoor
