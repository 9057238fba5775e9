/- l10Word: spec. Written by gen/readtok.py. -/
import Derived.Test.YtgddnpglgakkdaaGreatDoorTokP
import Derived.Test.YtgddnpglgakkdaaGreatDoorRdNumS
import Derived.Test.YtgddnpglgakkdaaGreatDoorTokG
import Derived.Deep.LoopGhost
set_option linter.unusedVariables false
set_option maxRecDepth 100000
set_option linter.unusedSimpArgs false
namespace Go.Proofs.YtgddnpglgakkdaaGreatDoor
open Go.RowKit

theorem prefix_eq (s WB : ByteArray) (q : Nat) (W : List UInt8) (hW : WB.data.toList = W) (h : q + WB.size ≤ s.size) : Lib.hasPrefix (s.data.toList.drop q) W = decide (s.extract q (q + WB.size) = WB) := by
  have e1 : (s.extract q (q + WB.size)).data.toList = (s.data.toList.drop q).take WB.size := by rw [extractL, ba_dataW, Nat.add_sub_cancel_left]
  have hz : WB.size = W.length := by rw [← hW, blen_of]
  by_cases h2 : s.extract q (q + WB.size) = WB
  · rw [decide_eq_true h2]
    rw [h2, hW, hz] at e1
    show W.isPrefixOf (s.data.toList.drop q) = true
    rw [List.isPrefixOf_iff_prefix]
    rw [e1]
    exact List.take_prefix _ _
  · rw [decide_eq_false h2]
    cases hp : Lib.hasPrefix (s.data.toList.drop q) W with
    | false => rfl
    | true =>
      exfalso
      apply h2
      have h3 : W.isPrefixOf (s.data.toList.drop q) = true := hp
      rw [List.isPrefixOf_iff_prefix] at h3
      have h4 := List.prefix_iff_eq_take.1 h3
      apply ByteArray.ext
      exact Array.toList_inj.1 (by rw [e1, hz, ← h4, hW])
theorem prefix_no {s : ByteArray} {q : Nat} {W : List UInt8} (hw : 0 < W.length) (h : ¬ q + W.length ≤ s.size) : Lib.hasPrefix (s.data.toList.drop q) W = false := by
  cases hp : Lib.hasPrefix (s.data.toList.drop q) W with
  | false => rfl
  | true => have := prefix_len hp hw; rw [blen_of] at this; omega
set_option maxHeartbeats 4000000 in
theorem s_l10Word (s : ByteArray) (q : Nat) (w : World) (hs : s.size ≤ 1073741824) (hq : q ≤ s.size) :
    Calls Tryz.prog 37 #[.string s, .int .i64 q] w fun e w' => e = retT (wordP s.data.toList q) ∧ Below w.heap.size w w' := by
  have K := Below.one w (.cells #[.int .i64 0, .string ⟨#[]⟩, .int .i64 0, .int .i64 0] 41)
  have hR := Blk.new w 41 #[.int .i64 0, .string ⟨#[]⟩, .int .i64 0, .int .i64 0]
  obtain ⟨R, hRR⟩ : ∃ R, wordP s.data.toList q = R := ⟨_, rfl⟩
  have HW : Hid (wordG s.data.toList q 0 = R) := Lib.hid hRR
  rw [hRR]
  clear hRR
  go_enter Tryz.func37, Tryz.ntmps37
  go_wp2_with fail
  have hW3 := Blk.new (w.alloc (.cells #[.int .i64 0, .string ⟨#[]⟩, .int .i64 0, .int .i64 0] 41)) 9 #[.string ⟨wNull.toArray⟩, .string ⟨wTrue.toArray⟩, .string ⟨wFalse.toArray⟩]
  rw [World.size_alloc] at hW3
  go_loopg [11] 3 (fun f v96 wr => ∃ j : Nat, j + f = 3 ∧ v96 = .int .i64 j ∧ Blk wr w.heap.size 41 #[.int .i64 0, .string ⟨#[]⟩, .int .i64 0, .int .i64 0] ∧ Blk wr (w.heap.size + 1) 9 #[.string ⟨wNull.toArray⟩, .string ⟨wTrue.toArray⟩, .string ⟨wFalse.toArray⟩] ∧ Below w.heap.size w wr ∧ Hid (wordG s.data.toList q j = R))
  case atStart => exact ⟨0, rfl, rfl, hR.alloc _, hW3, K.alloc (by simp) _, HW⟩
  case round =>
    obtain ⟨j, hjf, rfl, B1, B2, KK, HJ⟩ := hrel
    clear HW hW3 hR K
    by_cases hj : j < 3
    · obtain ⟨f, rfl⟩ : ∃ f, gk = f + 1 := ⟨gk - 1, by omega⟩
      have hc := B2.cell j
      rw [show (#[.string ⟨wNull.toArray⟩, .string ⟨wTrue.toArray⟩, .string ⟨wFalse.toArray⟩] : Array Value)[j]? = some (.string ⟨(wordOf j).toArray⟩) by
        obtain rfl | rfl | rfl : j = 0 ∨ j = 1 ∨ j = 2 := by omega
        all_goals rfl] at hc
      have hwl : (wordOf j).length ≤ 5 ∧ 0 < (wordOf j).length := by
        obtain rfl | rfl | rfl : j = 0 ∨ j = 1 ∨ j = 2 := by omega
        all_goals decide
      have hy1 := fun h => wordG_yes (l := s.data.toList) (p := q) hj h
      have hy2 := fun h => wordG_no (l := s.data.toList) (p := q) hj h
      rw [HJ.out] at hy1 hy2
      have hzz : (⟨(wordOf j).toArray⟩ : ByteArray).size = (wordOf j).length := ba_sz _
      have hdd : (⟨(wordOf j).toArray⟩ : ByteArray).data.toList = wordOf j := ba_dataW _
      have hpn := fun h => prefix_no (s := s) (q := q) hwl.2 h
      have hpe := fun h => prefix_eq s ⟨(wordOf j).toArray⟩ q (wordOf j) hdd h
      obtain ⟨WB, hWB⟩ : ∃ WB : ByteArray, (⟨(wordOf j).toArray⟩ : ByteArray) = WB := ⟨_, rfl⟩
      rw [hWB] at hc hzz hy1 hpe
      rw [← hzz] at hy1 hwl hpn
      have hji : (j : Int) < 3 := by omega
      have hjf2 : j + 1 + f = 3 := by omega
      clear hWB hzz hjf hdd
      by_cases hfit : q + WB.size ≤ s.size
      · have hfi : (q : Int) ≤ (s.size : Int) - (WB.size : Int) := by omega
        have hfi2 : (q : Int) + (WB.size : Int) ≤ (s.size : Int) := by omega
        obtain ⟨X, hX⟩ : ∃ X, s.extract q (q + WB.size) = X := ⟨_, rfl⟩
        rw [hX] at hpe
        by_cases hXW : X = WB
        · have hR := hy1 (by rw [hpe hfit, decide_eq_true hXW])
          subst hR
          have r0 := B1.cell 0
          have r1 := B1.cell 1
          have r2 := B1.cell 2
          have r3 := B1.cell 3
          have f0 := B1.frozen 0
          have f1 := B1.frozen 1
          have f2 := B1.frozen 2
          have f3 := B1.frozen 3
          subst hXW
          clear hy1 hy2 HJ hpn hpe hfit
          go_wp2_with fail
          exact bodyPost_ret (results_blk3 Tryz.results37 Tryz.isAgg41 (by exact Tryz.sizeOf41) rfl (B1.tokQ _ _ _ _)) rfl ⟨retT_eq (t := ⟨4, X, 0, 0⟩) rfl (by go_num) rfl, below_set4 KK (Nat.le_refl _) _ _ _ _⟩
        · have HH := Lib.hid (hy2 (by rw [hpe hfit, decide_eq_false hXW])).symm
          have hXe : (X.toList == WB.toList) = false := by
            rw [beq_eq_false_iff_ne]
            exact fun h => hXW (by rw [ByteArray.toList_eq, ByteArray.toList_eq] at h; exact ByteArray.ext (Array.toList_inj.1 h))
          clear hy1 hy2 HJ hpn hpe hfit
          go_wp2_with fail
          go_roundg f
          case measure => omega
          case rel => exact ⟨j + 1, hjf2, by go_num, B1, B2, KK, HH⟩
      · have hfi : ¬ (q : Int) ≤ (s.size : Int) - (WB.size : Int) := by omega
        have HH := Lib.hid (hy2 (hpn hfit)).symm
        clear hy1 hy2 HJ hpn hpe hfit
        go_wp2_with fail
        go_roundg f
        case measure => omega
        case rel => exact ⟨j + 1, hjf2, by go_num, B1, B2, KK, HH⟩
    · obtain rfl : j = 3 := by omega
      have hR : R = (noTk, 0, 1) := by rw [← HJ.out]; rfl
      subst hR
      have r0 := B1.cell 0
      have r1 := B1.cell 1
      have r2 := B1.cell 2
      have r3 := B1.cell 3
      have f0 := B1.frozen 0
      have f1 := B1.frozen 1
      have f2 := B1.frozen 2
      have f3 := B1.frozen 3
      clear HJ
      go_wp2_with fail
      exact bodyPost_ret (results_blk3 Tryz.results37 Tryz.isAgg41 (by exact Tryz.sizeOf41) rfl (B1.tokQ _ _ _ _)) rfl ⟨rfl, below_set4 KK (Nat.le_refl _) _ _ _ _⟩
end Go.Proofs.YtgddnpglgakkdaaGreatDoor
