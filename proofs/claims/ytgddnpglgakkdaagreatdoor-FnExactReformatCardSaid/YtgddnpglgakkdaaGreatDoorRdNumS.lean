/- Numbers read from text: spec. -/
import Derived.Test.YtgddnpglgakkdaaGreatDoorRdNumP
import Derived.Test.YtgddnpglgakkdaaGreatDoorEsc
import Derived.Deep.LoopGhost
import Derived.Deep.Cut
set_option linter.unusedVariables false
set_option maxRecDepth 100000
set_option linter.unusedSimpArgs false
namespace Go.Proofs.YtgddnpglgakkdaaGreatDoor
open Go.RowKit

theorem inR_dg (y : UInt8) : inR (y.toNat : Int) 48 57 = isDg y := by
  cases h : isDg y with
  | true => exact inR_yes (isDg_in h).1 (isDg_in h).2
  | false => exact inR_no (isDg_no h)
theorem wrap_u8 (y : UInt8) : wrap64 (y.toNat : Int) = (y.toNat : Int) := by have := y.toNat_lt; unfold wrap64; omega
theorem s_inDg (y : UInt8) (b : Bool) (hb : isDg y = b) (w : World) : Calls Tryz.prog 35 #[.int .i64 (wrap64 (y.toNat : Int)), .int .i64 48, .int .i64 57] w fun e w' => e = .returned (.bool b) ∧ w = w' := by
  have h := s_l1In (y.toNat : Int) 48 57 w
  rw [inR_dg, hb] at h
  rw [wrap_u8]
  exact h
set_option maxHeartbeats 1000000 in
theorem s_l4Digits (s : ByteArray) (p0 : Nat) (w : World) (hs : s.size ≤ 1099511627776) (hp0 : p0 ≤ s.size) :
    Calls Tryz.prog 56 #[.string s, .int .i64 p0] w fun e w' => e = .returned (.int .i64 (dgEnd s.data.toList p0)) ∧ w = w' := by
  obtain ⟨q, hq⟩ : ∃ q, dgEnd s.data.toList p0 = q := ⟨_, rfl⟩
  have hq1 : p0 ≤ q := by rw [← hq]; unfold dgEnd; omega
  have hq2 : q ≤ s.size := by rw [← hq, ← blen_of]; exact dgEnd_le (by rw [blen_of]; exact hp0)
  have H := Lib.hid hq
  rw [hq]
  clear hq
  go_enter Tryz.func56, Tryz.ntmps56
  go_wp2_with fail
  go_loop [1] (fun i => ∃ k : Nat, i = .int .i64 k ∧ p0 ≤ k ∧ k ≤ s.size ∧ Hid (dgEnd s.data.toList k = q)) (fun i => s.size - (intOf i).toNat)
  case atStart => exact ⟨p0, rfl, Nat.le_refl _, hp0, H⟩
  case round =>
    obtain ⟨k, rfl, hk1, hk2, HK⟩ := hrel
    clear H
    by_cases hlt : k < s.size
    · have hg := getD_size hlt
      obtain ⟨y, hy⟩ : ∃ y, s[k] = y := ⟨_, rfl⟩
      rw [hy] at hg
      obtain ⟨b, hb⟩ : ∃ b, isDg y = b := ⟨_, rfl⟩
      have hki : (k : Int) < (s.size : Int) := by omega
      have hd := fun w1 => s_inDg y b hb w1
      cases b with
      | true =>
        have HH : Hid (dgEnd s.data.toList (k + 1) = q) := Lib.hid (by rw [← dgEnd_yes (by rw [hg]; exact hb)]; exact HK.out)
        clear hb HK hg
        go_wp2_with (go_at_call 35; refine (hd _).mono ?_; rintro e w' ⟨rfl, rfl⟩)
        go_round
        case rel => exact ⟨k + 1, by go_num, by omega, by omega, HH⟩
        case measure => simp [intOf]; omega
      | false =>
        obtain rfl : k = q := by rw [← HK.out, dgEnd_no (by rw [hg]; exact hb)]
        clear hb HK hg
        go_wp2_with (go_at_call 35; refine (hd _).mono ?_; rintro e w' ⟨rfl, rfl⟩)
        go_ret
        exact ⟨rfl, rfl⟩
    · have hki : ¬ (k : Int) < (s.size : Int) := by omega
      obtain rfl : k = q := by rw [← HK.out, dgEnd_no (by rw [getD_out hlt]; decide)]
      clear HK
      go_wp2_with fail
      go_ret
      exact ⟨rfl, rfl⟩
set_option maxHeartbeats 1000000 in
theorem s_l4Value (D : List UInt8) (s : ByteArray) (hD : s.data.toList = D) (h : ∀ c ∈ D, isDg c = true) (m : Nat) (hm : m ≤ 17) (hs : s.size ≤ 1099511627776) (w : World) :
    Calls Tryz.prog 57 #[.string s, .int .i64 m] w fun e w' => e = .returned (.tuple #[.int .i64 (if sigN D ≤ m then (valD D : Int) else 0), .bool (decide (sigN D ≤ m))]) ∧ w = w' := by
  obtain ⟨R, hR⟩ : ∃ R : Int × Bool, (if sigN D ≤ m then ((valD D : Int), true) else (0, false)) = R := ⟨_, rfl⟩
  have e1 : (if sigN D ≤ m then (valD D : Int) else 0) = R.1 := by rw [← hR]; split <;> rfl
  have e2 : decide (sigN D ≤ m) = R.2 := by
    rw [← hR]
    by_cases h5 : sigN D ≤ m
    · rw [if_pos h5, decide_eq_true h5]
    · rw [if_neg h5, decide_eq_false h5]
  rw [e1, e2]
  have HR := Lib.hid hR
  have hl : D.length = s.size := by rw [← hD, blen_of]
  clear hR e1 e2
  go_enter Tryz.func57, Tryz.ntmps57
  go_wp2_with fail
  go_loop [6, 7, 8] (fun v6 v7 v8 => ∃ (j k n : Nat), v8 = .int .i64 j ∧ v7 = .int .i64 k ∧ v6 = .int .i64 n ∧ j ≤ s.size ∧ n < 100000000000000000 ∧ k ≤ m ∧ Hid (sigN (D.take j) = k ∧ valD (D.take j) = n)) (fun v6 v7 v8 => s.size - (intOf v8).toNat)
  case atStart => exact ⟨0, 0, 0, rfl, rfl, rfl, Nat.zero_le _, by decide, Nat.zero_le _, Lib.hid ⟨rfl, rfl⟩⟩
  case round =>
    obtain ⟨j, k, n, rfl, rfl, rfl, hj, hn, hk, HK⟩ := hrel
    by_cases hlt : j < s.size
    · have hjl : j < D.length := by omega
      have hsj : s[j] = D[j] := by
        rw [← getElem_data s j hlt (by rw [hD]; exact hjl)]
        simp only [hD]
      have hdg := isDg_in (h D[j] (List.getElem_mem hjl))
      have hst : D.take (j + 1) = D.take j ++ [D[j]] := List.take_succ_eq_append_getElem hjl
      have hs1 := sigN_snoc (D.take j) D[j]
      have hv1 := valD_snoc (D.take j) D[j]
      have hmx := sigN_take D (j + 1)
      have hvb : sigN (D.take (j + 1)) ≤ 17 → valD (D.take (j + 1)) < 100000000000000000 := fun h5 => valD_big (fun c hc => h c (List.mem_of_mem_take hc)) h5
      rw [hst] at hmx hvb
      rw [HK.out.1] at hs1
      rw [HK.out.2] at hv1
      obtain ⟨S, hS⟩ : ∃ S, sigN (D.take j ++ [D[j]]) = S := ⟨_, rfl⟩
      obtain ⟨V, hV⟩ : ∃ V, valD (D.take j ++ [D[j]]) = V := ⟨_, rfl⟩
      rw [hS] at hs1 hmx hvb
      rw [hV] at hv1 hvb
      have HN : Hid (sigN (D.take (j + 1)) = S ∧ valD (D.take (j + 1)) = V) := Lib.hid ⟨by rw [hst]; exact hS, by rw [hst]; exact hV⟩
      rw [← hsj] at hs1 hv1 hdg
      obtain ⟨y, hy⟩ : ∃ y, s[j] = y := ⟨_, rfl⟩
      rw [hy] at hs1 hv1 hdg
      have HV : Hid ((10 * (n : Int)) + ((y.toNat : Int) - 48) = (V : Int)) := Lib.hid (by omega)
      have HB : Hid ((S ≤ m → V < 100000000000000000) ∧ (¬ S ≤ m → R = (0, false))) := Lib.hid ⟨fun h5 => hvb (by omega), fun h5 => by rw [← HR.out, if_neg (by omega)]⟩
      have hy0 : 0 ≤ (y.toNat : Int) - 48 := by omega
      have hy1 : (y.toNat : Int) - 48 ≤ 9 := by omega
      clear hvb hv1 hst hsj HK hS hV hmx
      by_cases h48 : y = 48
      · by_cases hk0 : 0 < k
        · rw [if_pos (.inr hk0)] at hs1
          subst hs1
          have x5 : ((y.toNat : Int) == 48) = true := by rw [h48]; decide
          have x6 : ((y.toNat : Int) != 48) = false := by rw [h48]; decide
          have hk1 : (0 : Int) < (k : Int) := by omega
          clear h48 hk0
          by_cases hkm : k + 1 ≤ m
          · have hkm2 : ¬ (m : Int) < (k : Int) + 1 := by omega
            have hV2 := HB.out.1 hkm
            clear HB hkm
            go_wp2_with fail
            go_round
            case rel => exact ⟨j + 1, k + 1, V, by go_num, by go_num, by rw [← HV.out], by omega, hV2, by omega, HN⟩
            case measure => simp [intOf]; omega
          · have hkm2 : (m : Int) < (k : Int) + 1 := by omega
            obtain rfl := HB.out.2 hkm
            clear HB hkm HR
            go_wp2_with fail
            go_ret2
            exact ⟨rfl, rfl⟩
        · rw [if_neg (by intro h5; rcases h5 with h5 | h5; exact h5 h48; exact hk0 h5)] at hs1
          have hs2 := hs1.symm
          clear hs1
          subst hs2
          have x5 : ((y.toNat : Int) == 48) = true := by rw [h48]; decide
          have x6 : ((y.toNat : Int) != 48) = false := by rw [h48]; decide
          have hk1 : ¬ (0 : Int) < (k : Int) := by omega
          have hkm2 : ¬ (m : Int) < (k : Int) := by omega
          have hV2 := HB.out.1 hk
          clear h48 hk0 HB
          go_wp2_with fail
          go_round
          case rel => exact ⟨j + 1, k, V, by go_num, rfl, by rw [← HV.out], by omega, hV2, by omega, HN⟩
          case measure => simp [intOf]; omega
      · rw [if_pos (.inl h48)] at hs1
        subst hs1
        have x5 : ((y.toNat : Int) == 48) = false := u8_ne 48 (by decide) h48
        have x6 : ((y.toNat : Int) != 48) = true := by simp only [bne, x5]; rfl
        clear h48
        by_cases hkm : k + 1 ≤ m
        · have hkm2 : ¬ (m : Int) < (k : Int) + 1 := by omega
          have hV2 := HB.out.1 hkm
          clear HB hkm
          go_wp2_with fail
          go_round
          case rel => exact ⟨j + 1, k + 1, V, by go_num, by go_num, by rw [← HV.out], by omega, hV2, by omega, HN⟩
          case measure => simp [intOf]; omega
        · have hkm2 : (m : Int) < (k : Int) + 1 := by omega
          obtain rfl := HB.out.2 hkm
          clear HB hkm HR
          go_wp2_with fail
          go_ret2
          exact ⟨rfl, rfl⟩
    · have hjl : D.take j = D := List.take_of_length_le (by omega)
      have hki : ¬ (j : Int) < (s.size : Int) := by omega
      have hh := HK.out
      rw [hjl] at hh
      have hR2 : R = ((n : Int), true) := by rw [← HR.out, if_pos (by omega), hh.2]
      subst hR2
      clear HK HR hh hjl
      go_wp2_with fail
      go_ret2
      exact ⟨rfl, rfl⟩
end Go.Proofs.YtgddnpglgakkdaaGreatDoor
