/- ReadQuoted (impl). SignOk: impl and spec. The laws' markText. -/
import Derived.Test.YtceijgaocjghcaaGreatDoorTnM27
import Derived.Test.YtceijgaocjghcaaGreatDoorTnM1
import Derived.Test.YtceijgaocjghcaaGreatDoorTnBs
import Derived.Deep.LoopGhost
set_option linter.unusedVariables false
set_option maxRecDepth 100000
set_option linter.unusedSimpArgs false
namespace Go.Proofs.YtceijgaocjghcaaGreatDoor
open Go.RowKit

theorem encR_ok {n : Int} (h : runeOk n = true) : encR n = encL n.toNat := by simp [encR, h]
set_option maxHeartbeats 4000000 in
theorem i_ReadQuoted (s : ByteArray) (i : Int) (w : World) (hs : s.size ≤ 1073741824) (hi : -9223372036854775808 ≤ i ∧ i ≤ 9223372036854775807) (hC : Lib.CaseVar 6 Lib.caseA w) (hT : Lib.Utf8Tabs 1 2 w) :
    Calls Tryz.prog 42 #[.string s, .int .i64 i] w fun e w' => e = retQ (quotedL s.data.toList i) ∧ Below w.heap.size w w' := by
  have hlen := blen_of s
  by_cases hc : i < 0 ∨ (s.data.toList.length : Int) ≤ i ∨ ¬ s.data.toList.getD i.toNat 0 = 34
  · have e : quotedL s.data.toList i = badQ := by unfold quotedL; rw [if_pos hc]
    have hne : ¬ byteV s.data.toList i = 34 := by
      unfold byteV
      split
      · decide
      · rcases hc with h | h | h
        · omega
        · rw [getD_out (by omega)]; decide
        · exact h
    obtain ⟨y, hy⟩ : ∃ y, byteV s.data.toList i = y := ⟨_, rfl⟩
    rw [hy] at hne
    have x5 : ((y.toNat : Int) == 34) = false := u8_ne 34 (by decide) hne
    have x5b : ((y.toNat : Int) != 34) = true := by simp only [bne, x5]; rfl
    rw [e]
    clear e hc hne hlen
    go_enter Tryz.func42, Tryz.ntmps42
    go_wp2_with (go_at_call 75; refine (i_byteAt _ _ _ (by omega)).mono ?_; rintro e w' ⟨rfl, rfl⟩)
    go_ret3
    exact ⟨retQ_eq rfl rfl rfl, Below.refl _ _⟩
  · have e : quotedL s.data.toList i = quotedG s.data.toList s.data.toList.length (i.toNat + 1) [] := by unfold quotedL; rw [if_neg hc]
    obtain ⟨k, rfl⟩ : ∃ k : Nat, i = k := ⟨i.toNat, by omega⟩
    have hk : k < s.size := by omega
    have hy : byteV s.data.toList (k : Int) = 34 := by
      rw [byteV_nat]
      cases h : decide (s.data.toList.getD k 0 = 34) with
      | true => exact of_decide_eq_true h
      | false => exact absurd (.inr (.inr (of_decide_eq_false h))) hc
    obtain ⟨R, hR⟩ : ∃ R, quotedL s.data.toList k = R := ⟨_, rfl⟩
    rw [hR] at e ⊢
    have HR : Hid (quotedG s.data.toList s.size (k + 1) [] = R) := by rw [← hlen]; exact Lib.hid e.symm
    have hE : BS (w.alloc (.cells #[] 5)) w.heap.size (some ⟨w.heap.size, 0, none⟩) 0 0 [] := BS.new w
    clear e hR hc hlen
    go_enter Tryz.func42, Tryz.ntmps42
    go_wp2_with (go_at_call 75; refine (i_byteAt _ _ _ (by omega)).mono ?_; rintro e w' ⟨rfl, rfl⟩)
    go_loopg [1, 7, 8, 9] s.size (fun f v1 v7 v8 v9 wr => ∃ (p n c : Nat) (A : Option Addr) (acc : List Int), v1 = .int .i64 p ∧ v7 = .slice A n c ∧ BS wr w.heap.size A n c (encAll acc) ∧ n ≤ 4 * p ∧ p ≤ s.size ∧ s.size ≤ p + f ∧ Hid (quotedG s.data.toList f p acc = R) ∧ w.heap.size ≤ wr.heap.size ∧ Below w.heap.size w wr)
    case atStart => exact ⟨k + 1, 0, 0, _, [], by simp, rfl, hE, by omega, by omega, by omega, HR, by simp, Below.one w _⟩
    case round =>
      obtain ⟨p, n, c, A, acc, rfl, rfl, hI, hn, hps, hpf, hH, hz, hK⟩ := hrel
      have hCr := Lib.CaseVar_below hC hK
      have hTr := Utf8Tabs_below hT hK
      have hbp := byteV_nat s.data.toList p
      have hrun := i_runeAt s p wr (by omega) hTr
      clear HR hE hy
      rcases Nat.lt_or_ge p s.size with hp | hp
      · obtain ⟨f, rfl⟩ : ∃ f, gk = f + 1 := ⟨gk - 1, by omega⟩
        have hpl : p < s.data.toList.length := by rw [blen_of]; exact hp
        by_cases h34 : s.data.toList.getD p 0 = 34
        · have hh := hH.out
          rw [quotedG_close hpl h34] at hh
          rw [h34] at hbp
          have HH := Lib.hid hh
          have hcv := run_str_sl (P := Tryz.prog) 22 5 Tryz.underlying22 Tryz.underlying5 hI.sl 9 Tryz.underlying9
          clear hh hH hrun hCr hTr h34
          go_wp2_with (go_at_call 75; refine (i_byteAt _ _ _ (by omega)).mono ?_; rintro e w' ⟨rfl, rfl⟩)
          go_ret3
          rw [← HH.out]
          exact ⟨retQ_eq rfl (by go_num) rfl, hK⟩
        · by_cases h92 : s.data.toList.getD p 0 = 92
          · have hesc := fun w1 hb => i_readEscape s p w1 (by omega) (by omega) h92 (Lib.CaseVar_below hCr hb) (Utf8Tabs_below hTr hb)
            have hh := hH.out
            obtain ⟨⟨m1, m2⟩, hat⟩ : ∃ u, atP s.data.toList p = u := ⟨_, rfl⟩
            rw [hat] at hrun
            have hok : (escP s.data.toList (p + 1)).2.2 = true → _ := fun h => escP_ok h
            have hbd : (escP s.data.toList (p + 1)).2.2 = false → _ := fun h => escP_bad h
            obtain ⟨⟨n1, n2, ok⟩, hes⟩ : ∃ u, escP s.data.toList (p + 1) = u := ⟨_, rfl⟩
            rw [hes] at hesc hok hbd
            rw [quotedG_esc hpl h92 hes] at hh
            rw [h92] at hbp
            simp only [] at hok hbd
            simp only [retII] at hrun hesc
            clear hH h34 h92 hes hat
            cases ok with
            | false =>
              have := hbd rfl
              simp only [badE, Prod.mk.injEq] at this
              obtain ⟨rfl, rfl, -⟩ := this
              rw [if_neg (by decide)] at hh
              have HH := Lib.hid hh
              clear hh hok hbd
              go_wp2_with (first
                | (go_at_call 75; refine (i_byteAt _ _ _ (by omega)).mono ?_; rintro e w' ⟨rfl, rfl⟩)
                | (go_at_call 76; refine hrun.mono ?_; rintro e w1 ⟨rfl, hb1⟩)
                | (go_at_call 77; refine (hesc _ hb1).mono ?_; rintro e w2 ⟨rfl, hb2⟩))
              go_ret3
              rw [← HH.out]
              exact ⟨rfl, (hK.up hb1).up hb2⟩
            | true =>
              obtain ⟨o1, o2, o3⟩ := hok rfl
              obtain ⟨q, rfl⟩ : ∃ q : Nat, n2 = q := ⟨n2.toNat, by omega⟩
              rw [if_pos rfl] at hh
              have HH := Lib.hid hh
              have q0 : ((q : Int) == 0) = false := by simp; omega
              have r0 := runeOk_iff.1 o1
              have hen := encode_ok o1
              have hw32 := wrap32_as n1 (by omega)
              have hel := encL_len n1.toNat
              rw [blen_of] at o3
              clear hh hok hbd
              go_wp2_with (first
                | (go_at_call 75; refine (i_byteAt _ _ _ (by omega)).mono ?_; rintro e w' ⟨rfl, rfl⟩)
                | (go_at_call 76; refine hrun.mono ?_; rintro e w1 ⟨rfl, hb1⟩)
                | (go_at_call 77; refine (hesc _ hb1).mono ?_; rintro e w2 ⟨rfl, hb2⟩; clear hrun hesc hCr hTr)
                | (at_builtin; refine app_strg rfl _ _ rfl ((hI.below hb1).below hb2) rfl rfl (by rw [ba_sz]; omega) (by have := hb1.size; have := hb2.size; omega) ?_; intro A6 c6 w6 h6 hg6))
              have h6' : BS w6 w.heap.size A6 (n + (⟨(encL n1.toNat).toArray⟩ : ByteArray).size) c6 (encAll (acc ++ [n1])) := by rw [encAll_snoc, encR_ok o1]; exact h6
              have hK6 := ((hK.up hb1).up hb2).trans (hg6.below ((hI.below hb1).below hb2) (by have := hb1.size; have := hb2.size; omega))
              have hz6 : w.heap.size ≤ w6.heap.size := hK6.size
              clear h6 hg6 hI hb1 hb2
              go_roundg f
              case measure => omega
              case rel => exact ⟨q, _, c6, A6, acc ++ [n1], rfl, rfl, h6', by (first | omega | (rw [ba_sz]; omega)), by omega, by omega, HH, hz6, hK6⟩
          · cases hg : getR (s.data.toList.drop p) with
            | none =>
              have hat : atP s.data.toList p = (0, 0) := by unfold atP; rw [hg]
              rw [hat] at hrun
              simp only [retII] at hrun
              have hh := hH.out
              rw [quotedG_none hpl h34 h92 hg] at hh
              have HH := Lib.hid hh
              obtain ⟨y, hy⟩ : ∃ y, s.data.toList.getD p 0 = y := ⟨_, rfl⟩
              rw [hy] at hbp h34 h92
              have x5 : ((y.toNat : Int) == 34) = false := u8_ne 34 (by decide) h34
              have x5b : ((y.toNat : Int) != 34) = true := by simp only [bne, x5]; rfl
              have x6 : ((y.toNat : Int) == 92) = false := u8_ne 92 (by decide) h92
              clear hh hH h34 h92 hat hg hy
              go_wp2_with (first
                | (go_at_call 75; refine (i_byteAt _ _ _ (by omega)).mono ?_; rintro e w' ⟨rfl, rfl⟩)
                | (go_at_call 76; refine hrun.mono ?_; rintro e w1 ⟨rfl, hb1⟩))
              go_ret3
              rw [← HH.out]
              exact ⟨retQ_eq rfl rfl rfl, hK.up hb1⟩
            | some d =>
              obtain ⟨ch, k2⟩ := d
              have hat : atP s.data.toList p = ((ch : Int), (p : Int) + (k2 : Int)) := by unfold atP; rw [hg]
              have hgs := getR_some hg
              rw [List.length_drop, blen_of] at hgs
              obtain ⟨g0, _, g1, g4, g5, _⟩ := hgs
              rw [hat] at hrun
              simp only [retII] at hrun
              have hh := hH.out
              rw [quotedG_some hpl h34 h92 hg] at hh
              obtain ⟨y, hy⟩ : ∃ y, s.data.toList.getD p 0 = y := ⟨_, rfl⟩
              rw [hy] at hbp h34 h92
              have x5 : ((y.toNat : Int) == 34) = false := u8_ne 34 (by decide) h34
              have x5b : ((y.toNat : Int) != 34) = true := by simp only [bne, x5]; rfl
              have x6 : ((y.toNat : Int) == 92) = false := u8_ne 92 (by decide) h92
              clear hH h34 h92 hat hg hy
              have r0 := runeOk_iff.1 g0
              by_cases h32 : (ch : Int) < 32
              · rw [if_pos h32] at hh
                have HH := Lib.hid hh
                clear hh
                go_wp2_with (first
                | (go_at_call 75; refine (i_byteAt _ _ _ (by omega)).mono ?_; rintro e w' ⟨rfl, rfl⟩)
                | (go_at_call 76; refine hrun.mono ?_; rintro e w1 ⟨rfl, hb1⟩))
                go_ret3
                rw [← HH.out]
                exact ⟨retQ_eq rfl rfl rfl, hK.up hb1⟩
              · rw [if_neg h32] at hh
                generalize (ch : Int) = z at hrun hh g0 r0 h32
                have HH := Lib.hid hh
                have q0 : ((p : Int) + (k2 : Int) == 0) = false := by simp; omega
                have hen := encode_ok g0
                have hw32 := wrap32_as z (by omega)
                have hel := encL_len z.toNat
                clear hh
                go_wp2_with (first
                | (go_at_call 75; refine (i_byteAt _ _ _ (by omega)).mono ?_; rintro e w' ⟨rfl, rfl⟩)
                | (go_at_call 76; refine hrun.mono ?_; rintro e w1 ⟨rfl, hb1⟩; clear hrun hCr hTr)
                | (at_builtin; refine app_strg rfl _ _ rfl (hI.below hb1) rfl rfl (by rw [ba_sz]; omega) (by have := hb1.size; omega) ?_; intro A6 c6 w6 h6 hg6))
                have h6' : BS w6 w.heap.size A6 (n + (⟨(encL z.toNat).toArray⟩ : ByteArray).size) c6 (encAll (acc ++ [z])) := by rw [encAll_snoc, encR_ok g0]; exact h6
                have hK6 := (hK.up hb1).trans (hg6.below (hI.below hb1) (by have := hb1.size; omega))
                have hz6 : w.heap.size ≤ w6.heap.size := hK6.size
                clear h6 hg6 hI hb1
                go_roundg f
                case measure => omega
                case rel => exact ⟨p + k2, _, c6, A6, acc ++ [z], by simp, rfl, h6', by (first | omega | (rw [ba_sz]; omega)), by omega, by omega, HH, hz6, hK6⟩
      · have hh := hH.out
        rw [quotedG_end (by rw [blen_of]; omega)] at hh
        have hat : atP s.data.toList p = (0, 0) := by
          unfold atP
          rw [List.drop_eq_nil_of_le (by rw [blen_of]; omega)]
          rfl
        rw [hat] at hrun
        simp only [retII] at hrun
        rw [getD_out (by omega)] at hbp
        have HH := Lib.hid hh
        clear hh hH hat
        go_wp2_with (first
                | (go_at_call 75; refine (i_byteAt _ _ _ (by omega)).mono ?_; rintro e w' ⟨rfl, rfl⟩)
                | (go_at_call 76; refine hrun.mono ?_; rintro e w1 ⟨rfl, hb1⟩))
        go_ret3
        rw [← HH.out]
        exact ⟨retQ_eq rfl rfl rfl, hK.up hb1⟩
end Go.Proofs.YtceijgaocjghcaaGreatDoor

namespace Go.Proofs.YtceijgaocjghcaaGreatDoor
open Go.RowKit

def isSign (c : UInt8) : Bool := c == 123 || c == 125 || c == 91 || c == 93 || c == 58 || c == 44
def signOk : List UInt8 → Bool
  | [c] => isSign c
  | _ => false
theorem signOk_long {l : List UInt8} (h : l.length ≠ 1) : signOk l = false := by
  match l, h with
  | [], _ => rfl
  | [c], h => exact absurd rfl h
  | _ :: _ :: _, _ => rfl
theorem one_byte {s : ByteArray} (h : s.size = 1) : ∃ c, s = ⟨#[c]⟩ := by
  obtain ⟨⟨l⟩⟩ := s
  have hl : l.length = 1 := h
  match l, hl with
  | [c], _ => exact ⟨c, rfl⟩
theorem sign_index (c : UInt8) : decide (0 ≤ Lib.indexByte [123, 125, 91, 93, 58, 44] c) = isSign c :=
  u8_all (p := fun c => decide (0 ≤ Lib.indexByte [123, 125, 91, 93, 58, 44] c) = isSign c) (by decide +kernel) c
theorem i_SignOk (s : ByteArray) (w : World) :
    Calls Tryz.prog 18 #[.string s] w fun e w' => e = .returned (.bool (signOk s.data.toList)) ∧ w = w' := by
  by_cases h : s.size = 1
  · obtain ⟨c, rfl⟩ := one_byte h
    clear h
    go_enter Tryz.func18, Tryz.ntmps18
    go_wp2_with (go_at_call 53; refine (Tryz.strings_Contains_one _ _ _).mono ?_; rintro e w' ⟨rfl, hw⟩; subst hw)
    go_ret
    exact ⟨ret_bool (sign_index c), rfl⟩
  · have h1 : ((s.size : Int) == 1) = false := by simp; omega
    go_enter Tryz.func18, Tryz.ntmps18
    go_wp2_with fail
    go_ret
    exact ⟨ret_bool (signOk_long (by simpa using h)).symm, rfl⟩
theorem signOk_iff (l : List UInt8) : signOk l = true ↔ l = [123] ∨ l = [125] ∨ l = [91] ∨ l = [93] ∨ l = [58] ∨ l = [44] := by
  match l with
  | [] => simp [signOk]
  | [c] => simp [signOk, isSign, or_assoc]
  | _ :: _ :: _ => simp [signOk]
theorem toList_data (s : ByteArray) : s.toList = s.data.toList := ByteArray.toList_eq s
set_option maxHeartbeats 800000 in
theorem s_SignOk (s : ByteArray) (w : World) :
    Calls Tryz.prog 19 #[.string s] w fun e w' => e = .returned (.bool (signOk s.data.toList)) ∧ w = w' := by
  go_enter Tryz.func19, Tryz.ntmps19
  go_wp2_with fail
  all_goals
    go_ret
    refine ⟨ret_bool ?_, rfl⟩
    rw [Bool.eq_iff_iff, signOk_iff, ← toList_data]
    simp [*]
end Go.Proofs.YtceijgaocjghcaaGreatDoor

namespace Go.Proofs.YtceijgaocjghcaaGreatDoor
open Go.RowKit

def dec10 : Nat → Nat → List UInt8 → List UInt8
  | 0, _, acc => acc
  | f + 1, k, acc => if k = 0 then acc else dec10 f (k / 10) (UInt8.ofNat (48 + k % 10) :: acc)
/-- The mark that a text bears. -/
def mkT (k : Nat) : ByteArray := ⟨(109 :: dec10 20 k []).toArray⟩
theorem ba_cons (c : UInt8) (l : List UInt8) : (⟨#[c]⟩ : ByteArray) ++ ⟨l.toArray⟩ = ⟨(c :: l).toArray⟩ := by
  apply ByteArray.ext
  simp [ByteArray.data_append]
end Go.Proofs.YtceijgaocjghcaaGreatDoor
