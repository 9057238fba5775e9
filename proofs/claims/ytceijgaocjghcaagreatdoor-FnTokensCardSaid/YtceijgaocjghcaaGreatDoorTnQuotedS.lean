/- ReadQuoted (spec), and the law. -/
import Derived.Test.YtceijgaocjghcaaGreatDoorTnM29
set_option linter.unusedVariables false
set_option maxRecDepth 100000
set_option linter.unusedSimpArgs false
namespace Go.Proofs.YtceijgaocjghcaaGreatDoor
open Go.RowKit

theorem drop_ge {l : List UInt8} {p : Nat} (h : l.length ≤ p) : getR (l.drop p) = none := by rw [List.drop_eq_nil_of_le h]; rfl
set_option maxHeartbeats 4000000 in
theorem s_ReadQuoted (s : ByteArray) (i : Int) (w : World) (hs : s.size ≤ 1073741824) (hi : -9223372036854775808 ≤ i ∧ i ≤ 9223372036854775807) :
    Calls Tryz.prog 46 #[.string s, .int .i64 i] w fun e w' => e = retQ (quotedL s.data.toList i) ∧ Below w.heap.size w w' := by
  have hlen := blen_of s
  by_cases hc : i < 0 ∨ (s.data.toList.length : Int) ≤ i
  · have e : quotedL s.data.toList i = badQ := by unfold quotedL; rw [if_pos (by rcases hc with h | h; exact .inl h; exact .inr (.inl h))]
    rw [e]
    rw [hlen] at hc
    clear e hlen
    by_cases h0 : i < 0
    · go_enter Tryz.func46, Tryz.ntmps46
      go_wp2_with fail
      go_ret3
      exact ⟨retQ_eq rfl rfl rfl, Below.refl _ _⟩
    · have h1 : (s.size : Int) ≤ i := by omega
      go_enter Tryz.func46, Tryz.ntmps46
      go_wp2_with fail
      go_ret3
      exact ⟨retQ_eq rfl rfl rfl, Below.refl _ _⟩
  obtain ⟨k, rfl⟩ : ∃ k : Nat, i = k := ⟨i.toNat, by omega⟩
  have hk : k < s.size := by omega
  have hgk := getD_size hk
  have hk0 : ¬ (k : Int) < 0 := by omega
  have hk1 : ¬ (s.size : Int) ≤ (k : Int) := by omega
  by_cases h34 : ¬ s[k] = 34
  · have e : quotedL s.data.toList (k : Int) = badQ := by unfold quotedL; rw [if_pos (.inr (.inr (by show ¬ s.data.toList.getD k 0 = 34; rw [hgk]; exact h34)))]
    rw [e]
    obtain ⟨y, hy⟩ : ∃ y, s[k] = y := ⟨_, rfl⟩
    rw [hy] at h34
    have x5 : ((y.toNat : Int) == 34) = false := u8_ne 34 (by decide) h34
    have x5b : ((y.toNat : Int) != 34) = true := by simp only [bne, x5]; rfl
    clear e h34 hlen hgk hc
    go_enter Tryz.func46, Tryz.ntmps46
    go_wp2_with fail
    all_goals (go_ret3; exact ⟨retQ_eq rfl rfl rfl, Below.refl _ _⟩)
  have h34 : s[k] = 34 := by cases h : decide (s[k] = 34) with
    | true => exact of_decide_eq_true h
    | false => exact absurd (of_decide_eq_false h) h34
  have e : quotedL s.data.toList (k : Int) = quotedG s.data.toList s.data.toList.length (k + 1) [] := by
    unfold quotedL
    rw [if_neg (by
      intro h
      rcases h with h | h | h
      · omega
      · omega
      · exact h (by show s.data.toList.getD k 0 = 34; rw [hgk]; exact h34))]
    rfl
  obtain ⟨R, hR⟩ : ∃ R, quotedL s.data.toList k = R := ⟨_, rfl⟩
  rw [hR] at e ⊢
  have HR : Hid (quotedG s.data.toList s.size (k + 1) [] = R) := by rw [← hlen]; exact Lib.hid e.symm
  have hE : IS (w.alloc (.cells #[] 3)) w.heap.size (some ⟨w.heap.size, 0, none⟩) 0 0 [] := World.ownsRow_lit w #[] 0 (Nat.le_refl _) (by decide) rfl
  have hb0 := Below.one w (.cells #[] 3)
  obtain ⟨c, w2, hrun, hsl, hb2, hz2⟩ := run_bytes_of s (w.alloc (.cells #[] 3)) (by omega)
  have hI2 := hE.below hb2
  have k2 := hb0.up hb2
  clear e hR hc hlen hE hb0 hgk
  rw [World.size_alloc] at hsl hz2 hrun
  go_enter Tryz.func46, Tryz.ntmps46
  go_wp2_with fail
  obtain ⟨l, hl⟩ : ∃ l, s.data.toList = l := ⟨_, rfl⟩
  have hll := blen_of s
  have hgd : ∀ {q : Nat} (h : q < s.size), l.getD q 0 = s[q] := by intro q h; rw [← hl]; exact getD_size h
  have hE0 := fun (q : Nat) (hq : q < s.size) (w1 : World) => s_l9Escape s (q + 1) w1 (by omega) (by omega)
  rw [hl] at hsl HR hll hE0
  clear hl hrun hb2
  go_loopg [1, 7, 9, 10, 11] s.size (fun f v1 v7 v9 v10 v11 wr => ∃ (p n' c' : Nat) (A' : Option Addr) (acc : List Int), v1 = .int .i64 p ∧ v7 = .slice A' n' c' ∧ n' ≤ p ∧ w.heap.size + 1 ∉ blkOf A' ∧ IS wr w.heap.size A' n' c' acc ∧ p ≤ s.size ∧ s.size ≤ p + f ∧ Hid (quotedG l f p acc = R) ∧ Sl wr w2.heap.size 1 (some ⟨w.heap.size + 1, 0, none⟩) s.size c (u8s l) ∧ w2.heap.size ≤ wr.heap.size ∧ Below w.heap.size w wr)
  case atStart => exact ⟨k + 1, 0, 0, _, [], by simp, rfl, by omega, by simp [blkOf], hI2, by omega, by omega, HR, hsl, Nat.le_refl _, k2⟩
  case round =>
    obtain ⟨p, n', c', A', acc, rfl, rfl, hnp, hnA, hI, hps, hpf, hH, hS, hz, hK⟩ := hrel
    clear HR hI2 hsl k2
    rcases Nat.lt_or_ge p s.size with hp | hp
    · obtain ⟨f, rfl⟩ : ∃ f, gk = f + 1 := ⟨gk - 1, by omega⟩
      have hpl : p < l.length := by omega
      have hpi : (p : Int) < (s.size : Int) := by omega
      have hgp := hgd hp
      have hesc : ∀ w1, Calls Tryz.prog 84 #[.string s, .int .i64 ((p : Int) + 1)] w1 fun e w' => e = ret3 (escP l (p + 1)) ∧ w1 = w' := fun w1 => hE0 p hp w1
      have hget := s_GetRune (some ⟨w.heap.size + 1, 0, none⟩) s.size c l (p : Int) wr w2.heap.size hS (by omega) (by omega)
      clear hE0 hgd
      by_cases h34 : s[p] = 34
      · have hh := hH.out
        rw [quotedG_close hpl (hgp.trans h34)] at hh
        have HH := Lib.hid hh
        have hfr := s_FromRunes A' n' c' acc wr wr.heap.size hI.sl (Nat.le_refl _) (by omega)
        clear hh hH hget hesc hgp
        go_wp2_with (go_at_call 82; refine hfr.mono ?_; rintro e w3 ⟨rfl, hb3⟩)
        go_ret3
        rw [← HH.out]
        exact ⟨retQ_eq rfl (by go_num) rfl, hK.up hb3⟩
      · by_cases h92 : s[p] = 92
        · have hh := hH.out
          have hok : (escP l (p + 1)).2.2 = true → _ := fun h => escP_ok h
          have hbd : (escP l (p + 1)).2.2 = false → _ := fun h => escP_bad h
          obtain ⟨⟨z, m, ok⟩, hes⟩ : ∃ u, escP l (p + 1) = u := ⟨_, rfl⟩
          rw [hes] at hesc hok hbd
          rw [quotedG_esc hpl (hgp.trans h92) hes] at hh
          obtain ⟨⟨r1, r2, r3⟩, hrr⟩ : ∃ u, runeAt l (p : Int) = u := ⟨_, rfl⟩
          rw [hrr] at hget
          simp only [] at hok hbd
          simp only [ret3] at hget hesc
          clear hH hrr hes hgp
          cases ok with
          | false =>
            rw [if_neg (by decide)] at hh
            have HH := Lib.hid hh
            clear hh hok hbd
            go_wp2_with (first
              | (go_at_call 83; refine hget.mono ?_; rintro e w3 ⟨rfl, rfl⟩)
              | (go_at_call 84; refine (hesc _).mono ?_; rintro e w4 ⟨rfl, rfl⟩))
            go_ret3
            rw [← HH.out]
            exact ⟨retQ_eq rfl rfl rfl, hK⟩
          | true =>
            obtain ⟨o1, o2, o3⟩ := hok rfl
            obtain ⟨q, rfl⟩ : ∃ q : Nat, m = q := ⟨m.toNat, by omega⟩
            rw [if_pos rfl] at hh
            have HH := Lib.hid hh
            clear hh hok hbd
            go_wp2_with (first
              | (go_at_call 83; refine hget.mono ?_; rintro e w3 ⟨rfl, rfl⟩)
              | (go_at_call 84; refine (hesc _).mono ?_; rintro e w4 ⟨rfl, rfl⟩)
              | (at_builtin; refine app_int rfl _ _ rfl (hI.below (Below.one wr _)) rfl (int1 wr z) rfl (by omega) (by have := hK.size; simp; omega) ?_; intro A6 c6 w6 h6 hg6))
            have hfr := (Fr.of_below (fp := blkOf A') (Below.one wr (.cells #[.int .i64 z] 3))).trans hg6.fr
            have hS6 := hS.heap_ (w' := w6) (fun k hk hlt3 => hfr.block k (by omega) (by simp [blkOf] at hk; subst hk; exact hnA))
            have hnA6 := hg6.notin hnA (by simp; omega)
            have hK6 := hK.trans (hfr.below (B := w.heap.size) (fun g hg => (row_ltI hI hg).1) hK.size)
            have hz6 : w2.heap.size ≤ w6.heap.size := Nat.le_trans hz hfr.size
            clear hfr hg6 hI hS hnA hK
            go_roundg f
            case measure => omega
            case rel => exact ⟨q, n' + 1, c6, A6, acc ++ [z], rfl, rfl, by omega, hnA6, h6, by omega, by omega, HH, hS6, hz6, hK6⟩
        · have hge := runeAt_in hpl
          cases hg : getR (l.drop p) with
          | none =>
            have hh := hH.out
            rw [quotedG_none hpl (fun h => h34 (hgp.symm.trans h)) (fun h => h92 (hgp.symm.trans h)) hg] at hh
            rw [hg] at hge
            rw [hge] at hget
            simp only [ret3] at hget
            obtain ⟨y, hy⟩ : ∃ y, s[p] = y := ⟨_, rfl⟩
            rw [hy] at h34 h92
            have x5 : ((y.toNat : Int) == 34) = false := u8_ne 34 (by decide) h34
            have x6 : ((y.toNat : Int) == 92) = false := u8_ne 92 (by decide) h92
            have HH := Lib.hid hh
            clear hh hH hg hge hgp h34 h92 hesc
            go_wp2_with (first
              | (go_at_call 83; refine hget.mono ?_; rintro e w3 ⟨rfl, rfl⟩))
            go_ret3
            rw [← HH.out]
            exact ⟨retQ_eq rfl rfl rfl, hK⟩
          | some d =>
            obtain ⟨ch, k2⟩ := d
            have hh := hH.out
            rw [quotedG_some hpl (fun h => h34 (hgp.symm.trans h)) (fun h => h92 (hgp.symm.trans h)) hg] at hh
            have hgs := getR_some hg
            rw [List.length_drop] at hgs
            obtain ⟨g0, _, g1, g4, g5, _⟩ := hgs
            rw [hg] at hge
            rw [hge] at hget
            simp only [ret3] at hget
            obtain ⟨y, hy⟩ : ∃ y, s[p] = y := ⟨_, rfl⟩
            rw [hy] at h34 h92
            have x5 : ((y.toNat : Int) == 34) = false := u8_ne 34 (by decide) h34
            have x6 : ((y.toNat : Int) == 92) = false := u8_ne 92 (by decide) h92
            have r0 := runeOk_iff.1 g0
            clear hH hg hge hgp h34 h92 hesc
            by_cases h32 : (ch : Int) < 32
            · rw [if_pos h32] at hh
              have HH := Lib.hid hh
              have h32b : ¬ 32 ≤ (ch : Int) := by omega
              generalize (ch : Int) = z at hget h32 h32b r0
              have h32c : decide (32 ≤ z) = false := decide_eq_false h32b
              clear hh
              go_wp2_with (first
                | (go_at_call 83; refine hget.mono ?_; rintro e w3 ⟨rfl, rfl⟩))
              go_ret3
              rw [← HH.out]
              exact ⟨retQ_eq rfl rfl rfl, hK⟩
            · rw [if_neg h32] at hh
              have h32b : 32 ≤ (ch : Int) := by omega
              generalize (ch : Int) = z at hget h32 h32b r0 hh g0
              have h32c : decide (32 ≤ z) = true := decide_eq_true h32b
              have HH := Lib.hid hh
              clear hh
              go_wp2_with (first
                | (go_at_call 83; refine hget.mono ?_; rintro e w3 ⟨rfl, rfl⟩)
                | (at_builtin; refine app_int rfl _ _ rfl (hI.below (Below.one wr _)) rfl (int1 wr z) rfl (by omega) (by have := hK.size; simp; omega) ?_; intro A6 c6 w6 h6 hg6))
              have hfr := (Fr.of_below (fp := blkOf A') (Below.one wr (.cells #[.int .i64 z] 3))).trans hg6.fr
              have hS6 := hS.heap_ (w' := w6) (fun k hk hlt3 => hfr.block k (by omega) (by simp [blkOf] at hk; subst hk; exact hnA))
              have hnA6 := hg6.notin hnA (by simp; omega)
              have hK6 := hK.trans (hfr.below (B := w.heap.size) (fun g hg => (row_ltI hI hg).1) hK.size)
              have hz6 : w2.heap.size ≤ w6.heap.size := Nat.le_trans hz hfr.size
              clear hfr hg6 hI hS hnA hK
              go_roundg f
              case measure => omega
              case rel => exact ⟨p + k2, n' + 1, c6, A6, acc ++ [z], by simp, rfl, by omega, hnA6, h6, by omega, by omega, HH, hS6, hz6, hK6⟩
    · have hh := hH.out
      rw [quotedG_end (by omega)] at hh
      have HH := Lib.hid hh
      have hpi : ¬ (p : Int) < (s.size : Int) := by omega
      clear hh hH hE0 hgd
      go_wp2_with fail
      go_ret3
      rw [← HH.out]
      exact ⟨retQ_eq rfl rfl rfl, hK⟩
end Go.Proofs.YtceijgaocjghcaaGreatDoor
