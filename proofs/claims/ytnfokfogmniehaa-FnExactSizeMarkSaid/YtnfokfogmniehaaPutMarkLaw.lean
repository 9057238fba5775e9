/- The law on PutMark. (Written by wip/gen/lawbytes.py.) -/
import Derived.Test.YtnfokfogmniehaaPutMark
import Derived.Deep.RegionHeld3
set_option linter.unusedVariables false
set_option maxRecDepth 100000
set_option linter.unusedSimpArgs false
namespace Go.Proofs.Ytnfokfogmniehaa
open Go.RowKit
set_option maxHeartbeats 1000000 in
theorem law_PutMark (A : Option Addr) (n c : Nat) (b : List UInt8) (kk nn : Int) (w : World) (h : Sl w w.heap.size 1 A n c (u8s b)) (hkk : -9223372036854775808 ≤ kk ∧ kk ≤ 9223372036854775807) (hnn : -9223372036854775808 ≤ nn ∧ nn ≤ 9223372036854775807) :
    Calls Try.prog 11 #[.slice A n c, .agg #[.int .i64 kk, .int .i64 nn]] w fun e' w' => e' = .returned (.bool true) ∧ Below w.heap.size w w' := by
  by_cases hn : n ≤ 1048576
  · have hto := fun w1 hb => l_toB A n c b w w1 h hn hb
    have hbl : b.length ≤ 1048576 := by have := h.blen; omega
    obtain ⟨r, hr⟩ : ∃ r, b ++ markB kk nn = r := ⟨_, rfl⟩
    have hrl : r.length ≤ 1048600 := by rw [← hr]; have := markB_len kk nn; simp; omega
    have hS : ∀ A1 c1 lo w1, BS w1 lo A1 n c1 b → Calls Try.prog 54 #[.slice A1 n c1, .agg #[.int .i64 kk, .int .i64 nn]] w1 fun e w' => ∃ A' c', e = .returned (.slice A' r.length c') ∧ BS w' w1.heap.size A' r.length c' r ∧ Below w1.heap.size w1 w' :=
      fun A1 c1 lo w1 h1 => (s_PutMark A1 n c1 b kk nn w1 _ h1.sl (Nat.le_refl _) (by omega) hnn.2).mono fun e w' ⟨A', n', c', h2, h3, h4⟩ => by
        rw [hr] at h3; obtain rfl := h3.len; exact ⟨A', c', h2, h3, h4⟩
    have hI : ∀ A1 c1 lo w1, BS w1 lo A1 n c1 b → Calls Try.prog 55 #[.slice A1 n c1, .agg #[.int .i64 kk, .int .i64 nn]] w1 fun e w' => ∃ A' c', e = .returned (.slice A' r.length c') ∧ BS w' w1.heap.size A' r.length c' r ∧ Below w1.heap.size w1 w' :=
      fun A1 c1 lo w1 h1 => (i_PutMark A1 n c1 b kk nn w1 _ h1.sl (Nat.le_refl _) (by omega) hnn.2).mono fun e w' ⟨A', n', c', h2, h3, h4⟩ => by
        rw [hr] at h3; obtain rfl := h3.len; exact ⟨A', c', h2, h3, h4⟩
    clear hr
    obtain ⟨q, hq⟩ : ∃ q, r.length = q := ⟨_, rfl⟩
    rw [hq] at hS hI hrl
    have BX : Blk (w.alloc (.cells #[.int .i64 kk, .int .i64 nn] 65)) w.heap.size 65 #[.int .i64 kk, .int .i64 nn] := Blk.new w _ _
    have K := Below.one w (.cells #[.int .i64 kk, .int .i64 nn] 65)
    go_enter Try.func11, Try.ntmps11
    have hS0 := fun (w' : World) (hb : Below (w.alloc (.cells #[.int .i64 kk, .int .i64 nn] 65)).heap.size (w.alloc (.cells #[.int .i64 kk, .int .i64 nn] 65)) w') => BX.box2 hb
    have hS2 := fun (w' w'' : World) (h : Box2 (w.alloc (.cells #[.int .i64 kk, .int .i64 nn] 65)) w.heap.size (.int .i64 kk) (.int .i64 nn) w') (hb : Below w'.heap.size w' w'') => BX.box2 (h.2.up hb)
    have hS3 := fun (w' : World) (h : Box2 (w.alloc (.cells #[.int .i64 kk, .int .i64 nn] 65)) w.heap.size (.int .i64 kk) (.int .i64 nn) w') => hto w' (K.up h.2)
    clear hto
    go_wp2_with fail
    go_region_held3 (fun w' => Box2 (w.alloc (.cells #[.int .i64 kk, .int .i64 nn] 65)) w.heap.size (.int .i64 kk) (.int .i64 nn) w')
      (first | exact hS0 _ (Below.refl _ _).drew | (refine hS2 _ _ ?_ hbA; assumption) | (refine hS2 _ _ ?_ hbB; assumption) | (refine hS2 _ _ ?_ hbW; assumption))
      (first
        | (go_simp; go_at_call 19; refine (hS3 _ (by assumption)).mono ?_; rintro e w1 ⟨A1, c1, rfl, h1, hbA⟩)
        | (go_simp; go_at_call 49; refine (l_toMark _ _ _).mono ?_; rintro e w2 ⟨rfl, hbB⟩; replace h1 := h1.below hbB)
        | (go_simp; go_at_call 54; refine (hS _ _ _ _ h1).mono ?_; rintro e wW ⟨AW, cW, rfl, hW, hbW⟩))
    rename_i hHeld
    have kbW := hHeld.2
    have hto := fun w1 hb => l_toB A n c b w w1 h hn hb
    clear hS0 hS2 hS3 hHeld
    replace BX := BX.below kbW BX.lt
    replace K := K.up kbW
    have z_kbW := kbW.size
    have ZB := BX.lt
    have toW0 := hW.to_
    go_wp2_with fail
    refine (hto _ K).mono ?_; rintro e wX ⟨AX, cX, rfl, hX, hbX⟩
    replace hW := hW.below hbX
    replace BX := BX.below hbX BX.lt
    replace K := K.up hbX
    have z_hbX := hbX.size
    have toX := hX.to_
    have frX := hX.from_
    obtain ⟨Q4, -⟩ := BX.box2 (Below.refl _ _)
    go_wp2_with fail
    clear Q4
    refine (l_toMark _ _ _).mono ?_; rintro e w4 ⟨rfl, hb4⟩
    replace hW := hW.below hb4
    replace hX := hX.below hb4
    replace BX := BX.below hb4 BX.lt
    replace K := K.up hb4
    have z_hb4 := hb4.size
    go_wp2_with fail
    refine (hI _ _ _ _ hX).mono ?_; rintro e wG ⟨AG, cG, rfl, hG, hbG⟩
    replace hW := hW.below hbG
    replace hX := hX.below hbG
    replace BX := BX.below hbG BX.lt
    replace K := K.up hbG
    have z_hbG := hbG.size
    have frG := hG.from_
    go_wp2_with fail
    refine (l_eqByteS _ _ _ r _ _ _ r _ _ hG.sl hW.sl).mono ?_; rintro e w5 ⟨rfl, hd5⟩
    have hb5 := hd5.below wG.heap.size
    replace hW := hW.below hb5
    replace hX := hX.below hb5
    replace hG := hG.below hb5
    replace BX := BX.below hb5 BX.lt
    replace K := K.up hb5
    have z_hb5 := hb5.size
    go_wp2_with fail
    refine (hto _ K).mono ?_; rintro e w6 ⟨A6, c6, rfl, h6, hb6⟩
    replace hW := hW.below hb6
    replace hX := hX.below hb6
    replace hG := hG.below hb6
    replace BX := BX.below hb6 BX.lt
    replace K := K.up hb6
    have z_hb6 := hb6.size
    go_wp2_with fail
    refine (l_eqByteS _ _ _ b _ _ _ b _ _ hX.sl h6.sl).mono ?_; rintro e w7 ⟨rfl, hd7⟩
    have hb7 := hd7.below w6.heap.size
    replace hW := hW.below hb7
    replace hX := hX.below hb7
    replace hG := hG.below hb7
    replace h6 := h6.below hb7
    replace BX := BX.below hb7 BX.lt
    replace K := K.up hb7
    have z_hb7 := hb7.size
    clear h6
    have zB : w.heap.size < wW.heap.size := ZB
    go_wp2_with fail
    refine (l_markByteS _ _ _ _ 1 _ _ hX (by omega) (by omega)).mono ?_; rintro e w8 ⟨rfl, hX8, hf8⟩
    have kf8 := hf8.below (B := wW.heap.size) (fun g hg => frX g hg) (by omega)
    have z_8 := kf8.size
    replace BX := BX.below kf8 (by omega)
    replace K := K.trans (kf8.mono (by omega))
    replace hW := hW.fr hf8 (fun g hg hg2 => by have := frX g hg2; have := toW0 g hg; omega)
    replace hG := hG.fr hf8 (fun g hg hg2 => by have := toX g hg2; have := frG g hg; omega)
    clear hX8 hX
    go_wp2_with fail
    refine (l_eqByteS _ _ _ r _ _ _ r _ _ hG.sl hW.sl).mono ?_; rintro e w9 ⟨rfl, hd9⟩
    have hb9 := hd9.below w8.heap.size
    replace hW := hW.below hb9
    replace hG := hG.below hb9
    replace BX := BX.below hb9 BX.lt
    replace K := K.up hb9
    have z_hb9 := hb9.size
    go_wp2_with fail
    refine (l_markByteS _ _ _ _ 1 _ _ hG (by omega) (by omega)).mono ?_; rintro e w10 ⟨rfl, hG10, hf10⟩
    have kf10 := hf10.below (B := wW.heap.size) (fun g hg => by have := frG g hg; omega) (by omega)
    have z_10 := kf10.size
    replace BX := BX.below kf10 (by omega)
    replace K := K.trans (kf10.mono (by omega))
    replace hW := hW.fr hf10 (fun g hg hg2 => by have := frG g hg2; have := toW0 g hg; omega)
    replace hG := hG10
    go_wp2_with fail
    refine (l_heldByteS _ _ _ 1 _ _ hG.sl (by omega) (by omega)).mono ?_; rintro e w11 ⟨rfl, rfl⟩
    have hS0 := fun (w' : World) (hb : Below w10.heap.size w10 w') => BX.box2 hb
    have hS2 := fun (w' w'' : World) (h : Box2 w10 w.heap.size (.int .i64 kk) (.int .i64 nn) w') (hb : Below w'.heap.size w' w'') => BX.box2 (h.2.up hb)
    have hS3 := fun (w' : World) (h : Box2 w10 w.heap.size (.int .i64 kk) (.int .i64 nn) w') => hto w' (K.up h.2)
    clear hto
    go_wp2_with fail
    go_region_held3 (fun w' => Box2 w10 w.heap.size (.int .i64 kk) (.int .i64 nn) w')
      (first | exact hS0 _ (Below.refl _ _).drew | (refine hS2 _ _ ?_ hbA; assumption) | (refine hS2 _ _ ?_ hbB; assumption) | (refine hS2 _ _ ?_ hbH; assumption))
      (first
        | (go_simp; go_at_call 19; refine (hS3 _ (by assumption)).mono ?_; rintro e w1 ⟨A1, c1, rfl, h1, hbA⟩)
        | (go_simp; go_at_call 49; refine (l_toMark _ _ _).mono ?_; rintro e w2 ⟨rfl, hbB⟩; replace h1 := h1.below hbB)
        | (go_simp; go_at_call 55; refine (hI _ _ _ _ h1).mono ?_; rintro e wH ⟨AH, cH, rfl, hH, hbH⟩))
    rename_i hHeld
    have kbH := hHeld.2
    have hto := fun w1 hb => l_toB A n c b w w1 h hn hb
    clear hS0 hS2 hS3 hHeld
    replace hW := hW.below kbH
    replace hG := hG.below kbH
    replace BX := BX.below kbH BX.lt
    replace K := K.up kbH
    have z_kbH := kbH.size
    go_wp2_with fail
    refine (l_eqByteS _ _ _ r _ _ _ r _ _ hH.sl hW.sl).mono ?_; rintro e w14 ⟨rfl, hd14⟩
    have hb14 := hd14.below wH.heap.size
    replace hW := hW.below hb14
    replace hG := hG.below hb14
    replace hH := hH.below hb14
    replace BX := BX.below hb14 BX.lt
    replace K := K.up hb14
    have z_hb14 := hb14.size
    go_wp2_with fail
    refine (l_heldByteS _ _ _ 1 _ _ hG.sl (by omega) (by omega)).mono ?_; rintro e w15 ⟨rfl, rfl⟩
    go_wp2_with fail
    go_ret
    exact ⟨rfl, K⟩
  · go_enter Try.func11, Try.ntmps11
    go_wp2_with fail
    go_ret
    exact ⟨rfl, Below.one _ _⟩
end Go.Proofs.Ytnfokfogmniehaa
namespace Go.Proofs.Ytnfokfogmniehaa
open Go.RowKit
theorem law_SizeMark (kk nn : Int) (w : World) (hkk : -9223372036854775808 ≤ kk ∧ kk ≤ 9223372036854775807) (hnn : -9223372036854775808 ≤ nn ∧ nn ≤ 9223372036854775807) :
    Calls Try.prog 9 #[.agg #[.int .i64 kk, .int .i64 nn]] w fun e' w' => e' = .returned (.bool true) ∧ Below w.heap.size w w' := by
  have BX : Blk (w.alloc (.cells #[.int .i64 kk, .int .i64 nn] 65)) w.heap.size 65 #[.int .i64 kk, .int .i64 nn] := Blk.new w _ _
  have K := Below.one w (.cells #[.int .i64 kk, .int .i64 nn] 65)
  go_enter Try.func9, Try.ntmps9
  go_wp2_with fail
  refine (l_toMark _ _ _).mono ?_; rintro e w1 ⟨rfl, hb1⟩
  replace BX := BX.below hb1 BX.lt
  replace K := K.up hb1
  go_wp2_with fail
  refine (s_SizeMark _ _ _ hnn.2).mono ?_; rintro e w2 ⟨rfl, hb2⟩
  replace BX := BX.below hb2 BX.lt
  replace K := K.up hb2
  obtain ⟨Q, -⟩ := BX.box2 (Below.refl _ _)
  go_wp2_with fail
  clear Q
  refine (l_toMark _ _ _).mono ?_; rintro e w3 ⟨rfl, hb3⟩
  replace K := K.up hb3
  go_wp2_with fail
  refine (i_SizeMark _ _ _ hnn.2).mono ?_; rintro e w4 ⟨rfl, hb4⟩
  replace K := K.up hb4
  go_wp2_with fail
  go_ret
  exact ⟨rfl, K⟩
end Go.Proofs.Ytnfokfogmniehaa
