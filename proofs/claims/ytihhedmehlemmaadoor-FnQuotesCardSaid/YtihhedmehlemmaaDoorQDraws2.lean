/- Draws of texts: some text, not long. -/
import Derived.Test.YtihhedmehlemmaaDoorQDraws
import Derived.Test.YtihhedmehlemmaaDoorBent
import Derived.Test.YtihhedmehlemmaaDoorTextOk
import Derived.Test.YtihhedmehlemmaaDoorQuote
set_option linter.unusedVariables false
set_option maxRecDepth 100000
set_option linter.unusedSimpArgs false
namespace Go.Proofs.YtihhedmehlemmaaDoor
open Go.RowKit

theorem IS.fr {w w' : World} {lo n c : Nat} {A : Option Addr} {b : List Int} {fp : List Nat} (h : IS w lo A n c b) (hf : Fr fp w w') (hd : ∀ g ∈ blkOf A, g ∉ fp) : IS w' lo A n c b := by
  have h0 := fun g hg => (row_ltI h (g := g) hg).2
  refine ⟨h.1, ?_⟩
  rcases h.2 with h1 | ⟨g, cap, cur, h1, h2, h3, h4⟩
  · exact .inl h1
  · simp only [Value.slice.injEq] at h1
    have hg : g ∈ blkOf A := by rw [h1.1]; simp [blkOf]
    exact .inr ⟨g, cap, cur, by rw [h1.1, h1.2.2], h2, (hf.block g (h0 g hg) (hd g hg)).trans h3, h4⟩
theorem Cur.low {w w' : World} {B g n c lo : Nat} {A : Option Addr} {b : List UInt8} (h : Cur w B g A n c b) (hb : Below lo w w') (hg : g < lo) : Cur w' B g A n c b := by
  obtain ⟨h1, h2, h3, i, x, h4, h5⟩ := h
  exact ⟨h1, h2, h3.below (hb.mono (by omega)), i, x, h4, h5.below hb hg⟩
theorem Fr.onBelow {fp : List Nat} {w w1 w2 : World} (h : Fr fp w w1) (hb : Below w.heap.size w1 w2) : Fr fp w w2 := ⟨hb.os.trans h.os, hb.tape.trans h.tape, hb.output.trans h.output, Nat.le_trans h.size hb.size, fun k hk hn => (hb.block k hk).trans (h.block k hk hn)⟩
theorem s_l2Rune (B g n c : Nat) (A : Option Addr) (b : List UInt8) (w : World) (h : Cur w B g A n c b) :
    Calls Tryd.prog 99 #[.pointer (some ⟨g, 0, none⟩)] w fun r w' => ∃ x : Int, r = .returned (.int .i64 x) ∧ Cur w' B g A n c b ∧ Fr [g] w w' := by
  go_enter Tryd.func99, Tryd.ntmps99
  go_wp2_with fail
  refine (s_l1Int _ _ n c A b (some ⟨w.heap.size, 0, none⟩) 18 18 [0, 97, 98, 34, 92, 10, 127, 128, 233, 2047, 2048, 8364, 55295, 57344, 65535, 65536, 128512, 1114111] _ (h.below (Below.one _ _)) (by exact i64s_lit _ _ [0, 97, 98, 34, 92, 10, 127, 128, 233, 2047, 2048, 8364, 55295, 57344, 65535, 65536, 128512, 1114111] _ rfl (by exact Nat.le_of_ble_eq_true rfl)) (lit_ne h.lt) (by decide)).mono ?_; rintro r w2 ⟨x, rfl, hx, hC2, hf2⟩
  go_wp2_with fail
  go_ret
  exact ⟨x, rfl, hC2, (Fr.of_below (Below.one _ _)).trans hf2⟩
set_option maxHeartbeats 2000000 in
theorem s_l2Text (B g n c : Nat) (A : Option Addr) (b : List UInt8) (w : World) (h : Cur w B g A n c b) :
    Calls Tryd.prog 75 #[.pointer (some ⟨g, 0, none⟩)] w fun r w' => ∃ s : ByteArray, r = .returned (.string s) ∧ s.size ≤ 100 ∧ Cur w' B g A n c b ∧ Fr [g] w w' := by
  have hgw := h.lt
  go_enter Tryd.func75, Tryd.ntmps75
  go_wp2_with fail
  refine (s_l1Once B g n c A b 2 _ h (by decide)).mono ?_; rintro r w1 ⟨x1, rfl, hC1, hf1⟩
  cases x1 with
  | true =>
    go_wp2_with fail
    refine (s_l1Str _ _ n c A b (some ⟨w1.heap.size, 0, none⟩) 9 9 [⟨#[]⟩, ⟨#[97]⟩, ⟨#[98]⟩, ⟨#[107, 101, 121]⟩, ⟨#[120, 32, 121]⟩, ⟨#[49]⟩, ⟨#[195, 169]⟩, ⟨#[34]⟩, ⟨#[92]⟩] _ (hC1.below (Below.one _ _)) (by exact strs_lit _ 0 [⟨#[]⟩, ⟨#[97]⟩, ⟨#[98]⟩, ⟨#[107, 101, 121]⟩, ⟨#[120, 32, 121]⟩, ⟨#[49]⟩, ⟨#[195, 169]⟩, ⟨#[34]⟩, ⟨#[92]⟩] _ rfl (by exact Nat.le_of_ble_eq_true rfl)) (lit_ne hC1.lt) (by decide)).mono ?_; rintro r w2 ⟨s, rfl, hs, hC2, hf2⟩
    go_wp2_with fail
    go_ret
    have hsd : s.size ≤ 100 := by
      simp only [List.mem_cons, List.mem_nil_iff, or_false] at hs
      rcases hs with rfl | rfl | rfl | rfl | rfl | rfl | rfl | rfl | rfl <;> decide
    exact ⟨s, rfl, hsd, hC2, (hf1.trans (Fr.of_below (Below.one _ _))).trans hf2⟩
  | false =>
    have hE : IS (w1.alloc (.cells #[] 3)) w.heap.size (some ⟨w1.heap.size, 0, none⟩) 0 0 [] := own_mono (World.ownsRow_lit w1 #[] 0 (Nat.le_refl _) (by decide) rfl) hf1.size
    have hfE := hf1.trans (Fr.of_below (Below.one w1 (.cells #[] 3)))
    go_wp2_with fail
    refine (s_l1Below B g n c A b 4 _ (hC1.below (Below.one _ _)) (by decide)).mono ?_; rintro r w2 ⟨x, rfl, hx, hC2, hf2⟩
    obtain ⟨hx0, hx1⟩ := hx.2 (by decide)
    obtain ⟨i0, rfl⟩ := Int.eq_ofNat_of_zero_le hx0
    have hI2 := hE.fr hf2 (fun y hy => by have := (row_ltI hE hy).1; simp; omega)
    have hF2 := hfE.trans hf2
    clear hE hfE hf2 hC1 hf1
    go_wp2_with fail
    go_loopg [3, 4] i0 (fun f v3 v4 wr => ∃ (k c' : Nat) (A' : Option Addr) (l : List Int), v4 = .int .i64 f ∧ v3 = .slice A' k c' ∧ k + f ≤ 3 ∧ IS wr w.heap.size A' k c' l ∧ w.heap.size ≤ wr.heap.size ∧ Cur wr B g A n c b ∧ Fr [g] w wr)
    case atStart => exact ⟨0, 0, _, [], rfl, rfl, by omega, hI2, hF2.size, hC2, hF2⟩
    case round =>
      obtain ⟨k, c', A', l, rfl, rfl, hk, hI, hz, hC, hF⟩ := hrel
      clear hI2 hF2 hC2
      cases gk with
      | zero =>
        have hfr := s_FromRunes A' k c' l wr wr.heap.size hI.sl (Nat.le_refl _) (by omega)
        have hll := encAll_len l
        have hlk := hI.len
        go_wp2_with (go_at_call 57; refine hfr.mono ?_; rintro e w3 ⟨rfl, hb3⟩)
        go_ret
        exact ⟨_, rfl, by rw [ba_sz]; omega, hC.below hb3, hF.trans (Fr.of_below hb3)⟩
      | succ f =>
        have hpos : (0 : Int) < ((f + 1 : Nat) : Int) := by omega
        have hru := s_l2Rune B g n c A b wr hC
        go_wp2_with (first
          | (go_at_call 99; refine hru.mono ?_; rintro e w3 ⟨z, rfl, hC3, hf3⟩; have hI3 := hI.fr hf3 (fun y hy => by have := (row_ltI hI hy).1; simp; omega); have hz3 : w.heap.size ≤ w3.heap.size := Nat.le_trans hz hf3.size)
          | (at_builtin; refine app_int rfl _ _ rfl (hI3.below (Below.one w3 _)) rfl (int1 w3 z) rfl (by omega) (by simp; omega) ?_; intro A6 c6 w6 h6 hg6))
        have kb6 : Below w.heap.size w3 w6 := ((Below.refl w.heap.size w3).alloc hz3 (.cells #[.int .i64 z] 3)).trans (hg6.fr.below (B := w.heap.size) (fun y hy => (row_ltI hI3 hy).1) (by simp; omega))
        have hC6 := hC3.low kb6 hgw
        have hF6 : Fr [g] w w6 := (hF.trans hf3).onBelow kb6
        go_roundg f
        case measure => omega
        case rel => exact ⟨k + 1, c6, A6, _, by go_num, rfl, by omega, h6, hF6.size, hC6, hF6⟩
set_option maxHeartbeats 1000000 in
theorem s_l2Str (B g n c : Nat) (A : Option Addr) (b : List UInt8) (w : World) (h : Cur w B g A n c b) :
    Calls Tryd.prog 48 #[.pointer (some ⟨g, 0, none⟩)] w fun r w' => ∃ s : ByteArray, r = .returned (.string s) ∧ s.size ≤ 101 ∧ Cur w' B g A n c b ∧ Fr [g] w w' := by
  go_enter Tryd.func48, Tryd.ntmps48
  go_wp2_with fail
  refine (s_l1Once B g n c A b 5 _ h (by decide)).mono ?_; rintro r w1 ⟨x1, rfl, hC1, hf1⟩
  have ht := s_l2Text B g n c A b w1 hC1
  cases x1 with
  | false =>
    go_wp2_with (go_at_call 75; refine ht.mono ?_; rintro e w2 ⟨s, rfl, hs, hC2, hf2⟩)
    go_ret
    exact ⟨s, rfl, by omega, hC2, hf1.trans hf2⟩
  | true =>
    go_wp2_with (first
      | (go_at_call 75; refine ht.mono ?_; rintro e w2 ⟨s, rfl, hs, hC2, hf2⟩; obtain ⟨cb, w3, hrun, hsl, hb3, _⟩ := run_bytes_of s w2 (by omega)))
    refine (s_l1Bent B g n c A b _ _ _ _ w3 (hC2.below hb3) hsl (by omega)).mono ?_; rintro e w4 ⟨A4, k4, c4, l4, rfl, h4, _, hk4, hC4, hf4⟩
    have hcv := run_str_sl (P := Tryd.prog) 22 5 Tryd.underlying22 Tryd.underlying5 h4 9 Tryd.underlying9
    have hl4 := h4.blen
    clear hrun hsl
    go_wp2_with fail
    go_ret
    exact ⟨_, rfl, by rw [ba_sz]; omega, hC4, ((hf1.trans hf2).trans (Fr.of_below hb3)).trans hf4⟩
set_option maxHeartbeats 1000000 in
theorem s_l9Quoted (B g n c : Nat) (A : Option Addr) (b : List UInt8) (w : World) (h : Cur w B g A n c b) :
    Calls Tryd.prog 50 #[.pointer (some ⟨g, 0, none⟩)] w fun r w' => ∃ s : ByteArray, r = .returned (.string s) ∧ s.size ≤ 1000 ∧ Cur w' B g A n c b ∧ Fr [g] w w' := by
  go_enter Tryd.func50, Tryd.ntmps50
  go_wp2_with fail
  refine (s_l1Once B g n c A b 2 _ h (by decide)).mono ?_; rintro r w1 ⟨x1, rfl, hC1, hf1⟩
  have ht := s_l2Text B g n c A b w1 hC1
  cases x1 with
  | false =>
    go_wp2_with (first
      | (go_at_call 75; refine ht.mono ?_; rintro e w2 ⟨s, rfl, hs, hC2, hf2⟩; have hq := quoteL_len s.data.toList; rw [blen_of] at hq; have hqs := s_Quote s w2 (by omega))
      | (go_at_call 30; refine hqs.mono ?_; rintro e w3 ⟨rfl, hb3⟩))
    go_ret
    exact ⟨_, rfl, by rw [ba_sz]; omega, hC2.below hb3, (hf1.trans hf2).trans (Fr.of_below hb3)⟩
  | true =>
    go_wp2_with fail
    refine (s_l1Str _ _ n c A b (some ⟨w1.heap.size, 0, none⟩) 14 14 [⟨#[34, 34]⟩, ⟨#[34, 97, 34]⟩, ⟨#[34, 92, 117, 48, 48, 101, 57, 34]⟩, ⟨#[34, 92, 117, 100, 56, 51, 100, 92, 117, 100, 101, 48, 48, 34]⟩, ⟨#[34, 92, 117, 68, 56, 51, 68, 34]⟩, ⟨#[34, 92, 117, 68, 69, 48, 48, 34]⟩, ⟨#[34, 92, 117, 100, 56, 51, 100, 92, 117, 48, 48, 52, 49, 34]⟩, ⟨#[34, 92, 47, 92, 98, 92, 116, 92, 110, 92, 102, 92, 114, 34]⟩, ⟨#[34, 92, 120, 34]⟩, ⟨#[34, 92, 117, 49, 50, 34]⟩, ⟨#[34, 10, 34]⟩, ⟨#[34, 97]⟩, ⟨#[34, 92, 117, 48, 48, 48, 65, 34]⟩, ⟨#[34, 92, 34]⟩] _ (hC1.below (Below.one _ _)) (by exact strs_lit _ 0 [⟨#[34, 34]⟩, ⟨#[34, 97, 34]⟩, ⟨#[34, 92, 117, 48, 48, 101, 57, 34]⟩, ⟨#[34, 92, 117, 100, 56, 51, 100, 92, 117, 100, 101, 48, 48, 34]⟩, ⟨#[34, 92, 117, 68, 56, 51, 68, 34]⟩, ⟨#[34, 92, 117, 68, 69, 48, 48, 34]⟩, ⟨#[34, 92, 117, 100, 56, 51, 100, 92, 117, 48, 48, 52, 49, 34]⟩, ⟨#[34, 92, 47, 92, 98, 92, 116, 92, 110, 92, 102, 92, 114, 34]⟩, ⟨#[34, 92, 120, 34]⟩, ⟨#[34, 92, 117, 49, 50, 34]⟩, ⟨#[34, 10, 34]⟩, ⟨#[34, 97]⟩, ⟨#[34, 92, 117, 48, 48, 48, 65, 34]⟩, ⟨#[34, 92, 34]⟩] _ rfl (by exact Nat.le_of_ble_eq_true rfl)) (lit_ne hC1.lt) (by decide)).mono ?_; rintro r w2 ⟨s, rfl, hs, hC2, hf2⟩
    go_wp2_with fail
    go_ret
    have hsd : s.size ≤ 1000 := by
      simp only [List.mem_cons, List.mem_nil_iff, or_false] at hs
      rcases hs with rfl | rfl | rfl | rfl | rfl | rfl | rfl | rfl | rfl | rfl | rfl | rfl | rfl | rfl <;> decide
    exact ⟨s, rfl, hsd, hC2, (hf1.trans (Fr.of_below (Below.one _ _))).trans hf2⟩
theorem s_DrawQuote (A : Option Addr) (n c : Nat) (b : List UInt8) (w : World) (h : Sl w w.heap.size 1 A n c (u8s b)) (hn : n ≤ 1048576) :
    Calls Tryd.prog 24 #[.slice A n c] w fun r w' => ∃ s : ByteArray, r = .returned (.string s) ∧ s.size ≤ 1048576 ∧ Below w.heap.size w w' := by
  go_enter Tryd.func24, Tryd.ntmps24
  go_wp2_with fail
  refine (s_l1New A n c b _ h hn).mono ?_; rintro r w1 ⟨rfl, hC, hb1⟩
  go_wp2_with fail
  refine (s_l2Str _ _ n c A b _ hC).mono ?_; rintro r w2 ⟨s, rfl, hs, hC2, hf2⟩
  go_wp2_with fail
  go_ret
  exact ⟨s, rfl, by omega, hb1.trans (frLow hf2 (Nat.le_refl _) hb1.size)⟩
theorem s_DrawBare (A : Option Addr) (n c : Nat) (b : List UInt8) (w : World) (h : Sl w w.heap.size 1 A n c (u8s b)) (hn : n ≤ 1048576) :
    Calls Tryd.prog 29 #[.slice A n c] w fun r w' => ∃ s : ByteArray, r = .returned (.string s) ∧ s.size ≤ 1048576 ∧ Below w.heap.size w w' := by
  go_enter Tryd.func29, Tryd.ntmps29
  go_wp2_with fail
  refine (s_l1New A n c b _ h hn).mono ?_; rintro r w1 ⟨rfl, hC, hb1⟩
  go_wp2_with fail
  refine (s_l2Str _ _ n c A b _ hC).mono ?_; rintro r w2 ⟨s, rfl, hs, hC2, hf2⟩
  go_wp2_with fail
  go_ret
  exact ⟨s, rfl, by omega, hb1.trans (frLow hf2 (Nat.le_refl _) hb1.size)⟩
set_option maxHeartbeats 2000000 in
theorem s_DrawReadQuoted (A : Option Addr) (n c : Nat) (b : List UInt8) (w : World) (h : Sl w w.heap.size 1 A n c (u8s b)) (hn : n ≤ 1048576) :
    Calls Tryd.prog 26 #[.slice A n c] w fun r w' => ∃ (s : ByteArray) (x : Int), r = .returned (.tuple #[.string s, .int .i64 x]) ∧ s.size ≤ 1048576 ∧ (-1 ≤ x ∧ x ≤ 99) ∧ Below w.heap.size w w' := by
  go_enter Tryd.func26, Tryd.ntmps26
  go_wp2_with fail
  refine (s_l1New A n c b _ h hn).mono ?_; rintro r w1 ⟨rfl, hC, hb1⟩
  go_wp2_with fail
  refine (s_l9Quoted _ _ n c A b _ hC).mono ?_; rintro r w2 ⟨s0, rfl, hs0, hC2, hf2⟩
  have k2 := hb1.trans (frLow hf2 (Nat.le_refl _) hb1.size)
  go_wp2_with fail
  refine (s_l1Once _ _ n c A b 4 _ hC2 (by decide)).mono ?_; rintro r w3 ⟨x3, rfl, hC3, hf3⟩
  have k3 := k2.trans (frLow hf3 (Nat.le_refl _) k2.size)
  clear hf2 hf3 hC hC2 hb1 k2
  have hbd : ∀ x ∈ ([0, 0, 0, 0, 1, -1, 99] : List Int), -1 ≤ x ∧ x ≤ 99 := by decide
  cases x3 with
  | false =>
    obtain ⟨s5, hs5e⟩ : ∃ s5, s0 = s5 := ⟨_, rfl⟩
    have hs5 : s5.size ≤ 1001 := by rw [← hs5e]; omega
    have hC5 := hC3
    have k5 := k3
    subst hs5e
    go_wp2_with fail
    refine (s_l1Once _ _ n c A b 3 _ hC5 (by decide)).mono ?_; rintro r w6 ⟨x6, rfl, hC6, hf6⟩
    have k6 := k5.trans (frLow hf6 (Nat.le_refl _) k5.size)
    clear hf6 hC5 k5
    cases x6 with
    | true =>
      go_wp2_with fail
      go_ret2
      exact ⟨_, 2, rfl, by simp only [ByteArray.size_append]; show 2 + s0.size + 1 ≤ _; omega, by decide, k6⟩
    | false =>
      go_wp2_with fail
      refine (s_l1Int _ _ n c A b (some ⟨w6.heap.size, 0, none⟩) 7 7 [0, 0, 0, 0, 1, -1, 99] _ (hC6.below (Below.one _ _)) (by exact i64s_lit _ _ [0, 0, 0, 0, 1, -1, 99] _ rfl (by exact Nat.le_of_ble_eq_true rfl)) (lit_ne hC6.lt) (by decide)).mono ?_; rintro r w7 ⟨x, rfl, hx, hC7, hf7⟩
      go_wp2_with fail
      go_ret2
      exact ⟨s0, x, rfl, by omega, hbd x hx, (k6.up (Below.one _ _)).trans (frLow hf7 (Nat.le_refl _) (k6.up (Below.one _ _)).size)⟩
  | true =>
    obtain ⟨cb, w4, hrun, hsl, hb4, _⟩ := run_bytes_of s0 w3 (by omega)
    go_wp2_with fail
    refine (s_l1Bent _ _ n c A b _ _ _ _ w4 (hC3.below hb4) hsl (by omega)).mono ?_; rintro e w5 ⟨A5, m5, c5, l5, rfl, h5, _, hk5, hC5, hf5⟩
    have hcv := run_str_sl (P := Tryd.prog) 22 5 Tryd.underlying22 Tryd.underlying5 h5 9 Tryd.underlying9
    have hl5 := h5.blen
    have k5 := (k3.up hb4).trans (frLow hf5 (Nat.le_refl _) (k3.up hb4).size)
    clear hrun hsl hf5 hb4 k3 hC3
    go_wp2_with fail
    obtain ⟨s5, hs5e⟩ : ∃ s5 : ByteArray, ⟨l5.toArray⟩ = s5 := ⟨_, rfl⟩
    have hs5 : s5.size ≤ 1001 := by rw [← hs5e, ba_sz]; omega
    rw [hs5e]
    clear hs5e hcv h5
    refine (s_l1Once _ _ n c A b 3 _ hC5 (by decide)).mono ?_; rintro r w6 ⟨x6, rfl, hC6, hf6⟩
    have k6 := k5.trans (frLow hf6 (Nat.le_refl _) k5.size)
    clear hf6 hC5 k5
    cases x6 with
    | true =>
      go_wp2_with fail
      go_ret2
      exact ⟨_, 2, rfl, by simp only [ByteArray.size_append]; show 2 + s5.size + 1 ≤ _; omega, by decide, k6⟩
    | false =>
      go_wp2_with fail
      refine (s_l1Int _ _ n c A b (some ⟨w6.heap.size, 0, none⟩) 7 7 [0, 0, 0, 0, 1, -1, 99] _ (hC6.below (Below.one _ _)) (by exact i64s_lit _ _ [0, 0, 0, 0, 1, -1, 99] _ rfl (by exact Nat.le_of_ble_eq_true rfl)) (lit_ne hC6.lt) (by decide)).mono ?_; rintro r w7 ⟨x, rfl, hx, hC7, hf7⟩
      go_wp2_with fail
      go_ret2
      exact ⟨s5, x, rfl, by omega, hbd x hx, (k6.up (Below.one _ _)).trans (frLow hf7 (Nat.le_refl _) (k6.up (Below.one _ _)).size)⟩
end Go.Proofs.YtihhedmehlemmaaDoor
