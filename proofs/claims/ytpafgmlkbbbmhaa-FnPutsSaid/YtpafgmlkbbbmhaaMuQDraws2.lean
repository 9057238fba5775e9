/- Draws of texts: some text, not long. -/
import Derived.Test.YtpafgmlkbbbmhaaMuM24
import Derived.Test.YtpafgmlkbbbmhaaMuM26
import Derived.Test.YtpafgmlkbbbmhaaMuTextOk
import Derived.Test.YtpafgmlkbbbmhaaMuM21
set_option linter.unusedVariables false
set_option maxRecDepth 100000
set_option linter.unusedSimpArgs false
namespace Go.Proofs.Ytpafgmlkbbbmhaa
open Go.RowKit

theorem IS.fr {w w' : World} {lo n c : Nat} {A : Option Addr} {b : List Int} {fp : List Nat} (h : IS w lo A n c b) (hf : Fr fp w w') (hd : ∀ g ∈ blkOf A, g ∉ fp) : IS w' lo A n c b := by
  have h0 := fun g hg => (row_ltI h (g := g) hg).2
  refine ⟨h.1, ?_⟩
  rcases h.2 with h1 | ⟨g, cap, cur, h1, h2, h3, h4⟩
  · exact .inl h1
  · simp only [Value.slice.injEq] at h1
    have hg : g ∈ blkOf A := by rw [h1.1]; simp [blkOf]
    exact .inr ⟨g, cap, cur, by rw [h1.1, h1.2.2], h2, (hf.block g (h0 g hg) (hd g hg)).trans h3, h4⟩
theorem Cur.low {w w' : World} {B g n c lo : Nat} {A : Option Addr} {b : List UInt8} (h : Cur w B g A n c b) (hb : Below lo w w') (hg : g < lo) : Cur w' B g A n c b := by
  obtain ⟨h1, h2, h3, i, x, h4, h5⟩ := h
  exact ⟨h1, h2, h3.below (hb.mono (by omega)), i, x, h4, h5.below hb hg⟩
theorem Fr.onBelow {fp : List Nat} {w w1 w2 : World} (h : Fr fp w w1) (hb : Below w.heap.size w1 w2) : Fr fp w w2 := ⟨hb.os.trans h.os, hb.tape.trans h.tape, hb.output.trans h.output, Nat.le_trans h.size hb.size, fun k hk hn => (hb.block k hk).trans (h.block k hk hn)⟩
theorem s_l2Rune (B g n c : Nat) (A : Option Addr) (b : List UInt8) (w : World) (h : Cur w B g A n c b) :
    Calls Try.prog 43 #[.pointer (some ⟨g, 0, none⟩)] w fun r w' => ∃ x : Int, r = .returned (.int .i64 x) ∧ Cur w' B g A n c b ∧ Fr [g] w w' := by
  go_enter Try.func43, Try.ntmps43
  go_wp2_with fail
  refine (s_l1Int _ _ n c A b (some ⟨w.heap.size, 0, none⟩) 18 18 [0, 97, 98, 34, 92, 10, 127, 128, 233, 2047, 2048, 8364, 55295, 57344, 65535, 65536, 128512, 1114111] _ (h.below (Below.one _ _)) (by exact i64s_lit _ _ [0, 97, 98, 34, 92, 10, 127, 128, 233, 2047, 2048, 8364, 55295, 57344, 65535, 65536, 128512, 1114111] _ rfl (by exact Nat.le_of_ble_eq_true rfl)) (lit_ne h.lt) (by decide)).mono ?_; rintro r w2 ⟨x, rfl, hx, hC2, hf2⟩
  go_wp2_with fail
  go_ret
  exact ⟨x, rfl, hC2, (Fr.of_below (Below.one _ _)).trans hf2⟩
set_option maxHeartbeats 2000000 in
theorem s_l2Text (B g n c : Nat) (A : Option Addr) (b : List UInt8) (w : World) (h : Cur w B g A n c b) :
    Calls Try.prog 30 #[.pointer (some ⟨g, 0, none⟩)] w fun r w' => ∃ s : ByteArray, r = .returned (.string s) ∧ s.size ≤ 100 ∧ Cur w' B g A n c b ∧ Fr [g] w w' := by
  have hgw := h.lt
  go_enter Try.func30, Try.ntmps30
  go_wp2_with fail
  refine (s_l1Once B g n c A b 2 _ h (by decide)).mono ?_; rintro r w1 ⟨x1, rfl, hC1, hf1⟩
  cases x1 with
  | true =>
    go_wp2_with fail
    refine (s_l1Str _ _ n c A b (some ⟨w1.heap.size, 0, none⟩) 9 9 [⟨#[]⟩, ⟨#[97]⟩, ⟨#[98]⟩, ⟨#[107, 101, 121]⟩, ⟨#[120, 32, 121]⟩, ⟨#[49]⟩, ⟨#[195, 169]⟩, ⟨#[34]⟩, ⟨#[92]⟩] _ (hC1.below (Below.one _ _)) (by exact strs_lit _ 0 [⟨#[]⟩, ⟨#[97]⟩, ⟨#[98]⟩, ⟨#[107, 101, 121]⟩, ⟨#[120, 32, 121]⟩, ⟨#[49]⟩, ⟨#[195, 169]⟩, ⟨#[34]⟩, ⟨#[92]⟩] _ rfl (by exact Nat.le_of_ble_eq_true rfl)) (lit_ne hC1.lt) (by decide)).mono ?_; rintro r w2 ⟨s, rfl, hs, hC2, hf2⟩
    go_wp2_with fail
    go_ret
    have hsd : s.size ≤ 100 := by
      simp only [List.mem_cons, List.mem_nil_iff, or_false] at hs
      rcases hs with rfl | rfl | rfl | rfl | rfl | rfl | rfl | rfl | rfl <;> decide
    exact ⟨s, rfl, hsd, hC2, (hf1.trans (Fr.of_below (Below.one _ _))).trans hf2⟩
  | false =>
    have hE : IS (w1.alloc (.cells #[] 3)) w.heap.size (some ⟨w1.heap.size, 0, none⟩) 0 0 [] := own_mono (World.ownsRow_lit w1 #[] 0 (Nat.le_refl _) (by decide) rfl) hf1.size
    have hfE := hf1.trans (Fr.of_below (Below.one w1 (.cells #[] 3)))
    go_wp2_with fail
    refine (s_l1Below B g n c A b 4 _ (hC1.below (Below.one _ _)) (by decide)).mono ?_; rintro r w2 ⟨x, rfl, hx, hC2, hf2⟩
    obtain ⟨hx0, hx1⟩ := hx.2 (by decide)
    obtain ⟨i0, rfl⟩ := Int.eq_ofNat_of_zero_le hx0
    have hI2 := hE.fr hf2 (fun y hy => by have := (row_ltI hE hy).1; simp; omega)
    have hF2 := hfE.trans hf2
    clear hE hfE hf2 hC1 hf1
    go_wp2_with fail
    go_loopg [3, 4] i0 (fun f v3 v4 wr => ∃ (k c' : Nat) (A' : Option Addr) (l : List Int), v4 = .int .i64 f ∧ v3 = .slice A' k c' ∧ k + f ≤ 3 ∧ IS wr w.heap.size A' k c' l ∧ w.heap.size ≤ wr.heap.size ∧ Cur wr B g A n c b ∧ Fr [g] w wr)
    case atStart => exact ⟨0, 0, _, [], rfl, rfl, by omega, hI2, hF2.size, hC2, hF2⟩
    case round =>
      obtain ⟨k, c', A', l, rfl, rfl, hk, hI, hz, hC, hF⟩ := hrel
      clear hI2 hF2 hC2
      cases gk with
      | zero =>
        have hfr := s_FromRunes A' k c' l wr wr.heap.size hI.sl (Nat.le_refl _) (by omega)
        have hll := encAll_len l
        have hlk := hI.len
        go_wp2_with (go_at_call 44; refine hfr.mono ?_; rintro e w3 ⟨rfl, hb3⟩)
        go_ret
        exact ⟨_, rfl, by rw [ba_sz]; omega, hC.below hb3, hF.trans (Fr.of_below hb3)⟩
      | succ f =>
        have hpos : (0 : Int) < ((f + 1 : Nat) : Int) := by omega
        have hru := s_l2Rune B g n c A b wr hC
        go_wp2_with (first
          | (go_at_call 43; refine hru.mono ?_; rintro e w3 ⟨z, rfl, hC3, hf3⟩; have hI3 := hI.fr hf3 (fun y hy => by have := (row_ltI hI hy).1; simp; omega); have hz3 : w.heap.size ≤ w3.heap.size := Nat.le_trans hz hf3.size)
          | (at_builtin; refine app_int rfl _ _ rfl (hI3.below (Below.one w3 _)) rfl (int1 w3 z) rfl (by omega) (by simp; omega) ?_; intro A6 c6 w6 h6 hg6))
        have kb6 : Below w.heap.size w3 w6 := ((Below.refl w.heap.size w3).alloc hz3 (.cells #[.int .i64 z] 3)).trans (hg6.fr.below (B := w.heap.size) (fun y hy => (row_ltI hI3 hy).1) (by simp; omega))
        have hC6 := hC3.low kb6 hgw
        have hF6 : Fr [g] w w6 := (hF.trans hf3).onBelow kb6
        go_roundg f
        case measure => omega
        case rel => exact ⟨k + 1, c6, A6, _, by go_num, rfl, by omega, h6, hF6.size, hC6, hF6⟩
end Go.Proofs.Ytpafgmlkbbbmhaa
