/- The law FnExactTokens. Written by gen/tokens.py. -/
import Derived.Test.YtgddnpglgakkdaaGreatDoorTokens
import Derived.Test.YtgddnpglgakkdaaGreatDoorHeldTok
set_option linter.unusedVariables false
set_option maxRecDepth 100000
set_option linter.unusedSimpArgs false
namespace Go.Proofs.YtgddnpglgakkdaaGreatDoor
open Go.RowKit

theorem KS.frT {w w' : World} {lo n c : Nat} {A : Option Addr} {l : List Tk} {fp : List Nat} (h : KS w lo A n c l) (hf : Fr fp w w') (hn : ∀ g ∈ blkOf A, g ∉ fp) : KS w' lo A n c l := by
  have hlt := h.fromT
  refine ⟨h.1, ?_⟩
  rcases h.2 with h1 | ⟨g, cap, cur, h1, h2, h3, h4⟩
  · exact .inl h1
  · simp only [Value.slice.injEq] at h1
    have hg : g ∈ blkOf A := by rw [h1.1]; simp [blkOf]
    exact .inr ⟨g, cap, cur, by rw [h1.1, h1.2.2], h2, (hf.block g (hlt g hg).2 (hn g hg)).trans h3, h4⟩
set_option maxHeartbeats 2000000 in
theorem law_Tokens (s : ByteArray) (w : World) (hs : s.size ≤ maxLen) (hT : Lib.Utf8Tabs 1 2 w) (hC : Lib.CaseVar 6 Lib.caseA w) (hE : ErrT w) :
    Calls Tryz.prog 6 #[.string s] w fun e w' => e = .returned (.bool true) ∧ Below w.heap.size w w' := by
  by_cases hb : (s.size : Int) > 1048576
  · go_enter Tryz.func6, Tryz.ntmps6
    go_wp2_with fail
    go_ret
    exact ⟨rfl, Below.refl _ _⟩
  have hS := fun w1 => s_Tokens s w1 (by omega)
  have hI := fun w1 (hb : Below w.heap.size w w1) => i_Tokens s w1 (by omega) (Utf8Tabs_below hT hb) (Lib.CaseVar_below hC hb) (hE.below hb)
  have hlen := toksL_len (l := s.data.toList) (by rw [blen_of]; omega)
  unfold TokensAt at hS hI
  obtain ⟨⟨T, co⟩, hr⟩ : ∃ r, toksL s.data.toList = r := ⟨_, rfl⟩
  rw [hr] at hS hI hlen
  rw [blen_of] at hlen
  simp only [] at hS hI hlen
  clear hr hs
  go_enter Tryz.func6, Tryz.ntmps6
  go_wp2_with fail
  refine (hS _).mono ?_; rintro e w1 ⟨A1, n1, c1, rfl, h1, hb1⟩
  go_wp2_with fail
  refine (hI _ hb1).mono ?_; rintro e w2 ⟨A2, n2, c2, rfl, h2, hb2⟩
  have lo2 := fun g hg => (h2.fromT g hg).1
  have hi1 := fun g hg => (h1.fromT g hg).2
  have e2 := h2.lenT
  replace h1 := h1.belowT hb2
  have K2 := hb1.up hb2
  go_wp2_with fail
  refine (l_eqTokenS T _ _ _ _ _ _ _ h2.sl h1.sl).mono ?_; rintro e w3 ⟨rfl, hb3⟩
  replace h1 := h1.belowT hb3
  replace h2 := h2.belowT hb3
  have K3 := K2.up hb3
  go_wp2_with fail
  refine (l_markToks A2 n2 c2 T 1 _ _ h2 (by omega) (Nat.le_refl _) (by decide)).mono ?_; rintro e w4 ⟨rfl, h4, hf4⟩
  have n12 : ∀ g ∈ blkOf A1, g ∉ blkOf A2 := fun g hg h5 => by have := hi1 g hg; have := lo2 g h5; omega
  replace h1 := h1.frT hf4 n12
  have z1 := hb1.size
  have K4 := K3.trans (hf4.below (B := w.heap.size) (fun g hg => by have := lo2 g hg; omega) K3.size)
  clear h2 hf4
  go_wp2_with fail
  refine (l_heldToks A2 n2 c2 1 _ h4.sl (by omega) (Nat.le_refl _) (by decide)).mono ?_; rintro e w5 ⟨rfl, hb5⟩
  replace h1 := h1.belowT hb5
  replace h4 := h4.belowT hb5
  have K5 := K4.up hb5
  have hng : ¬ ((1 + 4 * n2 : Nat) : Int) < 0 := by omega
  go_wp2_with fail
  refine (hI _ K5).mono ?_; rintro e w6 ⟨A3, n3, c3, rfl, h3, hb6⟩
  replace h1 := h1.belowT hb6
  replace h4 := h4.belowT hb6
  have K6 := K5.up hb6
  go_wp2_with fail
  refine (l_eqTokenS T _ _ _ _ _ _ _ h3.sl h1.sl).mono ?_; rintro e w7 ⟨rfl, hb7⟩
  replace h4 := h4.belowT hb7
  have K7 := K6.up hb7
  go_wp2_with fail
  refine (l_heldToks A2 n2 c2 1 _ h4.sl (by omega) (Nat.le_refl _) (by decide)).mono ?_; rintro e w8 ⟨rfl, hb8⟩
  go_wp2_with fail
  go_ret
  exact ⟨rfl, K7.up hb8⟩
end Go.Proofs.YtgddnpglgakkdaaGreatDoor
