/- Reformat: both sides, and the law. Written by gen/tokens.py. -/
import Derived.Test.YtgddnpglgakkdaaGreatDoorTokens
import Derived.Test.YtgddnpglgakkdaaGreatDoorJoin
set_option linter.unusedVariables false
set_option maxRecDepth 100000
set_option linter.unusedSimpArgs false
namespace Go.Proofs.YtgddnpglgakkdaaGreatDoor
open Go.RowKit

/-- A text with its tokens joined, and the code. -/
def reform (l : List UInt8) : List UInt8 × Int := if (toksL l).2 = 0 then (joinT (toksL l).1, 0) else ([], (toksL l).2)
theorem toksG_nil (l : List UInt8) : ∀ (f p : Nat) (acc : List Tk), ¬ (toksG l f p acc).2 = 0 → (toksG l f p acc).1 = []
  | 0, _, _, _ => rfl
  | f + 1, p, acc, h => by
    obtain ⟨⟨t, q, c⟩, hr⟩ : ∃ r, tokP l p = r := ⟨_, rfl⟩
    by_cases hc : c = 0
    · subst hc
      by_cases hk : t.k = 0
      · rw [toksG_end hr hk] at h; exact absurd rfl h
      · rw [toksG_step hr hk] at h ⊢; exact toksG_nil l f _ _ h
    · rw [toksG_bad hr hc]
theorem reform_eq (l : List UInt8) : reform l = (joinT (toksL l).1, (toksL l).2) := by
  unfold reform
  by_cases h : (toksL l).2 = 0
  · rw [if_pos h, h]
  · rw [if_neg h, show (toksL l).1 = [] from toksG_nil l _ _ _ h]; rfl
set_option maxHeartbeats 1000000 in
theorem i_Reformat (s : ByteArray) (w : World) (hs : s.size ≤ 4194304) (hT : Lib.Utf8Tabs 1 2 w) (hC : Lib.CaseVar 6 Lib.caseA w) (hE : ErrT w) (hP : PowT w) :
    Calls Tryz.prog 8 #[.string s] w fun e w' => e = .returned (.tuple #[.string ⟨(reform s.data.toList).1.toArray⟩, .int .i64 (reform s.data.toList).2]) ∧ Below w.heap.size w w' := by
  rw [reform_eq]
  have hI := i_Tokens s w (by omega) hT hC hE
  have hO := toksL_ok (l := s.data.toList) (by rw [blen_of]; omega)
  rw [blen_of] at hO
  unfold TokensAt at hI
  obtain ⟨⟨T, co⟩, hr⟩ : ∃ r, toksL s.data.toList = r := ⟨_, rfl⟩
  rw [hr] at hI hO ⊢
  simp only [] at hI hO ⊢
  obtain ⟨hwf, hsz, _⟩ := hO
  clear hr
  have hJ := fun A n c w1 (h : KS w1 w.heap.size A n c T) (hb : Below w.heap.size w w1) => i_JoinTokens A n c T w1 _ h.sl (Nat.le_refl _) hwf (by omega) (Utf8Tabs_below hT hb) (hP.below hb)
  generalize (joinT T) = J at hJ ⊢
  go_enter Tryz.func8, Tryz.ntmps8
  go_wp2_with fail
  refine hI.mono ?_; rintro e w1 ⟨A1, n1, c1, rfl, h1, hb1⟩
  go_wp2_with fail
  refine (hJ _ _ _ _ h1 hb1).mono ?_; rintro e w2 ⟨rfl, hb2⟩
  go_wp2_with fail
  go_ret2
  exact ⟨rfl, hb1.up hb2⟩
set_option maxHeartbeats 1000000 in
theorem s_Reformat (s : ByteArray) (w : World) (hs : s.size ≤ 4194304) :
    Calls Tryz.prog 7 #[.string s] w fun e w' => e = .returned (.tuple #[.string ⟨(reform s.data.toList).1.toArray⟩, .int .i64 (reform s.data.toList).2]) ∧ Below w.heap.size w w' := by
  unfold reform
  have hI := s_Tokens s w (by omega)
  have hO := toksL_ok (l := s.data.toList) (by rw [blen_of]; omega)
  rw [blen_of] at hO
  unfold TokensAt at hI
  obtain ⟨⟨T, co⟩, hr⟩ : ∃ r, toksL s.data.toList = r := ⟨_, rfl⟩
  rw [hr] at hI hO ⊢
  simp only [] at hI hO ⊢
  obtain ⟨hwf, hsz, _⟩ := hO
  clear hr
  have hJ := fun A n c w1 (h : KS w1 w.heap.size A n c T) => s_JoinTokens A n c T w1 _ h.sl (Nat.le_refl _) hwf (by omega)
  generalize (joinT T) = J at hJ ⊢
  by_cases hc : co = 0
  · subst hc
    rw [if_pos rfl]
    go_enter Tryz.func7, Tryz.ntmps7
    go_wp2_with fail
    refine hI.mono ?_; rintro e w1 ⟨A1, n1, c1, rfl, h1, hb1⟩
    go_wp2_with fail
    refine (hJ _ _ _ _ h1).mono ?_; rintro e w2 ⟨rfl, hb2⟩
    go_wp2_with fail
    go_ret2
    exact ⟨rfl, hb1.up hb2⟩
  · rw [if_neg hc]
    have hcz : (co == 0) = false := by simpa using hc
    have hcn : (co != 0) = true := by simp only [bne, hcz]; rfl
    go_enter Tryz.func7, Tryz.ntmps7
    go_wp2_with fail
    refine hI.mono ?_; rintro e w1 ⟨A1, n1, c1, rfl, h1, hb1⟩
    go_wp2_with fail
    go_ret2
    exact ⟨rfl, hb1⟩
set_option maxHeartbeats 1000000 in
theorem law_Reformat (s : ByteArray) (w : World) (hs : s.size ≤ maxLen) (hT : Lib.Utf8Tabs 1 2 w) (hC : Lib.CaseVar 6 Lib.caseA w) (hE : ErrT w) (hP : PowT w) :
    Calls Tryz.prog 3 #[.string s] w fun e w' => e = .returned (.bool true) ∧ Below w.heap.size w w' := by
  by_cases hb : (s.size : Int) > 1048576
  · go_enter Tryz.func3, Tryz.ntmps3
    go_wp2_with fail
    go_ret
    exact ⟨rfl, Below.refl _ _⟩
  have hS := s_Reformat s w (by omega)
  have hI := fun w1 (hb : Below w.heap.size w w1) => i_Reformat s w1 (by omega) (Utf8Tabs_below hT hb) (Lib.CaseVar_below hC hb) (hE.below hb) (hP.below hb)
  obtain ⟨⟨J, co⟩, hr⟩ : ∃ r, reform s.data.toList = r := ⟨_, rfl⟩
  rw [hr] at hS hI
  simp only [] at hS hI
  clear hr hs
  go_enter Tryz.func3, Tryz.ntmps3
  go_wp2_with fail
  refine hS.mono ?_; rintro e w1 ⟨rfl, hb1⟩
  go_wp2_with fail
  refine (hI _ hb1).mono ?_; rintro e w2 ⟨rfl, hb2⟩
  go_wp2_with fail
  all_goals
    go_ret
    exact ⟨by simp, hb1.up hb2⟩
end Go.Proofs.YtgddnpglgakkdaaGreatDoor
