/- Paths: the element that a step leads to; AtPath. -/
import Derived.Test.YtiapkpelgbpfmaaDoorCopy
import Derived.Test.YtiapkpelgbpfmaaDoorSteps
set_option linter.unusedVariables false
set_option maxRecDepth 100000
set_option linter.unusedSimpArgs false
namespace Go.Proofs.YtiapkpelgbpfmaaDoor
open Go.RowKit

/-- Where the element is that a step leads to, or -1. -/
def place (k : Int) (n : Nat) (a : Int) (b : Bool) : Int :=
  if k = 10 then (if b = true then (if 0 ≤ a ∧ 2 * a < n then 2 * a else -1) else (if 0 ≤ a ∧ 2 * a + 1 < n then 2 * a + 1 else -1))
  else if b = false ∧ 0 ≤ a ∧ a < n then a else -1
theorem place_lt (k : Int) (n : Nat) (a : Int) (b : Bool) : place k n a b = -1 ∨ (0 ≤ place k n a b ∧ place k n a b < n) := by
  unfold place; (repeat' split) <;> omega
set_option maxHeartbeats 1600000 in
theorem i_index (a : Int) (b : Bool) (t : Tr) (e : El) (w : World) (hn : e.n ≤ 1152921504606846976) :
    Calls Tryd.prog 62 #[.agg #[.int .i64 a, .bool b], trV t e] w fun r w' => r = .returned (.int .i64 (place t.k e.n a b)) ∧ Below w.heap.size w w' := by
  obtain ⟨k, n, x, s, l⟩ := t
  obtain ⟨eA, en, ec, efp⟩ := e
  simp only at hn ⊢
  have hk := Below.two w (.cells #[.int .i64 a, .bool b] 79) (.cells #[.int .i64 k, .int .i64 n, .int .i64 x, .string s, .slice eA en ec] 36)
  obtain ⟨R, hR⟩ : ∃ R, place k en a b = R := ⟨_, rfl⟩
  rw [hR]
  by_cases hr : 0 ≤ a ∧ a ≤ (en : Int) - 1
  · have hb := inR_yes hr.1 hr.2
    by_cases h10 : k = 10
    · subst h10
      cases b
      · by_cases h2 : 2 * a + 1 < en
        · have HR := Lib.hid (hR.symm.trans (show place 10 en a false = 2 * a + 1 from by unfold place; rw [if_pos rfl, if_neg (by simp), if_pos ⟨hr.1, h2⟩]))
          clear hR
          go_enter Tryd.func62, Tryd.ntmps62
          go_wp2_with (go_at_call 53; refine (i_within _ _ _ _).mono ?_; rintro e w' ⟨rfl, rfl⟩)
          go_ret
          exact ⟨ret_int HR.out.symm, hk⟩
        · have HR := Lib.hid (hR.symm.trans (show place 10 en a false = -1 from by unfold place; rw [if_pos rfl, if_neg (by simp), if_neg (by omega)]))
          clear hR
          go_enter Tryd.func62, Tryd.ntmps62
          go_wp2_with (go_at_call 53; refine (i_within _ _ _ _).mono ?_; rintro e w' ⟨rfl, rfl⟩)
          go_ret
          exact ⟨ret_int HR.out.symm, hk⟩
      · by_cases h2 : 2 * a < en
        · have HR := Lib.hid (hR.symm.trans (show place 10 en a true = 2 * a from by unfold place; rw [if_pos rfl, if_pos rfl, if_pos ⟨hr.1, h2⟩]))
          clear hR
          go_enter Tryd.func62, Tryd.ntmps62
          go_wp2_with (go_at_call 53; refine (i_within _ _ _ _).mono ?_; rintro e w' ⟨rfl, rfl⟩)
          go_ret
          exact ⟨ret_int HR.out.symm, hk⟩
        · have HR := Lib.hid (hR.symm.trans (show place 10 en a true = -1 from by unfold place; rw [if_pos rfl, if_pos rfl, if_neg (by omega)]))
          clear hR
          go_enter Tryd.func62, Tryd.ntmps62
          go_wp2_with (go_at_call 53; refine (i_within _ _ _ _).mono ?_; rintro e w' ⟨rfl, rfl⟩)
          go_ret
          exact ⟨ret_int HR.out.symm, hk⟩
    · have f10 : (k == 10) = false := by simpa using h10
      have g10 : (k != 10) = true := by simpa using h10
      cases b
      · have HR := Lib.hid (hR.symm.trans (show place k en a false = a from by unfold place; rw [if_neg h10, if_pos ⟨rfl, hr.1, by omega⟩]))
        clear hR h10
        go_enter Tryd.func62, Tryd.ntmps62
        go_wp2_with (go_at_call 53; refine (i_within _ _ _ _).mono ?_; rintro e w' ⟨rfl, rfl⟩)
        go_ret
        exact ⟨ret_int HR.out.symm, hk⟩
      · have HR := Lib.hid (hR.symm.trans (show place k en a true = -1 from by unfold place; rw [if_neg h10, if_neg (by simp)]))
        clear hR h10
        go_enter Tryd.func62, Tryd.ntmps62
        go_wp2_with (go_at_call 53; refine (i_within _ _ _ _).mono ?_; rintro e w' ⟨rfl, rfl⟩)
        go_ret
        exact ⟨ret_int HR.out.symm, hk⟩
  · have hb : inR a 0 ((en : Int) - 1) = false := inR_no (by omega)
    have HR := Lib.hid (hR.symm.trans (show place k en a b = -1 from by unfold place; (repeat' split) <;> omega))
    clear hR
    go_enter Tryd.func62, Tryd.ntmps62
    go_wp2_with (go_at_call 53; refine (i_within _ _ _ _).mono ?_; rintro e w' ⟨rfl, rfl⟩)
    go_ret
    exact ⟨ret_int HR.out.symm, hk⟩
set_option maxHeartbeats 1600000 in
theorem s_l8Place (a : Int) (b : Bool) (t : Tr) (e : El) (w : World) (hn : e.n ≤ 1152921504606846976) (ha : -9223372036854775808 ≤ a ∧ a ≤ 9223372036854775807) :
    Calls Tryd.prog 105 #[trV t e, .agg #[.int .i64 a, .bool b]] w fun r w' => r = .returned (.int .i64 (place t.k e.n a b)) ∧ Below w.heap.size w w' := by
  obtain ⟨k, n, x, s, l⟩ := t
  obtain ⟨eA, en, ec, efp⟩ := e
  simp only at hn ⊢
  have hk := Below.two w (.cells #[.int .i64 k, .int .i64 n, .int .i64 x, .string s, .slice eA en ec] 36) (.cells #[.int .i64 a, .bool b] 79)
  obtain ⟨R, hR⟩ : ∃ R, place k en a b = R := ⟨_, rfl⟩
  rw [hR]
  by_cases h10 : k = 10
  · subst h10
    by_cases h1 : a < 0
    · have HR := Lib.hid (hR.symm.trans (show place 10 en a b = -1 from by unfold place; (repeat' split) <;> omega))
      clear hR
      go_enter Tryd.func105, Tryd.ntmps105
      go_wp2_with (go_at_call 96; refine (s_l1In _ _ _ _).mono ?_; rintro e w' ⟨rfl, rfl⟩)
      go_ret
      exact ⟨ret_int HR.out.symm, hk⟩
    by_cases h2 : (en : Int) < a
    · have HR := Lib.hid (hR.symm.trans (show place 10 en a b = -1 from by unfold place; (repeat' split) <;> omega))
      clear hR
      go_enter Tryd.func105, Tryd.ntmps105
      go_wp2_with (go_at_call 96; refine (s_l1In _ _ _ _).mono ?_; rintro e w' ⟨rfl, rfl⟩)
      go_ret
      exact ⟨ret_int HR.out.symm, hk⟩
    cases b
    · by_cases h3 : 2 * a + 1 < en
      · have HR := Lib.hid (hR.symm.trans (show place 10 en a false = 2 * a + 1 from by unfold place; rw [if_pos rfl, if_neg (by simp), if_pos ⟨by omega, h3⟩]))
        have hb : inR (2 * a + 1) 0 ((en : Int) - 1) = true := inR_yes (by omega) (by omega)
        clear hR
        go_enter Tryd.func105, Tryd.ntmps105
        go_wp2_with (go_at_call 96; refine (s_l1In _ _ _ _).mono ?_; rintro e w' ⟨rfl, rfl⟩)
        go_ret
        exact ⟨ret_int HR.out.symm, hk⟩
      · have HR := Lib.hid (hR.symm.trans (show place 10 en a false = -1 from by unfold place; rw [if_pos rfl, if_neg (by simp), if_neg (by omega)]))
        have hb : inR (2 * a + 1) 0 ((en : Int) - 1) = false := inR_no (by omega)
        clear hR
        go_enter Tryd.func105, Tryd.ntmps105
        go_wp2_with (go_at_call 96; refine (s_l1In _ _ _ _).mono ?_; rintro e w' ⟨rfl, rfl⟩)
        go_ret
        exact ⟨ret_int HR.out.symm, hk⟩
    · by_cases h3 : 2 * a < en
      · have HR := Lib.hid (hR.symm.trans (show place 10 en a true = 2 * a from by unfold place; rw [if_pos rfl, if_pos rfl, if_pos ⟨by omega, h3⟩]))
        have hb : inR (2 * a) 0 ((en : Int) - 1) = true := inR_yes (by omega) (by omega)
        clear hR
        go_enter Tryd.func105, Tryd.ntmps105
        go_wp2_with (go_at_call 96; refine (s_l1In _ _ _ _).mono ?_; rintro e w' ⟨rfl, rfl⟩)
        go_ret
        exact ⟨ret_int HR.out.symm, hk⟩
      · have HR := Lib.hid (hR.symm.trans (show place 10 en a true = -1 from by unfold place; rw [if_pos rfl, if_pos rfl, if_neg (by omega)]))
        have hb : inR (2 * a) 0 ((en : Int) - 1) = false := inR_no (by omega)
        clear hR
        go_enter Tryd.func105, Tryd.ntmps105
        go_wp2_with (go_at_call 96; refine (s_l1In _ _ _ _).mono ?_; rintro e w' ⟨rfl, rfl⟩)
        go_ret
        exact ⟨ret_int HR.out.symm, hk⟩
  · have f10 : (k == 10) = false := by simpa using h10
    cases b
    · by_cases hr : 0 ≤ a ∧ a ≤ (en : Int) - 1
      · have HR := Lib.hid (hR.symm.trans (show place k en a false = a from by unfold place; rw [if_neg h10, if_pos ⟨rfl, hr.1, by omega⟩]))
        have hb := inR_yes hr.1 hr.2
        clear hR h10
        go_enter Tryd.func105, Tryd.ntmps105
        go_wp2_with (go_at_call 96; refine (s_l1In _ _ _ _).mono ?_; rintro e w' ⟨rfl, rfl⟩)
        go_ret
        exact ⟨ret_int HR.out.symm, hk⟩
      · have HR := Lib.hid (hR.symm.trans (show place k en a false = -1 from by unfold place; rw [if_neg h10, if_neg (by omega)]))
        have hb : inR a 0 ((en : Int) - 1) = false := inR_no (by omega)
        clear hR h10
        go_enter Tryd.func105, Tryd.ntmps105
        go_wp2_with (go_at_call 96; refine (s_l1In _ _ _ _).mono ?_; rintro e w' ⟨rfl, rfl⟩)
        go_ret
        exact ⟨ret_int HR.out.symm, hk⟩
    · have HR := Lib.hid (hR.symm.trans (show place k en a true = -1 from by unfold place; rw [if_neg h10, if_neg (by simp)]))
      clear hR h10
      go_enter Tryd.func105, Tryd.ntmps105
      go_wp2_with (go_at_call 96; refine (s_l1In _ _ _ _).mono ?_; rintro e w' ⟨rfl, rfl⟩)
      go_ret
      exact ⟨ret_int HR.out.symm, hk⟩
end Go.Proofs.YtiapkpelgbpfmaaDoor
