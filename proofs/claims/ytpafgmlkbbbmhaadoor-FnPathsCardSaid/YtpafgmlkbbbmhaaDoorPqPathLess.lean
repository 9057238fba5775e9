/- LessPath, both sides; samePath, samePaths. Written by gen/pathless.py. -/
import Derived.Test.YtpafgmlkbbbmhaaDoorPqM15
import Derived.Test.YtpafgmlkbbbmhaaDoorPqPathsM
import Derived.Deep.LoopGhost
import Derived.Deep.QuietTactic
import Derived.BigQuiet
set_option linter.unusedVariables false
set_option maxRecDepth 100000
set_option linter.unusedSimpArgs false
namespace Go.Proofs.YtpafgmlkbbbmhaaDoor
open Go.RowKit

theorem lessP_step {a b : Pth} {j : Nat} (h1 : j < a.length) (h2 : j < b.length) : lessP (a.drop j) (b.drop j) = if a[j] = b[j] then lessP (a.drop (j + 1)) (b.drop (j + 1)) else lessS a[j] b[j] := by
  rw [List.drop_eq_getElem_cons h1, List.drop_eq_getElem_cons h2]
  rfl
theorem lessP_end {a b : Pth} {j : Nat} (h : j = min a.length b.length) : lessP (a.drop j) (b.drop j) = decide (a.length < b.length) := by
  by_cases h1 : a.length < b.length
  · have hj : j = a.length := by omega
    subst hj
    rw [List.drop_eq_nil_of_le (Nat.le_refl _), List.drop_eq_getElem_cons h1, decide_eq_true h1]
    rfl
  · have hj : j = b.length := by omega
    subst hj
    rw [show b.drop b.length = [] from List.drop_eq_nil_of_le (Nat.le_refl _), decide_eq_false h1]
    cases a.drop b.length <;> rfl
set_option maxHeartbeats 2000000 in
theorem i_LessPath (a b : Pth) (A1 : Option Addr) (n1 c1 : Nat) (A2 : Option Addr) (n2 c2 : Nat) (w : World) (h1 : Sl w w.heap.size 2 A1 n1 c1 (stC a)) (h2 : Sl w w.heap.size 2 A2 n2 c2 (stC b)) :
    Calls Tryd.prog 18 #[.slice A1 n1 c1, .slice A2 n2 c2] w fun r w' => r = .returned (.bool (lessP a b)) ∧ Below w.heap.size w w' := by
  have e1 := h1.stlen
  have e2 := h2.stlen
  have hc1 : n1 ≤ 9223372036854775807 := by have := h1.cap; have := h1.max; unfold maxLen at *; omega
  have hc2 : n2 ≤ 9223372036854775807 := by have := h2.cap; have := h2.max; unfold maxLen at *; omega
  obtain ⟨R, hR⟩ : ∃ R, lessP a b = R := ⟨_, rfl⟩
  rw [hR]
  have HR : Hid (R = lessP (a.drop 0) (b.drop 0)) := Lib.hid (by rw [List.drop_zero, List.drop_zero]; exact hR.symm)
  clear hR
  by_cases hle : n1 ≤ n2
  · obtain ⟨M, hM⟩ : ∃ M, M = n1 := ⟨_, rfl⟩
    have HM : Hid (M = min n1 n2) := Lib.hid (by omega)
    have hx1 : (n1 : Int) ≤ (n2 : Int) := by omega
    have hx2 : ¬ (n2 : Int) < (n1 : Int) := by omega
    go_enter Tryd.func18, Tryd.ntmps18
    go_wp2_with fail
    clear hM hx1 hx2
    go_loopg [11] M (fun f i wr => ∃ j : Nat, j + f = M ∧ i = .int .i64 j ∧ Hid (R = lessP (a.drop j) (b.drop j)) ∧ Below w.heap.size w wr)
    case atStart => exact ⟨0, by omega, rfl, HR, Below.refl _ _⟩
    case round =>
      obtain ⟨j, hjk, rfl, hH, hb⟩ := hrel
      clear HR
      by_cases hlt : j < M
      · obtain ⟨f, rfl⟩ : ∃ f, gk = f + 1 := ⟨gk - 1, by omega⟩
        obtain ⟨g1, o1, hl1, hA1, hg1, x0, x1⟩ := (h1.below hb).stp (show j < n1 by have := HM.out; omega)
        obtain ⟨g2, o2, hl2, hA2, hg2, y0, y1⟩ := (h2.below hb).stp (show j < n2 by have := HM.out; omega)
        subst hA1 hA2
        have hh := hH.out
        rw [lessP_step hl1 hl2] at hh
        have m1 : (j : Int) < (n1 : Int) := by have := HM.out; omega
        have m2 : (j : Int) < (n2 : Int) := by have := HM.out; omega
        have m3 : (j : Int) < (M : Int) := by omega
        have m4 : (0 : Int) ≤ (j : Int) := by omega
        have HJ := Lib.hid hjk
        clear hjk e1 e2 h1 h2 hH
        generalize a[j] = p at x0 x1 hh
        generalize b[j] = q at y0 y1 hh
        obtain ⟨p1, p2⟩ := p
        obtain ⟨q1, q2⟩ := q
        simp only at x0 x1 y0 y1
        by_cases hpq : ((p1, p2) : Int × Bool) = (q1, q2)
        · rw [if_pos hpq] at hh
          have HH := Lib.hid hh
          clear hh
          obtain ⟨rfl, rfl⟩ := Prod.mk.inj hpq
          clear hpq
          go_wp2_with fail
          go_region
          go_wp2_with fail
          go_roundg f
          case measure => omega
          case rel => exact ⟨j + 1, by have := HJ.out; omega, by go_num, HH, hb.drew⟩
        · rw [if_neg hpq] at hh
          have HH := Lib.hid hh
          clear hh
          by_cases hlt1 : p1 < q1
          · have hne : (p1 == q1) = false := by simp; omega
            have hRv : R = true := by rw [HH.out]; simp [lessS, hlt1]
            clear hpq HH
            go_wp2_with fail
            go_region
            go_wp2_with fail
            go_quiet (fail)
            go_wp2_with fail
            go_ret
            exact ⟨ret_bool hRv.symm, below_drewN hb.drew nq⟩
          · by_cases heq : p1 = q1
            · subst heq
              have hne2 : p2 ≠ q2 := fun e => hpq (by rw [e])
              have hRv : R = p2 := by rw [HH.out]; simp [lessS]
              have hbq : (p2 == q2) = false := by simpa using hne2
              clear hpq HH
              go_wp2_with fail
              go_region
              go_wp2_with fail
              go_quiet (fail)
              go_wp2_with fail
              go_ret
              exact ⟨ret_bool hRv.symm, below_drewN hb.drew nq⟩
            · have hne : (p1 == q1) = false := by simpa using heq
              have hRv : R = false := by rw [HH.out]; simp [lessS, hlt1, heq]
              clear hpq HH
              go_wp2_with fail
              go_region
              go_wp2_with fail
              go_quiet (fail)
              go_wp2_with fail
              go_ret
              exact ⟨ret_bool (by rw [hRv]; exact decide_eq_false (by omega)), below_drewN hb.drew nq⟩
      · have hjM : j = M := by omega
        subst hjM
        have hh := hH.out
        rw [lessP_end (by rw [e1, e2]; exact HM.out), e1, e2] at hh
        have HH := Lib.hid hh
        clear hh hH
        by_cases hq : n1 < n2
        · have q1 : (n1 : Int) < (n2 : Int) := by omega
          have m2 : ¬ (j : Int) < (n1 : Int) := by have := HM.out; omega
          go_wp2_with fail
          all_goals
            go_ret
            exact ⟨ret_bool (by rw [HH.out, decide_eq_true hq]), hb⟩
        · have q1 : ¬ (n1 : Int) < (n2 : Int) := by omega
          have m2 : ¬ (j : Int) < (n2 : Int) := by have := HM.out; omega
          go_wp2_with fail
          all_goals
            go_ret
            exact ⟨ret_bool (by rw [HH.out, decide_eq_false hq]), hb⟩
  · obtain ⟨M, hM⟩ : ∃ M, M = n2 := ⟨_, rfl⟩
    have HM : Hid (M = min n1 n2) := Lib.hid (by omega)
    have hx1 : ¬ (n1 : Int) ≤ (n2 : Int) := by omega
    have hx2 : (n2 : Int) < (n1 : Int) := by omega
    have hx3 : ¬ (n1 : Int) < (n2 : Int) := by omega
    go_enter Tryd.func18, Tryd.ntmps18
    go_wp2_with fail
    clear hM hx1 hx2
    go_loopg [11] M (fun f i wr => ∃ j : Nat, j + f = M ∧ i = .int .i64 j ∧ Hid (R = lessP (a.drop j) (b.drop j)) ∧ Below w.heap.size w wr)
    case atStart => exact ⟨0, by omega, rfl, HR, Below.refl _ _⟩
    case round =>
      obtain ⟨j, hjk, rfl, hH, hb⟩ := hrel
      clear HR
      by_cases hlt : j < M
      · obtain ⟨f, rfl⟩ : ∃ f, gk = f + 1 := ⟨gk - 1, by omega⟩
        obtain ⟨g1, o1, hl1, hA1, hg1, x0, x1⟩ := (h1.below hb).stp (show j < n1 by have := HM.out; omega)
        obtain ⟨g2, o2, hl2, hA2, hg2, y0, y1⟩ := (h2.below hb).stp (show j < n2 by have := HM.out; omega)
        subst hA1 hA2
        have hh := hH.out
        rw [lessP_step hl1 hl2] at hh
        have m1 : (j : Int) < (n1 : Int) := by have := HM.out; omega
        have m2 : (j : Int) < (n2 : Int) := by have := HM.out; omega
        have m3 : (j : Int) < (M : Int) := by omega
        have m4 : (0 : Int) ≤ (j : Int) := by omega
        have HJ := Lib.hid hjk
        clear hjk e1 e2 h1 h2 hH
        generalize a[j] = p at x0 x1 hh
        generalize b[j] = q at y0 y1 hh
        obtain ⟨p1, p2⟩ := p
        obtain ⟨q1, q2⟩ := q
        simp only at x0 x1 y0 y1
        by_cases hpq : ((p1, p2) : Int × Bool) = (q1, q2)
        · rw [if_pos hpq] at hh
          have HH := Lib.hid hh
          clear hh
          obtain ⟨rfl, rfl⟩ := Prod.mk.inj hpq
          clear hpq
          go_wp2_with fail
          go_region
          go_wp2_with fail
          go_roundg f
          case measure => omega
          case rel => exact ⟨j + 1, by have := HJ.out; omega, by go_num, HH, hb.drew⟩
        · rw [if_neg hpq] at hh
          have HH := Lib.hid hh
          clear hh
          by_cases hlt1 : p1 < q1
          · have hne : (p1 == q1) = false := by simp; omega
            have hRv : R = true := by rw [HH.out]; simp [lessS, hlt1]
            clear hpq HH
            go_wp2_with fail
            go_region
            go_wp2_with fail
            go_quiet (fail)
            go_wp2_with fail
            go_ret
            exact ⟨ret_bool hRv.symm, below_drewN hb.drew nq⟩
          · by_cases heq : p1 = q1
            · subst heq
              have hne2 : p2 ≠ q2 := fun e => hpq (by rw [e])
              have hRv : R = p2 := by rw [HH.out]; simp [lessS]
              have hbq : (p2 == q2) = false := by simpa using hne2
              clear hpq HH
              go_wp2_with fail
              go_region
              go_wp2_with fail
              go_quiet (fail)
              go_wp2_with fail
              go_ret
              exact ⟨ret_bool hRv.symm, below_drewN hb.drew nq⟩
            · have hne : (p1 == q1) = false := by simpa using heq
              have hRv : R = false := by rw [HH.out]; simp [lessS, hlt1, heq]
              clear hpq HH
              go_wp2_with fail
              go_region
              go_wp2_with fail
              go_quiet (fail)
              go_wp2_with fail
              go_ret
              exact ⟨ret_bool (by rw [hRv]; exact decide_eq_false (by omega)), below_drewN hb.drew nq⟩
      · have hjM : j = M := by omega
        subst hjM
        have hh := hH.out
        rw [lessP_end (by rw [e1, e2]; exact HM.out), e1, e2] at hh
        have HH := Lib.hid hh
        clear hh hH
        by_cases hq : n1 < n2
        · have q1 : (n1 : Int) < (n2 : Int) := by omega
          have m2 : ¬ (j : Int) < (n1 : Int) := by have := HM.out; omega
          go_wp2_with fail
          all_goals
            go_ret
            exact ⟨ret_bool (by rw [HH.out, decide_eq_true hq]), hb⟩
        · have q1 : ¬ (n1 : Int) < (n2 : Int) := by omega
          have m2 : ¬ (j : Int) < (n2 : Int) := by have := HM.out; omega
          go_wp2_with fail
          all_goals
            go_ret
            exact ⟨ret_bool (by rw [HH.out, decide_eq_false hq]), hb⟩
set_option maxHeartbeats 2000000 in
theorem s_LessPath (a b : Pth) (A1 : Option Addr) (n1 c1 : Nat) (A2 : Option Addr) (n2 c2 : Nat) (w : World) (h1 : Sl w w.heap.size 2 A1 n1 c1 (stC a)) (h2 : Sl w w.heap.size 2 A2 n2 c2 (stC b)) :
    Calls Tryd.prog 19 #[.slice A1 n1 c1, .slice A2 n2 c2] w fun r w' => r = .returned (.bool (lessP a b)) ∧ Below w.heap.size w w' := by
  have e1 := h1.stlen
  have e2 := h2.stlen
  have hc1 : n1 ≤ 9223372036854775807 := by have := h1.cap; have := h1.max; unfold maxLen at *; omega
  have hc2 : n2 ≤ 9223372036854775807 := by have := h2.cap; have := h2.max; unfold maxLen at *; omega
  obtain ⟨R, hR⟩ : ∃ R, lessP a b = R := ⟨_, rfl⟩
  rw [hR]
  have HR : Hid (R = lessP (a.drop 0) (b.drop 0)) := Lib.hid (by rw [List.drop_zero, List.drop_zero]; exact hR.symm)
  clear hR
  obtain ⟨M, hM⟩ : ∃ M, M = min n1 n2 := ⟨_, rfl⟩
  have HM := Lib.hid hM
  have hmm1 : M ≤ n1 := by omega
  have hmm2 : M ≤ n2 := by omega
  clear hM
  go_enter Tryd.func19, Tryd.ntmps19
  go_wp2_with fail
  go_loopg [5] M (fun f i wr => ∃ j : Nat, j + f = M ∧ i = .int .i64 j ∧ Hid (R = lessP (a.drop j) (b.drop j)) ∧ Below w.heap.size w wr)
  case atStart => exact ⟨0, by omega, rfl, HR, Below.refl _ _⟩
  case round =>
    obtain ⟨j, hjk, rfl, hH, hb⟩ := hrel
    clear HR
    by_cases hlt : j < M
    · obtain ⟨f, rfl⟩ : ∃ f, gk = f + 1 := ⟨gk - 1, by omega⟩
      obtain ⟨g1, o1, hl1, hA1, hg1, x0, x1⟩ := (h1.below hb).stp (show j < n1 by have := HM.out; omega)
      obtain ⟨g2, o2, hl2, hA2, hg2, y0, y1⟩ := (h2.below hb).stp (show j < n2 by have := HM.out; omega)
      subst hA1 hA2
      have hh := hH.out
      rw [lessP_step hl1 hl2] at hh
      have m1 : (j : Int) < (n1 : Int) := by have := HM.out; omega
      have m2 : (j : Int) < (n2 : Int) := by have := HM.out; omega
      have m3 : (j : Int) < (M : Int) := by omega
      have m4 : (0 : Int) ≤ (j : Int) := by omega
      have HJ := Lib.hid hjk
      clear hjk e1 e2 h1 h2 hH
      generalize a[j] = p at x0 x1 hh
      generalize b[j] = q at y0 y1 hh
      obtain ⟨p1, p2⟩ := p
      obtain ⟨q1, q2⟩ := q
      simp only at x0 x1 y0 y1
      by_cases hpq : ((p1, p2) : Int × Bool) = (q1, q2)
      · rw [if_pos hpq] at hh
        have HH := Lib.hid hh
        clear hh
        obtain ⟨rfl, rfl⟩ := Prod.mk.inj hpq
        clear hpq
        go_wp2_with fail
        go_region
        go_wp2_with fail
        go_roundg f
        case measure => omega
        case rel => exact ⟨j + 1, by have := HJ.out; omega, by go_num, HH, hb.drew⟩
      · rw [if_neg hpq] at hh
        have HH := Lib.hid hh
        clear hh
        by_cases hlt1 : p1 < q1
        · have hne : (p1 == q1) = false := by simp; omega
          have hRv : R = true := by rw [HH.out]; simp [lessS, hlt1]
          clear hpq HH
          go_wp2_with fail
          go_region
          go_wp2_with fail
          go_quiet (fail)
          go_wp2_with fail
          go_ret
          exact ⟨ret_bool hRv.symm, below_drewN hb.drew nq⟩
        · by_cases heq : p1 = q1
          · subst heq
            have hne2 : p2 ≠ q2 := fun e => hpq (by rw [e])
            have hRv : R = p2 := by rw [HH.out]; simp [lessS]
            have hbq : (p2 == q2) = false := by simpa using hne2
            clear hpq HH
            go_wp2_with fail
            go_region
            go_wp2_with fail
            go_quiet (fail)
            go_wp2_with fail
            go_ret
            exact ⟨ret_bool hRv.symm, below_drewN hb.drew nq⟩
          · have hne : (p1 == q1) = false := by simpa using heq
            have hRv : R = false := by rw [HH.out]; simp [lessS, hlt1, heq]
            clear hpq HH
            go_wp2_with fail
            go_region
            go_wp2_with fail
            go_quiet (fail)
            go_wp2_with fail
            go_ret
            exact ⟨ret_bool (by rw [hRv]; exact decide_eq_false (by omega)), below_drewN hb.drew nq⟩
    · have hjM : j = M := by omega
      subst hjM
      have hh := hH.out
      rw [lessP_end (by rw [e1, e2]; exact HM.out), e1, e2] at hh
      have HH := Lib.hid hh
      clear hh hH
      by_cases hq : n1 < n2
      · have q1 : (n1 : Int) < (n2 : Int) := by omega
        have m2 : ¬ (j : Int) < (n1 : Int) := by have := HM.out; omega
        go_wp2_with fail
        all_goals
          go_ret
          exact ⟨ret_bool (by rw [HH.out, decide_eq_true hq]), hb⟩
      · have q1 : ¬ (n1 : Int) < (n2 : Int) := by omega
        have m2 : ¬ (j : Int) < (n2 : Int) := by have := HM.out; omega
        go_wp2_with fail
        all_goals
          go_ret
          exact ⟨ret_bool (by rw [HH.out, decide_eq_false hq]), hb⟩
set_option maxHeartbeats 800000 in
theorem l_samePath (ps : Pth) (A1 : Option Addr) (n1 c1 : Nat) (A2 : Option Addr) (n2 c2 : Nat) (w : World) (h1 : Sl w w.heap.size 2 A1 n1 c1 (stC ps)) (h2 : Sl w w.heap.size 2 A2 n2 c2 (stC ps)) :
    Calls Tryd.prog 32 #[.slice A1 n1 c1, .slice A2 n2 c2] w fun r w' => r = .returned (.bool true) ∧ Below w.heap.size w w' := by
  have e1 := h1.stlen
  have e2 := h2.stlen
  have hc : n1 ≤ 9223372036854775807 := by have := h1.cap; have := h1.max; unfold maxLen at *; omega
  obtain rfl : n1 = n2 := by omega
  go_enter Tryd.func32, Tryd.ntmps32
  go_wp2_with fail
  go_loopg [5] n1 (fun f i wr => ∃ j : Nat, j + f = n1 ∧ i = .int .i64 j ∧ Below w.heap.size w wr)
  case atStart => exact ⟨0, by omega, rfl, Below.refl _ _⟩
  case round =>
    obtain ⟨j, hjk, rfl, hb⟩ := hrel
    by_cases hlt : j < n1
    · obtain ⟨f, rfl⟩ : ∃ f, gk = f + 1 := ⟨gk - 1, by omega⟩
      obtain ⟨g1, o1, hl, hA1, hg1, x0, x1⟩ := (h1.below hb).stp hlt
      obtain ⟨g2, o2, hl', hA2, hg2, y0, y1⟩ := (h2.below hb).stp hlt
      subst hA1 hA2
      have hb7 := hb.drew
      go_wp2_with fail
      go_region
      go_wp2_with fail
      go_roundg f
      case measure => omega
      case rel => exact ⟨j + 1, by omega, by go_num, hb7⟩
    · go_wp2_with fail
      go_ret
      exact ⟨rfl, hb⟩
set_option maxHeartbeats 1000000 in
theorem l_samePaths (L : List Pth) (A1 : Option Addr) (n1 c1 lo1 : Nat) (rs1 : List Pl) (A2 : Option Addr) (n2 c2 lo2 : Nat) (rs2 : List Pl) (w : World) (h1 : PR w lo1 A1 n1 c1 L rs1) (h2 : PR w lo2 A2 n2 c2 L rs2) :
    Calls Tryd.prog 14 #[.slice A1 n1 c1, .slice A2 n2 c2] w fun r w' => r = .returned (.bool true) ∧ Below w.heap.size w w' := by
  have e1 := h1.len
  have e2 := h2.len
  have hc : n1 ≤ 9223372036854775807 := by have := h1.cap; unfold maxLen at *; omega
  obtain rfl : n1 = n2 := by omega
  go_enter Tryd.func14, Tryd.ntmps14
  go_wp2_with fail
  go_loopg [5] n1 (fun f i wr => ∃ j : Nat, j + f = n1 ∧ i = .int .i64 j ∧ Below w.heap.size w wr)
  case atStart => exact ⟨0, by omega, rfl, Below.refl _ _⟩
  case round =>
    obtain ⟨j, hjk, rfl, hb⟩ := hrel
    by_cases hlt : j < n1
    · obtain ⟨f, rfl⟩ : ∃ f, gk = f + 1 := ⟨gk - 1, by omega⟩
      obtain ⟨g1, hl, hr1, hA1, hg1, _, x0, hs1⟩ := (h1.below hb).elem hlt
      obtain ⟨g2, hl', hr2, hA2, hg2, _, y0, hs2⟩ := (h2.below hb).elem hlt
      subst hA1 hA2
      generalize rs1[j] = r1 at x0 hs1
      generalize rs2[j] = r2 at y0 hs2
      generalize L[j] = p at hs1 hs2
      have hS0 := fun (w' : World) (hb' : Below wr.heap.size wr w') => (show (w'.cell? ⟨g1, j, none⟩ = some (.slice r1.A r1.n r1.c) ∧ w'.cell? ⟨g2, j, none⟩ = some (.slice r2.A r2.n r2.c)) ∧ Below wr.heap.size wr w' from
        ⟨⟨(hb'.cell (p := ⟨g1, _, none⟩) hg1).trans x0, (hb'.cell (p := ⟨g2, _, none⟩) hg2).trans y0⟩, hb'⟩)
      have hS2 := fun (w' w'' : World) (h : (w'.cell? ⟨g1, j, none⟩ = some (.slice r1.A r1.n r1.c) ∧ w'.cell? ⟨g2, j, none⟩ = some (.slice r2.A r2.n r2.c)) ∧ Below wr.heap.size wr w') (hb' : Below w'.heap.size w' w'') => hS0 w'' (h.2.up hb')
      have hE := fun (w' : World) (h : (w'.cell? ⟨g1, j, none⟩ = some (.slice r1.A r1.n r1.c) ∧ w'.cell? ⟨g2, j, none⟩ = some (.slice r2.A r2.n r2.c)) ∧ Below wr.heap.size wr w') => l_samePath p r1.A r1.n r1.c r2.A r2.n r2.c w' (hs1.below h.2).sl (hs2.below h.2).sl
      clear x0 y0
      go_wp2_with fail
      go_region_held3 (fun w' => (w'.cell? ⟨g1, j, none⟩ = some (.slice r1.A r1.n r1.c) ∧ w'.cell? ⟨g2, j, none⟩ = some (.slice r2.A r2.n r2.c)) ∧ Below wr.heap.size wr w')
        (first | exact hS0 _ (Below.refl _ _).drew | (refine hS2 _ _ ?_ hbq; assumption))
        (first | (go_at_call 32; refine (hE _ (by assumption)).mono ?_; rintro e w2 ⟨rfl, hbq⟩))
      rename_i hHeld
      have hb7 := hb.up hHeld.2
      clear hS0 hS2 hHeld hE hs1 hs2
      go_wp2_with fail
      go_roundg f
      case measure => omega
      case rel => exact ⟨j + 1, by omega, by go_num, hb7⟩
    · go_wp2_with fail
      go_ret
      exact ⟨rfl, hb⟩
end Go.Proofs.YtpafgmlkbbbmhaaDoor
