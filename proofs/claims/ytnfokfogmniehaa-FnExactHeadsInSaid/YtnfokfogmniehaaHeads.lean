/- HeadsIn: impl and spec, and the law on it. -/
import Derived.Test.YtnfokfogmniehaaGetHeadLaw
set_option linter.unusedVariables false
set_option maxRecDepth 100000
set_option linter.unusedSimpArgs false
namespace Go.Proofs.Ytnfokfogmniehaa
open Go.RowKit

theorem getHead_facts {b : List UInt8} {i a1 a2 a3 a4 : Int} (h : getHead b i = (a1, a2, a3, a4, 0)) (hl : b.length ≤ 1048576) :
    0 ≤ i ∧ i + 1 ≤ a4 ∧ a4 ≤ b.length ∧ 0 ≤ a2 ∧ a2 ≤ 1000000000000000 ∧ (a3 = -1 ∨ 0 ≤ a3) := by
  unfold getHead at h
  split at h
  · rename_i hr
    unfold getHeadB at h
    split at h
    · simp only [Prod.mk.injEq] at h; omega
    · split at h
      · split at h
        · simp only [Prod.mk.injEq] at h; omega
        · simp at h
      · split at h
        · simp at h
        · split at h
          · rename_i h3 h4
            have hb := getBig_bd b (i + 1) (2 ^ ((b[i.toNat]?.getD 0).toNat % 32 - 24))
            simp only [Prod.mk.injEq] at h
            obtain ⟨e1, e2, e3, e4, e5⟩ := h
            have hp : (1 : Int) ≤ 2 ^ ((b[i.toNat]?.getD 0).toNat % 32 - 24) := by
              have : 1 ≤ 2 ^ ((b[i.toNat]?.getD 0).toNat % 32 - 24) := Nat.one_le_two_pow
              have e : (2 : Int) ^ ((b[i.toNat]?.getD 0).toNat % 32 - 24) = ((2 ^ ((b[i.toNat]?.getD 0).toNat % 32 - 24) : Nat) : Int) := by simp
              rw [e]; exact Int.ofNat_le.2 this
            rw [not_or] at h3
            have h5 := h3.2
            rw [e2] at hb
            rw [e3] at hp h5 e4
            clear h3 h4 e2 e3
            omega
          · simp at h
  · simp at h
def headNext (m : Int) (x : Int × Int × Int × Int × Int) : Option Int :=
  if x.2.2.2.2 ≠ 0 then none else if (x.1 = 2 ∨ x.1 = 3) ∧ x.2.2.1 ≠ -1 then (if m - x.2.2.2.1 < x.2.1 then none else some (x.2.2.2.1 + x.2.1)) else some x.2.2.2.1
def headsN (b : List UInt8) : Nat → Int → Nat
  | 0, _ => 0
  | f + 1, i => match headNext b.length (getHead b i) with | none => 0 | some e => 1 + headsN b f e
theorem headsN_no {b : List UInt8} {f : Nat} {i : Int} (h : headNext b.length (getHead b i) = none) : headsN b (f + 1) i = 0 := by simp [headsN, h]
theorem headsN_yes {b : List UInt8} {f : Nat} {i e : Int} (h : headNext b.length (getHead b i) = some e) : headsN b (f + 1) i = 1 + headsN b f e := by simp [headsN, h]
set_option maxHeartbeats 1000000 in
theorem i_HeadsIn (A : Option Addr) (n c : Nat) (b : List UInt8) (w : World) (B : Nat) (h : Sl w B 1 A n c (u8s b)) (hB : B ≤ w.heap.size) (hn : n ≤ 1048576) :
    Calls Try.prog 29 #[.slice A n c] w fun e w' => e = .returned (.int .i64 (headsN b (n + 1) 0)) ∧ Below w.heap.size w w' := by
  have hl := h.blen
  go_enter Try.func29, Try.ntmps29
  go_wp2_with fail
  go_loopg [3, 4] (n + 1) (fun k x y wr => ∃ (q : Nat) (i : Int), x = .int .i64 q ∧ y = .int .i64 i ∧ (q : Int) ≤ i ∧ i ≤ n ∧ (n : Int) - i < k ∧ q + headsN b k i = headsN b (n + 1) 0 ∧ Below w.heap.size w wr)
  case atStart => exact ⟨0, 0, rfl, rfl, by omega, by omega, by omega, by omega, Below.refl _ _⟩
  case round =>
    obtain ⟨q, i, rfl, rfl, hqi, hin, hki, htot, hb⟩ := hrel
    obtain ⟨k, rfl⟩ : ∃ k, gk = k + 1 := ⟨gk - 1, by omega⟩
    obtain ⟨⟨a1, a2, a3, a4, a5⟩, hx⟩ : ∃ x, getHead b i = x := ⟨_, rfl⟩
    have hC : Calls Try.prog 26 #[.slice A n c, .int .i64 i] wr fun e w' => e = .returned (.tuple #[.agg #[.int .i64 a1, .int .i64 a2, .int .i64 a3], .int .i64 a4, .int .i64 a5]) ∧ Below wr.heap.size wr w' :=
      (i_GetHead A n c b i wr B (h.below (hb.mono hB)) (Nat.le_trans hB hb.size) hn (by omega)).mono fun e w' ⟨h2, h3⟩ => ⟨by rw [h2, hx]; rfl, h3⟩
    have HT := Lib.hid htot
    clear htot h
    by_cases h5 : a5 = 0
    · subst h5
      have hf := getHead_facts hx (by omega)
      rw [hl] at hf
      obtain ⟨f1, f2, f3, f4, f5, f6⟩ := hf
      have H : (∃ e, headNext b.length (getHead b i) = some e ∧ ((e = a4 ∧ ¬ ((a1 = 2 ∨ a1 = 3) ∧ a3 ≠ -1)) ∨ (e = a4 + a2 ∧ (a1 = 2 ∨ a1 = 3) ∧ a3 ≠ -1 ∧ ¬ n - a4 < a2))) ∨ (headNext b.length (getHead b i) = none ∧ (a1 = 2 ∨ a1 = 3) ∧ a3 ≠ -1 ∧ n - a4 < a2) := by
        rw [hx, hl]
        unfold headNext
        simp only [ne_eq, not_true_eq_false, if_false]
        by_cases g1 : (a1 = 2 ∨ a1 = 3) ∧ ¬ a3 = -1
        · rw [if_pos g1]
          by_cases g2 : (n : Int) - a4 < a2
          · exact Or.inr ⟨if_pos g2, g1.1, g1.2, g2⟩
          · exact Or.inl ⟨_, if_neg g2, Or.inr ⟨rfl, g1.1, g1.2, g2⟩⟩
        · exact Or.inl ⟨_, if_neg g1, Or.inl ⟨rfl, g1⟩⟩
      rcases H with ⟨e, hnx, H⟩ | ⟨hnx, g1, g3, g2⟩
      · have HN := Lib.hid (headsN_yes (f := k) hnx)
        clear hnx hx
        have H2 : (a1 ≠ 2 ∧ a1 ≠ 3 ∧ e = a4) ∨ (a3 = -1 ∧ (a1 = 2 ∨ a1 = 3) ∧ e = a4) ∨ ((a1 = 2 ∨ a1 = 3) ∧ 0 ≤ a3 ∧ a2 ≤ n - a4 ∧ e = a4 + a2) := by omega
        clear H
        rcases H2 with ⟨g1, g2, rfl⟩ | ⟨rfl, g1, rfl⟩ | ⟨g1, g3, g2, rfl⟩
        · have e1 : (a1 == 2) = false := by simpa using g1
          have e2 : (a1 == 3) = false := by simpa using g2
          go_wp2_with fail
          refine hC.mono ?_; rintro e w1 ⟨rfl, hb1⟩
          have kb := hb.up hb1
          go_wp2_with fail
          go_roundg k
          case measure => omega
          case rel => exact ⟨q + 1, _, by go_num, rfl, by omega, by omega, by omega, by have := HN.out; have := HT.out; omega, kb.up (Below.one _ _)⟩
        · rcases g1 with rfl | rfl
          all_goals
            go_wp2_with fail
            refine hC.mono ?_; rintro e w1 ⟨rfl, hb1⟩
            have kb := hb.up hb1
            go_wp2_with fail
            go_roundg k
            case measure => omega
            case rel => exact ⟨q + 1, _, by go_num, rfl, by omega, by omega, by omega, by have := HN.out; have := HT.out; omega, kb.up (Below.one _ _)⟩
        · have e3 : (a3 != -1) = true := by simp; omega
          rcases g1 with rfl | rfl
          all_goals
            go_wp2_with fail
            refine hC.mono ?_; rintro e w1 ⟨rfl, hb1⟩
            have kb := hb.up hb1
            go_wp2_with fail
            go_roundg k
            case measure => omega
            case rel => exact ⟨q + 1, _, by go_num, rfl, by omega, by omega, by omega, by have := HN.out; have := HT.out; omega, kb.up (Below.one _ _)⟩
      · have HN := Lib.hid (headsN_no (f := k) hnx)
        have e3 : (a3 != -1) = true := by simpa using g3
        have g4 : 0 ≤ a3 := by omega
        clear hnx hx
        rcases g1 with rfl | rfl
        all_goals
          go_wp2_with fail
          refine hC.mono ?_; rintro e w1 ⟨rfl, hb1⟩
          have kb := hb.up hb1
          go_wp2_with fail
          go_ret
          exact ⟨ret_int (by have := HN.out; have := HT.out; omega), kb.up (Below.one _ _)⟩
    · have hnx : headNext b.length (getHead b i) = none := by rw [hx]; unfold headNext; rw [if_pos h5]
      have HN := Lib.hid (headsN_no (f := k) hnx)
      have e5 : (a5 != 0) = true := by simpa using h5
      clear hnx hx
      go_wp2_with fail
      refine hC.mono ?_; rintro e w1 ⟨rfl, hb1⟩
      have kb := hb.up hb1
      go_wp2_with fail
      go_ret
      exact ⟨ret_int (by have := HN.out; have := HT.out; omega), kb.up (Below.one _ _)⟩
set_option maxHeartbeats 1000000 in
theorem s_HeadsIn (A : Option Addr) (n c : Nat) (b : List UInt8) (w : World) (B : Nat) (h : Sl w B 1 A n c (u8s b)) (hB : B ≤ w.heap.size) (hn : n ≤ 1048576) :
    Calls Try.prog 28 #[.slice A n c] w fun e w' => e = .returned (.int .i64 (headsN b (n + 1) 0)) ∧ Below w.heap.size w w' := by
  have hl := h.blen
  go_enter Try.func28, Try.ntmps28
  go_wp2_with fail
  go_loopg [3, 4] (n + 1) (fun k x y wr => ∃ (q : Nat) (i : Int), x = .int .i64 q ∧ y = .int .i64 i ∧ (q : Int) ≤ i ∧ i ≤ n ∧ (n : Int) - i < k ∧ q + headsN b k i = headsN b (n + 1) 0 ∧ Below w.heap.size w wr)
  case atStart => exact ⟨0, 0, rfl, rfl, by omega, by omega, by omega, by omega, Below.refl _ _⟩
  case round =>
    obtain ⟨q, i, rfl, rfl, hqi, hin, hki, htot, hb⟩ := hrel
    obtain ⟨k, rfl⟩ : ∃ k, gk = k + 1 := ⟨gk - 1, by omega⟩
    obtain ⟨⟨a1, a2, a3, a4, a5⟩, hx⟩ : ∃ x, getHead b i = x := ⟨_, rfl⟩
    have hC : Calls Try.prog 25 #[.slice A n c, .int .i64 i] wr fun e w' => e = .returned (.tuple #[.agg #[.int .i64 a1, .int .i64 a2, .int .i64 a3], .int .i64 a4, .int .i64 a5]) ∧ Below wr.heap.size wr w' :=
      (s_GetHead A n c b i wr B (h.below (hb.mono hB)) (Nat.le_trans hB hb.size) hn (by omega)).mono fun e w' ⟨h2, h3⟩ => ⟨by rw [h2, hx]; rfl, h3⟩
    have HT := Lib.hid htot
    clear htot h
    by_cases h5 : a5 = 0
    · subst h5
      have hf := getHead_facts hx (by omega)
      rw [hl] at hf
      obtain ⟨f1, f2, f3, f4, f5, f6⟩ := hf
      have H : (∃ e, headNext b.length (getHead b i) = some e ∧ ((e = a4 ∧ ¬ ((a1 = 2 ∨ a1 = 3) ∧ a3 ≠ -1)) ∨ (e = a4 + a2 ∧ (a1 = 2 ∨ a1 = 3) ∧ a3 ≠ -1 ∧ ¬ n - a4 < a2))) ∨ (headNext b.length (getHead b i) = none ∧ (a1 = 2 ∨ a1 = 3) ∧ a3 ≠ -1 ∧ n - a4 < a2) := by
        rw [hx, hl]
        unfold headNext
        simp only [ne_eq, not_true_eq_false, if_false]
        by_cases g1 : (a1 = 2 ∨ a1 = 3) ∧ ¬ a3 = -1
        · rw [if_pos g1]
          by_cases g2 : (n : Int) - a4 < a2
          · exact Or.inr ⟨if_pos g2, g1.1, g1.2, g2⟩
          · exact Or.inl ⟨_, if_neg g2, Or.inr ⟨rfl, g1.1, g1.2, g2⟩⟩
        · exact Or.inl ⟨_, if_neg g1, Or.inl ⟨rfl, g1⟩⟩
      rcases H with ⟨e, hnx, H⟩ | ⟨hnx, g1, g3, g2⟩
      · have HN := Lib.hid (headsN_yes (f := k) hnx)
        clear hnx hx
        have H2 : (a1 ≠ 2 ∧ a1 ≠ 3 ∧ e = a4) ∨ (a3 = -1 ∧ (a1 = 2 ∨ a1 = 3) ∧ e = a4) ∨ ((a1 = 2 ∨ a1 = 3) ∧ 0 ≤ a3 ∧ a2 ≤ n - a4 ∧ e = a4 + a2) := by omega
        clear H
        rcases H2 with ⟨g1, g2, rfl⟩ | ⟨rfl, g1, rfl⟩ | ⟨g1, g3, g2, rfl⟩
        · have e1 : (a1 == 2) = false := by simpa using g1
          have e2 : (a1 == 3) = false := by simpa using g2
          go_wp2_with fail
          refine hC.mono ?_; rintro e w1 ⟨rfl, hb1⟩
          have kb := hb.up hb1
          go_wp2_with fail
          go_roundg k
          case measure => omega
          case rel => exact ⟨q + 1, _, by go_num, rfl, by omega, by omega, by omega, by have := HN.out; have := HT.out; omega, kb.up (Below.one _ _)⟩
        · rcases g1 with rfl | rfl
          all_goals
            go_wp2_with fail
            refine hC.mono ?_; rintro e w1 ⟨rfl, hb1⟩
            have kb := hb.up hb1
            go_wp2_with fail
            go_roundg k
            case measure => omega
            case rel => exact ⟨q + 1, _, by go_num, rfl, by omega, by omega, by omega, by have := HN.out; have := HT.out; omega, kb.up (Below.one _ _)⟩
        · have e3 : (a3 != -1) = true := by simp; omega
          rcases g1 with rfl | rfl
          all_goals
            go_wp2_with fail
            refine hC.mono ?_; rintro e w1 ⟨rfl, hb1⟩
            have kb := hb.up hb1
            go_wp2_with fail
            go_roundg k
            case measure => omega
            case rel => exact ⟨q + 1, _, by go_num, rfl, by omega, by omega, by omega, by have := HN.out; have := HT.out; omega, kb.up (Below.one _ _)⟩
      · have HN := Lib.hid (headsN_no (f := k) hnx)
        have e3 : (a3 != -1) = true := by simpa using g3
        have g4 : 0 ≤ a3 := by omega
        clear hnx hx
        rcases g1 with rfl | rfl
        all_goals
          go_wp2_with fail
          refine hC.mono ?_; rintro e w1 ⟨rfl, hb1⟩
          have kb := hb.up hb1
          go_wp2_with fail
          go_ret
          exact ⟨ret_int (by have := HN.out; have := HT.out; omega), kb.up (Below.one _ _)⟩
    · have hnx : headNext b.length (getHead b i) = none := by rw [hx]; unfold headNext; rw [if_pos h5]
      have HN := Lib.hid (headsN_no (f := k) hnx)
      have e5 : (a5 != 0) = true := by simpa using h5
      clear hnx hx
      go_wp2_with fail
      refine hC.mono ?_; rintro e w1 ⟨rfl, hb1⟩
      have kb := hb.up hb1
      go_wp2_with fail
      go_ret
      exact ⟨ret_int (by have := HN.out; have := HT.out; omega), kb.up (Below.one _ _)⟩
set_option maxHeartbeats 800000 in
theorem law_HeadsIn (A : Option Addr) (n c : Nat) (b : List UInt8) (w : World) (h : Sl w w.heap.size 1 A n c (u8s b)) :
    Calls Try.prog 5 #[.slice A n c] w fun e' w' => e' = .returned (.bool true) ∧ Below w.heap.size w w' := by
  by_cases hn : n ≤ 1048576
  · have hto := fun w1 hb => l_toB A n c b w w1 h hn hb
    go_enter Try.func5, Try.ntmps5
    go_wp2_with fail
    refine (hto _ (Below.refl _ _)).mono ?_; rintro e w1 ⟨A1, c1, rfl, h1, hb1⟩
    go_wp2_with fail
    refine (s_HeadsIn _ _ _ b _ _ h1.sl (Nat.le_refl _) hn).mono ?_; rintro e w2 ⟨rfl, hb2⟩
    have k2 := hb1.up hb2
    clear h1
    go_wp2_with fail
    refine (hto _ k2).mono ?_; rintro e w3 ⟨A3, c3, rfl, h3, hb3⟩
    have k3 := k2.up hb3
    go_wp2_with fail
    refine (i_HeadsIn _ _ _ b _ _ h3.sl (Nat.le_refl _) hn).mono ?_; rintro e w4 ⟨rfl, hb4⟩
    have k4 := k3.up hb4
    have h4 := h3.below hb4
    go_wp2_with fail
    refine (hto _ k4).mono ?_; rintro e w6 ⟨A6, c6, rfl, h6, hb6⟩
    have k6 := k4.up hb6
    go_wp2_with fail
    refine (l_eqByteS _ _ _ b _ _ _ b _ _ (h4.below hb6).sl h6.sl).mono ?_; rintro e w7 ⟨rfl, hd7⟩
    go_wp2_with fail
    go_ret
    exact ⟨rfl, k6.up (hd7.below _)⟩
  · go_enter Try.func5, Try.ntmps5
    go_wp2_with fail
    go_ret
    exact ⟨rfl, Below.refl _ _⟩
end Go.Proofs.Ytnfokfogmniehaa
