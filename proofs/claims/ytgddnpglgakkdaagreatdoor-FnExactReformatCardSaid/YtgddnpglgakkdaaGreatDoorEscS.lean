/- l9Escape (spec): what stands behind a backslash. -/
import Derived.Test.YtgddnpglgakkdaaGreatDoorEsc
set_option linter.unusedVariables false
set_option maxRecDepth 100000
set_option linter.unusedSimpArgs false
namespace Go.Proofs.YtgddnpglgakkdaaGreatDoor
open Go.RowKit

theorem ret3_eq {a b c d : Int} {x : Bool} (h1 : a = c) (h2 : b = d) : Ending.returned (.tuple #[.int .i64 a, .int .i64 b, .bool x]) = ret3 (c, d, x) := by rw [h1, h2]; rfl
set_option maxHeartbeats 4000000 in
theorem s_l9Escape (s : ByteArray) (q : Nat) (w : World) (hs : s.size ≤ 1099511627776) (hq : q ≤ 1099511627776) :
    Calls Tryz.prog 55 #[.string s, .int .i64 q] w fun e w' => e = ret3 (escP s.data.toList q) ∧ w = w' := by
  by_cases hlt : ¬ q < s.size
  · rw [escP_zero (getD_out hlt)]
    have hge : (s.size : Int) ≤ (q : Int) := by omega
    go_enter Tryz.func55, Tryz.ntmps55
    go_wp2_with fail
    go_ret3
    exact ⟨rfl, rfl⟩
  have hlt := Nat.lt_of_not_le (fun h => hlt (Nat.not_lt.2 h))
  have hlti : ¬ (s.size : Int) ≤ (q : Int) := by omega
  have hx0 := getD_size hlt
  have h1 := fun w => s_ReadFour s ((q : Int) + 1) w (by omega) (by omega)
  have h2 := fun w => s_ReadFour s ((q : Int) + 7) w (by omega) (by omega)
  have hcs := esc_cases (s.data.toList.getD q 0)
  by_cases hu : s.data.toList.getD q 0 = 117
  · rw [escP_u hu]
    have hbd := fourL_bd (l := s.data.toList) (i := (q : Int) + 1)
    obtain ⟨⟨a, ok⟩, hr⟩ : ∃ u, fourL s.data.toList ((q : Int) + 1) = u := ⟨_, rfl⟩
    rw [hr] at h1 hbd
    simp only [ret2] at h1 h2 hbd
    rw [hx0] at hu
    clear hcs hx0
    cases ok with
    | false =>
      rw [uniP_A hr (.inl rfl)]
      clear hr h2
      go_enter Tryz.func55, Tryz.ntmps55
      go_wp2_with (first
        | (go_at_call 35; refine (s_l1In _ _ _ _).mono ?_; rintro e w' ⟨rfl, rfl⟩)
        | (go_at_call 86; refine (h1 _).mono ?_; rintro e w1 ⟨rfl, rfl⟩; clear h1)
        | (go_at_call 86; refine (h2 _).mono ?_; rintro e w2 ⟨rfl, rfl⟩))
      go_ret3
      exact ⟨rfl, rfl⟩
    | true =>
      cases hl : inR a 56320 57343 with
      | true =>
        rw [uniP_A hr (.inr hl)]
        clear hr h2
        go_enter Tryz.func55, Tryz.ntmps55
        go_wp2_with (first
        | (go_at_call 35; refine (s_l1In _ _ _ _).mono ?_; rintro e w' ⟨rfl, rfl⟩)
        | (go_at_call 86; refine (h1 _).mono ?_; rintro e w1 ⟨rfl, rfl⟩; clear h1)
        | (go_at_call 86; refine (h2 _).mono ?_; rintro e w2 ⟨rfl, rfl⟩))
        go_ret3
        exact ⟨rfl, rfl⟩
      | false =>
        cases hh : inR a 55296 56319 with
        | false =>
          rw [uniP_C hr rfl hl hh]
          clear hr h2
          go_enter Tryz.func55, Tryz.ntmps55
          go_wp2_with (first
        | (go_at_call 35; refine (s_l1In _ _ _ _).mono ?_; rintro e w' ⟨rfl, rfl⟩)
        | (go_at_call 86; refine (h1 _).mono ?_; rintro e w1 ⟨rfl, rfl⟩; clear h1)
        | (go_at_call 86; refine (h2 _).mono ?_; rintro e w2 ⟨rfl, rfl⟩))
          go_ret3
          exact ⟨ret3_eq rfl (by go_num), rfl⟩
        | true =>
          have hV := uniP_D hr rfl hl hh
          have hbd2 := fourL_bd (l := s.data.toList) (i := (q : Int) + 7)
          rw [hV]
          obtain ⟨⟨b, ok2⟩, hr2⟩ : ∃ u, fourL s.data.toList ((q : Int) + 7) = u := ⟨_, rfl⟩
          rw [hr2] at h2 hbd2 ⊢
          simp only [] at h2 hbd2
          clear hr hV hr2
          by_cases hl6 : q + 6 < s.size
          · have hl6i : ¬ (s.size : Int) ≤ (q : Int) + 6 := by omega
            rw [getD_size (show q + 5 < s.size by omega), getD_size hl6]
            have j5 : ((q : Int) + 5).toNat = q + 5 := by omega
            have j6 : ((q : Int) + 6).toNat = q + 6 := by omega
            have k5 : (0 : Int) ≤ (q : Int) + 5 ∧ (q : Int) + 5 < (s.size : Int) := by omega
            have k6 : (0 : Int) ≤ (q : Int) + 6 ∧ (q : Int) + 6 < (s.size : Int) := by omega
            by_cases c5 : s[q + 5] = 92
            · by_cases c6 : s[q + 6] = 117
              · rw [if_pos ⟨c5, c6⟩]
                cases ok2 with
                | false =>
                  rw [if_neg (by simp)]
                  go_enter Tryz.func55, Tryz.ntmps55
                  go_wp2_with (first
        | (go_at_call 35; refine (s_l1In _ _ _ _).mono ?_; rintro e w' ⟨rfl, rfl⟩)
        | (go_at_call 86; refine (h1 _).mono ?_; rintro e w1 ⟨rfl, rfl⟩; clear h1)
        | (go_at_call 86; refine (h2 _).mono ?_; rintro e w2 ⟨rfl, rfl⟩))
                  go_ret3
                  exact ⟨rfl, rfl⟩
                | true =>
                  cases hl2 : inR b 56320 57343 with
                  | false =>
                    rw [if_neg (by simp [hl2])]
                    go_enter Tryz.func55, Tryz.ntmps55
                    go_wp2_with (first
        | (go_at_call 35; refine (s_l1In _ _ _ _).mono ?_; rintro e w' ⟨rfl, rfl⟩)
        | (go_at_call 86; refine (h1 _).mono ?_; rintro e w1 ⟨rfl, rfl⟩; clear h1)
        | (go_at_call 86; refine (h2 _).mono ?_; rintro e w2 ⟨rfl, rfl⟩))
                    go_ret3
                    exact ⟨rfl, rfl⟩
                  | true =>
                    rw [if_pos ⟨rfl, rfl⟩]
                    go_enter Tryz.func55, Tryz.ntmps55
                    go_wp2_with (first
        | (go_at_call 35; refine (s_l1In _ _ _ _).mono ?_; rintro e w' ⟨rfl, rfl⟩)
        | (go_at_call 86; refine (h1 _).mono ?_; rintro e w1 ⟨rfl, rfl⟩; clear h1)
        | (go_at_call 86; refine (h2 _).mono ?_; rintro e w2 ⟨rfl, rfl⟩))
                    go_ret3
                    have q1 := inR_iff.1 hh
                    have q2 := inR_iff.1 hl2
                    exact ⟨ret3_eq (by go_num) (by go_num), rfl⟩
              · rw [if_neg (fun h => c6 h.2)]
                obtain ⟨y, hy⟩ : ∃ y, s[q + 6] = y := ⟨_, rfl⟩
                rw [hy] at c6
                have x6 : ((y.toNat : Int) == 117) = false := u8_ne 117 (by decide) c6
                have x6b : ((y.toNat : Int) != 117) = true := by simp only [bne, x6]; rfl
                clear c6 h2
                go_enter Tryz.func55, Tryz.ntmps55
                go_wp2_with (first
        | (go_at_call 35; refine (s_l1In _ _ _ _).mono ?_; rintro e w' ⟨rfl, rfl⟩)
        | (go_at_call 86; refine (h1 _).mono ?_; rintro e w1 ⟨rfl, rfl⟩; clear h1)
        | (go_at_call 86; refine (h2 _).mono ?_; rintro e w2 ⟨rfl, rfl⟩))
                go_ret3
                exact ⟨rfl, rfl⟩
            · rw [if_neg (fun h => c5 h.1)]
              obtain ⟨y, hy⟩ : ∃ y, s[q + 5] = y := ⟨_, rfl⟩
              rw [hy] at c5
              have x5 : ((y.toNat : Int) == 92) = false := u8_ne 92 (by decide) c5
              have x5b : ((y.toNat : Int) != 92) = true := by simp only [bne, x5]; rfl
              clear c5 h2
              go_enter Tryz.func55, Tryz.ntmps55
              go_wp2_with (first
        | (go_at_call 35; refine (s_l1In _ _ _ _).mono ?_; rintro e w' ⟨rfl, rfl⟩)
        | (go_at_call 86; refine (h1 _).mono ?_; rintro e w1 ⟨rfl, rfl⟩; clear h1)
        | (go_at_call 86; refine (h2 _).mono ?_; rintro e w2 ⟨rfl, rfl⟩))
              go_ret3
              exact ⟨rfl, rfl⟩
          · have hl6i : (s.size : Int) ≤ (q : Int) + 6 := by omega
            rw [if_neg (fun h => by have := h.2; rw [getD_out hl6] at this; cases this)]
            clear h2
            go_enter Tryz.func55, Tryz.ntmps55
            go_wp2_with (first
        | (go_at_call 35; refine (s_l1In _ _ _ _).mono ?_; rintro e w' ⟨rfl, rfl⟩)
        | (go_at_call 86; refine (h1 _).mono ?_; rintro e w1 ⟨rfl, rfl⟩; clear h1)
        | (go_at_call 86; refine (h2 _).mono ?_; rintro e w2 ⟨rfl, rfl⟩))
            go_ret3
            exact ⟨rfl, rfl⟩
  · clear h1 h2
    by_cases hn : noEsc (s.data.toList.getD q 0)
    · rw [escP_no hn]
      rw [hx0] at hn
      obtain ⟨y, hy⟩ : ∃ y, s[q] = y := ⟨_, rfl⟩
      rw [hy] at hn
      have hx : ∀ k : Nat, k < 256 → ¬ y = UInt8.ofNat k → ((y.toNat : Int) == (k : Int)) = false := fun k a b => u8_ne k a b
      obtain ⟨n1, n2, n3, n4, n5, n6, n7, n8, n9⟩ := hn
      have x1 : ((y.toNat : Int) == 34) = false := hx 34 (by decide) n1
      have x2 : ((y.toNat : Int) == 92) = false := hx 92 (by decide) n2
      have x3 : ((y.toNat : Int) == 47) = false := hx 47 (by decide) n3
      have x4 : ((y.toNat : Int) == 98) = false := hx 98 (by decide) n4
      have x5 : ((y.toNat : Int) == 116) = false := hx 116 (by decide) n5
      have x6 : ((y.toNat : Int) == 110) = false := hx 110 (by decide) n6
      have x7 : ((y.toNat : Int) == 102) = false := hx 102 (by decide) n7
      have x8 : ((y.toNat : Int) == 114) = false := hx 114 (by decide) n8
      have x9 : ((y.toNat : Int) == 117) = false := hx 117 (by decide) n9
      clear hx0 hcs hu hx n1 n2 n3 n4 n5 n6 n7 n8 n9
      go_enter Tryz.func55, Tryz.ntmps55
      go_wp2_with fail
      go_ret3
      exact ⟨rfl, rfl⟩
    · have hy : s.data.toList.getD q 0 = 34 ∨ s.data.toList.getD q 0 = 92 ∨ s.data.toList.getD q 0 = 47 ∨ s.data.toList.getD q 0 = 98 ∨ s.data.toList.getD q 0 = 116 ∨ s.data.toList.getD q 0 = 110 ∨ s.data.toList.getD q 0 = 102 ∨ s.data.toList.getD q 0 = 114 := by
        rcases hcs with h | h | h | h | h | h | h | h | h | h
        · exact .inl h
        · exact .inr (.inl h)
        · exact .inr (.inr (.inl h))
        · exact .inr (.inr (.inr (.inl h)))
        · exact .inr (.inr (.inr (.inr (.inl h))))
        · exact .inr (.inr (.inr (.inr (.inr (.inl h)))))
        · exact .inr (.inr (.inr (.inr (.inr (.inr (.inl h))))))
        · exact .inr (.inr (.inr (.inr (.inr (.inr (.inr h))))))
        · exact absurd h hu
        · exact absurd h hn
      have hE : escP s.data.toList q = ((if s.data.toList.getD q 0 = 34 ∨ s.data.toList.getD q 0 = 92 ∨ s.data.toList.getD q 0 = 47 then ((s.data.toList.getD q 0).toNat : Int) else if s.data.toList.getD q 0 = 98 then 8 else if s.data.toList.getD q 0 = 116 then 9 else if s.data.toList.getD q 0 = 110 then 10 else if s.data.toList.getD q 0 = 102 then 12 else 13), (q : Int) + 1, true) := by
        unfold escP
        rcases hy with h | h | h | h | h | h | h | h <;> rw [h] <;> rfl
      rw [hE]
      rw [hx0] at hy ⊢
      clear hx0 hE hn hu hcs
      rcases hy with h | h | h | h | h | h | h | h
      all_goals
        rw [h]
        go_enter Tryz.func55, Tryz.ntmps55
        go_wp2_with fail
        go_ret3
        exact ⟨ret3_eq rfl (by go_num), rfl⟩
end Go.Proofs.YtgddnpglgakkdaaGreatDoor
