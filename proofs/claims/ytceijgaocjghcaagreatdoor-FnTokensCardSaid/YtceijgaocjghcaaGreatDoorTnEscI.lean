/- readEscape (impl). -/
import Derived.Test.YtceijgaocjghcaaGreatDoorTnM13
set_option linter.unusedVariables false
set_option maxRecDepth 100000
set_option linter.unusedSimpArgs false
namespace Go.Proofs.YtceijgaocjghcaaGreatDoor
open Go.RowKit

theorem retII_eq {a b c d : Int} (h1 : a = c) (h2 : b = d) : Ending.returned (.tuple #[.int .i64 a, .int .i64 b]) = retII (c, d) := by rw [h1, h2]; rfl
theorem ix_let (x : UInt8) (h : ¬ x = 98 ∧ ¬ x = 116 ∧ ¬ x = 110 ∧ ¬ x = 102 ∧ ¬ x = 114) : Lib.indexByte [98, 116, 110, 102, 114] x = -1 := by
  revert h
  refine u8_all (p := fun x => (¬ x = 98 ∧ ¬ x = 116 ∧ ¬ x = 110 ∧ ¬ x = 102 ∧ ¬ x = 114) → Lib.indexByte [98, 116, 110, 102, 114] x = -1) ?_ x
  decide
set_option maxHeartbeats 4000000 in
theorem i_readEscape (s : ByteArray) (i : Nat) (w : World) (hs : s.size ≤ 1099511627776) (hq : i ≤ 1099511627776) (h92 : s.data.toList.getD i 0 = 92) (hC : Lib.CaseVar 6 Lib.caseA w) (hT : Lib.Utf8Tabs 1 2 w) :
    Calls Tryz.prog 77 #[.string s, .int .i64 i] w fun e w' => e = retII ((escP s.data.toList (i + 1)).1, (escP s.data.toList (i + 1)).2.1) ∧ Below w.heap.size w w' := by
  have e1 : byteV s.data.toList ((i : Int) + 1) = s.data.toList.getD (i + 1) 0 := byteV_add s.data.toList i 1
  have h1 := i_readUnit s i w hs (by omega) hC hT
  have h2 : ∀ w1, Below w.heap.size w w1 → Calls Tryz.prog 114 #[.string s, .int .i64 ((i : Int) + 6)] w1 fun e w' => e = ret2 (unitP s.data.toList (i + 6)) ∧ Below w1.heap.size w1 w' := fun w1 hb => i_readUnit s (i + 6) w1 hs (by omega) (Lib.CaseVar_below hC hb) (Utf8Tabs_below hT hb)
  have hcs := esc_cases (s.data.toList.getD (i + 1) 0)
  by_cases hu : s.data.toList.getD (i + 1) 0 = 117
  · rw [escP_u hu]
    have hU : unitP s.data.toList i = fourL s.data.toList (((i + 1 : Nat) : Int) + 1) := by unfold unitP; rw [if_pos ⟨h92, hu⟩]; rfl
    have hI := ix_let (s.data.toList.getD (i + 1) 0) (by rw [hu]; decide)
    rw [hU] at h1
    have hbd := fourL_bd (l := s.data.toList) (i := (((i + 1 : Nat) : Int) + 1))
    obtain ⟨⟨a, ok⟩, hr⟩ : ∃ u, fourL s.data.toList (((i + 1 : Nat) : Int) + 1) = u := ⟨_, rfl⟩
    rw [hr] at h1 hbd
    simp only [ret2] at h1 h2 hbd
    rw [hu] at e1 hI
    clear hcs hU
    cases ok with
    | false =>
      rw [uniP_A hr (.inl rfl)]
      clear hr h2 hu h92
      go_enter Tryz.func77, Tryz.ntmps77
      go_wp2_with (first
        | (go_at_call 75; refine (i_byteAt _ _ _ hs).mono ?_; rintro e w' ⟨rfl, rfl⟩)
        | (go_at_call 52; refine (Tryz.strings_IndexByte _ _ _).mono ?_; rintro e w' ⟨rfl, hw⟩; subst hw)
        | (go_at_call 41; refine (i_within _ _ _ _).mono ?_; rintro e w' ⟨rfl, rfl⟩)
        | (have hq := hb1; clear hq; go_at_call 114; refine (h2 _ hb1).mono ?_; rintro e w2 ⟨rfl, hb2⟩)
        | (go_at_call 114; refine h1.mono ?_; rintro e w1 ⟨rfl, hb1⟩))
      go_ret2
      exact ⟨rfl, hb1⟩
    | true =>
      cases hl : inR a 56320 57343 with
      | true =>
        rw [uniP_A hr (.inr hl)]
        clear hr h2 hu h92
        go_enter Tryz.func77, Tryz.ntmps77
        go_wp2_with (first
        | (go_at_call 75; refine (i_byteAt _ _ _ hs).mono ?_; rintro e w' ⟨rfl, rfl⟩)
        | (go_at_call 52; refine (Tryz.strings_IndexByte _ _ _).mono ?_; rintro e w' ⟨rfl, hw⟩; subst hw)
        | (go_at_call 41; refine (i_within _ _ _ _).mono ?_; rintro e w' ⟨rfl, rfl⟩)
        | (have hq := hb1; clear hq; go_at_call 114; refine (h2 _ hb1).mono ?_; rintro e w2 ⟨rfl, hb2⟩)
        | (go_at_call 114; refine h1.mono ?_; rintro e w1 ⟨rfl, hb1⟩))
        go_ret2
        exact ⟨rfl, hb1⟩
      | false =>
        cases hh : inR a 55296 56319 with
        | false =>
          rw [uniP_C hr rfl hl hh]
          clear hr h2 hu h92
          go_enter Tryz.func77, Tryz.ntmps77
          go_wp2_with (first
        | (go_at_call 75; refine (i_byteAt _ _ _ hs).mono ?_; rintro e w' ⟨rfl, rfl⟩)
        | (go_at_call 52; refine (Tryz.strings_IndexByte _ _ _).mono ?_; rintro e w' ⟨rfl, hw⟩; subst hw)
        | (go_at_call 41; refine (i_within _ _ _ _).mono ?_; rintro e w' ⟨rfl, rfl⟩)
        | (have hq := hb1; clear hq; go_at_call 114; refine (h2 _ hb1).mono ?_; rintro e w2 ⟨rfl, hb2⟩)
        | (go_at_call 114; refine h1.mono ?_; rintro e w1 ⟨rfl, hb1⟩))
          go_ret2
          exact ⟨retII_eq rfl (by go_num), hb1⟩
        | true =>
          have hV : uniP s.data.toList (i + 1) = if (unitP s.data.toList (i + 6)).2 = true ∧ inR (unitP s.data.toList (i + 6)).1 56320 57343 = true then (65536 + 1024 * (a - 55296) + (unitP s.data.toList (i + 6)).1 - 56320, ((i + 1 : Nat) : Int) + 11, true) else badE := by
            rw [uniP_D hr rfl hl hh]
            unfold unitP
            by_cases hg : s.data.toList.getD (i + 6) 0 = 92 ∧ s.data.toList.getD (i + 6 + 1) 0 = 117
            · rw [if_pos hg, if_pos hg]; rfl
            · rw [if_neg hg, if_neg hg]; rfl
          have hbd2 : 0 ≤ (unitP s.data.toList (i + 6)).1 ∧ (unitP s.data.toList (i + 6)).1 ≤ 65535 := by
            unfold unitP
            split
            · exact fourL_bd
            · decide
          rw [hV]
          obtain ⟨⟨b, ok2⟩, hr2⟩ : ∃ u, unitP s.data.toList (i + 6) = u := ⟨_, rfl⟩
          rw [hr2] at h2 hbd2 ⊢
          simp only [] at h2 hbd2
          clear hr hV hr2 hu h92
          cases ok2 with
          | false =>
            rw [if_neg (by simp)]
            go_enter Tryz.func77, Tryz.ntmps77
            go_wp2_with (first
        | (go_at_call 75; refine (i_byteAt _ _ _ hs).mono ?_; rintro e w' ⟨rfl, rfl⟩)
        | (go_at_call 52; refine (Tryz.strings_IndexByte _ _ _).mono ?_; rintro e w' ⟨rfl, hw⟩; subst hw)
        | (go_at_call 41; refine (i_within _ _ _ _).mono ?_; rintro e w' ⟨rfl, rfl⟩)
        | (have hq := hb1; clear hq; go_at_call 114; refine (h2 _ hb1).mono ?_; rintro e w2 ⟨rfl, hb2⟩)
        | (go_at_call 114; refine h1.mono ?_; rintro e w1 ⟨rfl, hb1⟩))
            go_ret2
            exact ⟨rfl, hb1.up hb2⟩
          | true =>
            cases hl2 : inR b 56320 57343 with
            | false =>
              rw [if_neg (by simp [hl2])]
              go_enter Tryz.func77, Tryz.ntmps77
              go_wp2_with (first
        | (go_at_call 75; refine (i_byteAt _ _ _ hs).mono ?_; rintro e w' ⟨rfl, rfl⟩)
        | (go_at_call 52; refine (Tryz.strings_IndexByte _ _ _).mono ?_; rintro e w' ⟨rfl, hw⟩; subst hw)
        | (go_at_call 41; refine (i_within _ _ _ _).mono ?_; rintro e w' ⟨rfl, rfl⟩)
        | (have hq := hb1; clear hq; go_at_call 114; refine (h2 _ hb1).mono ?_; rintro e w2 ⟨rfl, hb2⟩)
        | (go_at_call 114; refine h1.mono ?_; rintro e w1 ⟨rfl, hb1⟩))
              go_ret2
              exact ⟨rfl, hb1.up hb2⟩
            | true =>
              rw [if_pos ⟨rfl, rfl⟩]
              go_enter Tryz.func77, Tryz.ntmps77
              go_wp2_with (first
        | (go_at_call 75; refine (i_byteAt _ _ _ hs).mono ?_; rintro e w' ⟨rfl, rfl⟩)
        | (go_at_call 52; refine (Tryz.strings_IndexByte _ _ _).mono ?_; rintro e w' ⟨rfl, hw⟩; subst hw)
        | (go_at_call 41; refine (i_within _ _ _ _).mono ?_; rintro e w' ⟨rfl, rfl⟩)
        | (have hq := hb1; clear hq; go_at_call 114; refine (h2 _ hb1).mono ?_; rintro e w2 ⟨rfl, hb2⟩)
        | (go_at_call 114; refine h1.mono ?_; rintro e w1 ⟨rfl, hb1⟩))
              go_ret2
              have q1 := inR_iff.1 hh
              have q2 := inR_iff.1 hl2
              exact ⟨retII_eq (by go_num) (by go_num), hb1.up hb2⟩
  · by_cases h0 : s.data.toList.getD (i + 1) 0 = 34 ∨ s.data.toList.getD (i + 1) 0 = 92 ∨ s.data.toList.getD (i + 1) 0 = 47
    · rw [escP_lit h0]
      generalize s.data.toList.getD (i + 1) 0 = x at h0 e1 ⊢
      clear h1 h2 hu hcs
      rcases h0 with rfl | rfl | rfl
      all_goals
        go_enter Tryz.func77, Tryz.ntmps77
        go_wp2_with (first
        | (go_at_call 75; refine (i_byteAt _ _ _ hs).mono ?_; rintro e w' ⟨rfl, rfl⟩)
        | (go_at_call 52; refine (Tryz.strings_IndexByte _ _ _).mono ?_; rintro e w' ⟨rfl, hw⟩; subst hw))
        go_ret2
        exact ⟨retII_eq rfl (by go_num), Below.refl _ _⟩
    · by_cases hn : noEsc (s.data.toList.getD (i + 1) 0)
      · have hU : unitP s.data.toList i = (0, false) := by unfold unitP; rw [if_neg (fun h => hu h.2)]
        rw [hU] at h1
        simp only [ret2] at h1
        rw [escP_no hn]
        have hI := ix_let (s.data.toList.getD (i + 1) 0) ⟨hn.2.2.2.1, hn.2.2.2.2.1, hn.2.2.2.2.2.1, hn.2.2.2.2.2.2.1, hn.2.2.2.2.2.2.2.1⟩
        have hx : ∀ k : Nat, k < 256 → ¬ s.data.toList.getD (i + 1) 0 = UInt8.ofNat k → (((s.data.toList.getD (i + 1) 0).toNat : Int) == (k : Int)) = false := fun k a b => u8_ne k a b
        have x1 : (((s.data.toList.getD (i + 1) 0).toNat : Int) == 34) = false := hx 34 (by decide) hn.1
        have x2 : (((s.data.toList.getD (i + 1) 0).toNat : Int) == 92) = false := hx 92 (by decide) hn.2.1
        have x3 : (((s.data.toList.getD (i + 1) 0).toNat : Int) == 47) = false := hx 47 (by decide) hn.2.2.1
        generalize s.data.toList.getD (i + 1) 0 = x at e1 hI x1 x2 x3 hx
        clear h0 h2 hu hcs hU hn
        by_cases c0 : x = 0
        · subst c0
          clear hx x1 x2 x3 hI
          go_enter Tryz.func77, Tryz.ntmps77
          go_wp2_with (first
        | (go_at_call 75; refine (i_byteAt _ _ _ hs).mono ?_; rintro e w' ⟨rfl, rfl⟩)
        | (go_at_call 52; refine (Tryz.strings_IndexByte _ _ _).mono ?_; rintro e w' ⟨rfl, hw⟩; subst hw)
        | (go_at_call 41; refine (i_within _ _ _ _).mono ?_; rintro e w' ⟨rfl, rfl⟩)
        | (have hq := hb1; clear hq; go_at_call 114; refine (h2 _ hb1).mono ?_; rintro e w2 ⟨rfl, hb2⟩)
        | (go_at_call 114; refine h1.mono ?_; rintro e w1 ⟨rfl, hb1⟩))
          go_ret2
          exact ⟨rfl, hb1⟩
        · have x0 : ((x.toNat : Int) == 0) = false := hx 0 (by decide) c0
          clear hx c0
          go_enter Tryz.func77, Tryz.ntmps77
          go_wp2_with (first
        | (go_at_call 75; refine (i_byteAt _ _ _ hs).mono ?_; rintro e w' ⟨rfl, rfl⟩)
        | (go_at_call 52; refine (Tryz.strings_IndexByte _ _ _).mono ?_; rintro e w' ⟨rfl, hw⟩; subst hw)
        | (go_at_call 41; refine (i_within _ _ _ _).mono ?_; rintro e w' ⟨rfl, rfl⟩)
        | (have hq := hb1; clear hq; go_at_call 114; refine (h2 _ hb1).mono ?_; rintro e w2 ⟨rfl, hb2⟩)
        | (go_at_call 114; refine h1.mono ?_; rintro e w1 ⟨rfl, hb1⟩))
          all_goals (go_ret2; exact ⟨rfl, hb1⟩)
      · have hx : s.data.toList.getD (i + 1) 0 = 98 ∨ s.data.toList.getD (i + 1) 0 = 116 ∨ s.data.toList.getD (i + 1) 0 = 110 ∨ s.data.toList.getD (i + 1) 0 = 102 ∨ s.data.toList.getD (i + 1) 0 = 114 := by
          rcases hcs with h | h | h | h | h | h | h | h | h | h
          · exact absurd (.inl h) h0
          · exact absurd (.inr (.inl h)) h0
          · exact absurd (.inr (.inr h)) h0
          · exact .inl h
          · exact .inr (.inl h)
          · exact .inr (.inr (.inl h))
          · exact .inr (.inr (.inr (.inl h)))
          · exact .inr (.inr (.inr (.inr h)))
          · exact absurd h hu
          · exact absurd h hn
        have i1 : Lib.indexByte [98, 116, 110, 102, 114] 98 = 0 := by decide
        have i2 : Lib.indexByte [98, 116, 110, 102, 114] 116 = 1 := by decide
        have i3 : Lib.indexByte [98, 116, 110, 102, 114] 110 = 2 := by decide
        have i4 : Lib.indexByte [98, 116, 110, 102, 114] 102 = 3 := by decide
        have i5 : Lib.indexByte [98, 116, 110, 102, 114] 114 = 4 := by decide
        have hE : escP s.data.toList (i + 1) = ((if s.data.toList.getD (i + 1) 0 = 98 then 8 else if s.data.toList.getD (i + 1) 0 = 116 then 9 else if s.data.toList.getD (i + 1) 0 = 110 then 10 else if s.data.toList.getD (i + 1) 0 = 102 then 12 else 13), ((i + 1 : Nat) : Int) + 1, true) := by
          unfold escP
          rcases hx with h | h | h | h | h <;> rw [h] <;> rfl
        rw [hE]
        generalize s.data.toList.getD (i + 1) 0 = x at e1 hx ⊢
        clear h0 h1 h2 hu hcs hn hE
        rcases hx with rfl | rfl | rfl | rfl | rfl
        all_goals
          go_enter Tryz.func77, Tryz.ntmps77
          go_wp2_with (first
        | (go_at_call 75; refine (i_byteAt _ _ _ hs).mono ?_; rintro e w' ⟨rfl, rfl⟩)
        | (go_at_call 52; refine (Tryz.strings_IndexByte _ _ _).mono ?_; rintro e w' ⟨rfl, hw⟩; subst hw))
          go_ret2
          exact ⟨retII_eq (by first | rfl | decide +kernel) (by go_num), Below.refl _ _⟩
end Go.Proofs.YtceijgaocjghcaaGreatDoor
