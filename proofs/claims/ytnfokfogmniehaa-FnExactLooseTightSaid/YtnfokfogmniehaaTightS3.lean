/- The reference's LooseTight. (Written by wip/gen/tightspec2.py.) -/
import Derived.Test.YtnfokfogmniehaaTightS2
set_option linter.unusedVariables false
set_option maxRecDepth 100000
set_option linter.unusedSimpArgs false
namespace Go.Proofs.Ytnfokfogmniehaa
open Go.RowKit

def LtSays (t : Tr) : Prop := ∀ (e : El) (w : World), t.wf → LsAt w t.l e → e.lt w.heap.size → t.sz ≤ 1048576 →
  Calls Try.prog 62 #[trV t e] w fun r w' => ∃ A' n' c', r = .returned (.slice A' n' c') ∧ BS w' w.heap.size A' n' c' (tightT true false t) ∧ Below w.heap.size w w'
set_option maxHeartbeats 1600000 in
theorem s_LooseTight (t : Tr) : LtSays t := by
  refine Tr.ind (P := LtSays) (fun t ih => ?_) t
  intro e w hwf hl hel hm
  have hw := (Tr.wf_iff t).1 hwf
  have hq := tightT_eq true false t
  have hsz := t.sz_eq
  obtain ⟨k, n, x, s, l⟩ := t
  obtain ⟨eA, en, ec, efp⟩ := e
  simp only at hw hq hsz ih hl
  have hen : l.length = en := hl.len
  have hss : s.size ≤ 1048576 := by omega
  have hszl := szT_le l 0
  have hww := hw.2.2.2.2
  have hn9 := hw.2.1
  have hx9 := hw.2.2.1
  have hec : en ≤ ec ∧ ec ≤ maxLen := ⟨((lsAt_iff _ _).1 hl).2.1, ((lsAt_iff _ _).1 hl).2.2.1⟩
  rw [hq]
  clear hw hq
  by_cases h3 : k = 3
  · subst h3
    by_cases hr : -1000000000000000 ≤ n ∧ n ≤ 1000000000000000
    · have hb := inR_yes hr.1 hr.2
      by_cases hn : n < 0
      · skip
        obtain ⟨R, hR⟩ : ∃ R, tightGo true false 3 n x s l.length (l.map (tightT true false)) = R := ⟨_, rfl⟩
        rw [hR]
        have HP := Lib.hid (hR.symm.trans (show tightGo true false 3 n x s l.length (l.map (tightT true false)) = headP false 1 (-1 - n) 8 from by rw [← numP_wide (by decide) (by omega)]; unfold tightGo; rw [if_pos rfl, if_pos hb, if_pos hn]))
        clear hR
        have HK : headOk 1 (-1 - n) 8 = true := headOk_8 (headOk_for (mj := 1) (n := (-1 - n)) (by decide) (by omega))
        have HB : Blk ((w.alloc (.cells #[.int .i64 3, .int .i64 n, .int .i64 x, .string s, .slice eA en ec] 46)).alloc (.cells #[.int .i64 1, .int .i64 (-1 - n), .int .i64 8] 27)) (w.heap.size + 1) 27 #[.int .i64 1, .int .i64 (-1 - n), .int .i64 8] := by simpa using Blk.new (w.alloc (.cells #[.int .i64 3, .int .i64 n, .int .i64 x, .string s, .slice eA en ec] 46)) 27 #[.int .i64 1, .int .i64 (-1 - n), .int .i64 8]
        have BV : Blk ((w.alloc (.cells #[.int .i64 3, .int .i64 n, .int .i64 x, .string s, .slice eA en ec] 46)).alloc (.cells #[.int .i64 1, .int .i64 (-1 - n), .int .i64 8] 27)) w.heap.size 46 #[.int .i64 3, .int .i64 n, .int .i64 x, .string s, .slice eA en ec] := (Blk.new w _ _).alloc _
        have k2 : Below w.heap.size w ((w.alloc (.cells #[.int .i64 3, .int .i64 n, .int .i64 x, .string s, .slice eA en ec] 46)).alloc (.cells #[.int .i64 1, .int .i64 (-1 - n), .int .i64 8] 27)) := Below.two w _ _
        go_enter Try.func62, Try.ntmps62
        go_wp2_with (first | (go_at_call 97; refine (s_l1In _ _ _ _).mono ?_; rintro e w' ⟨rfl, rfl⟩) | (go_at_call 68; refine (s_HeadOk _ _ _ _).mono ?_; rintro r w3 ⟨rfl, hb3⟩; rw [HK]; replace BV := BV.below hb3 BV.lt; have HB3 := HB.below hb3 HB.lt; replace k2 := k2.up hb3; have z3 := HB3.lt; obtain ⟨⟨b0, b1, b2⟩, -⟩ := HB3.box3 (Below.refl _ _); obtain ⟨v0, v1, v2, v3, v4⟩ := boxV5 BV) | (go_at_call 18; refine (s_PutHead2 (nilSl _ _) (Nat.zero_le _) (by decide) (by omega)).mono ?_; rintro r w4 ⟨A4, n4, c4, rfl, h4, hb4⟩; rw [List.nil_append] at h4; replace BV := (BV.alloc _).below hb4 (by have := BV.lt; simp; omega); have k4 := (k2.up (Below.one _ _)).up hb4; have l4 := h4.len; replace h4 := h4.mono (lo' := w.heap.size + 1) (by simp; omega); have p4 : n4 ≤ 9 := (by rw [← l4]; exact headP_len _ _ _ _); have z4 : w.heap.size + 1 ≤ w4.heap.size := BV.lt; clear b0 b1 b2 v0 v1 v2 v3 v4) | (at_builtin; refine app_strg rfl _ _ rfl h4 rfl rfl (by first | omega | (show n4 + 0 ≤ 70368744177664; omega)) z4 ?_; intro A5 c5 w5 h5 hg5; have hb5 := hg5.below h4 z4; replace BV := BV.below hb5 (Nat.lt_succ_self _); have k5 := k4.trans (hb5.mono (Nat.le_succ _)); obtain ⟨v0, v1, v2, v3, v4⟩ := boxV5 BV))
        go_ret
        exact ⟨_, _, _, rfl, by rw [HP.out]; exact BS.mono (by rw [← List.append_nil (headP false 1 (-1 - n) 8)]; exact h5 : BS w5 (w.heap.size + 1) A5 n4 c5 _) (Nat.le_succ _), k5⟩
      · skip
        obtain ⟨R, hR⟩ : ∃ R, tightGo true false 3 n x s l.length (l.map (tightT true false)) = R := ⟨_, rfl⟩
        rw [hR]
        have HP := Lib.hid (hR.symm.trans (show tightGo true false 3 n x s l.length (l.map (tightT true false)) = headP false 0 n 8 from by rw [← numP_wide (by decide) (by omega)]; unfold tightGo; rw [if_pos rfl, if_pos hb, if_neg hn]))
        clear hR
        have HK : headOk 0 n 8 = true := headOk_8 (headOk_for (mj := 0) (n := n) (by decide) (by omega))
        have HB : Blk ((w.alloc (.cells #[.int .i64 3, .int .i64 n, .int .i64 x, .string s, .slice eA en ec] 46)).alloc (.cells #[.int .i64 0, .int .i64 n, .int .i64 8] 27)) (w.heap.size + 1) 27 #[.int .i64 0, .int .i64 n, .int .i64 8] := by simpa using Blk.new (w.alloc (.cells #[.int .i64 3, .int .i64 n, .int .i64 x, .string s, .slice eA en ec] 46)) 27 #[.int .i64 0, .int .i64 n, .int .i64 8]
        have BV : Blk ((w.alloc (.cells #[.int .i64 3, .int .i64 n, .int .i64 x, .string s, .slice eA en ec] 46)).alloc (.cells #[.int .i64 0, .int .i64 n, .int .i64 8] 27)) w.heap.size 46 #[.int .i64 3, .int .i64 n, .int .i64 x, .string s, .slice eA en ec] := (Blk.new w _ _).alloc _
        have k2 : Below w.heap.size w ((w.alloc (.cells #[.int .i64 3, .int .i64 n, .int .i64 x, .string s, .slice eA en ec] 46)).alloc (.cells #[.int .i64 0, .int .i64 n, .int .i64 8] 27)) := Below.two w _ _
        go_enter Try.func62, Try.ntmps62
        go_wp2_with (first | (go_at_call 97; refine (s_l1In _ _ _ _).mono ?_; rintro e w' ⟨rfl, rfl⟩) | (go_at_call 68; refine (s_HeadOk _ _ _ _).mono ?_; rintro r w3 ⟨rfl, hb3⟩; rw [HK]; replace BV := BV.below hb3 BV.lt; have HB3 := HB.below hb3 HB.lt; replace k2 := k2.up hb3; have z3 := HB3.lt; obtain ⟨⟨b0, b1, b2⟩, -⟩ := HB3.box3 (Below.refl _ _); obtain ⟨v0, v1, v2, v3, v4⟩ := boxV5 BV) | (go_at_call 18; refine (s_PutHead2 (nilSl _ _) (Nat.zero_le _) (by decide) (by omega)).mono ?_; rintro r w4 ⟨A4, n4, c4, rfl, h4, hb4⟩; rw [List.nil_append] at h4; replace BV := (BV.alloc _).below hb4 (by have := BV.lt; simp; omega); have k4 := (k2.up (Below.one _ _)).up hb4; have l4 := h4.len; replace h4 := h4.mono (lo' := w.heap.size + 1) (by simp; omega); have p4 : n4 ≤ 9 := (by rw [← l4]; exact headP_len _ _ _ _); have z4 : w.heap.size + 1 ≤ w4.heap.size := BV.lt; clear b0 b1 b2 v0 v1 v2 v3 v4) | (at_builtin; refine app_strg rfl _ _ rfl h4 rfl rfl (by first | omega | (show n4 + 0 ≤ 70368744177664; omega)) z4 ?_; intro A5 c5 w5 h5 hg5; have hb5 := hg5.below h4 z4; replace BV := BV.below hb5 (Nat.lt_succ_self _); have k5 := k4.trans (hb5.mono (Nat.le_succ _)); obtain ⟨v0, v1, v2, v3, v4⟩ := boxV5 BV))
        go_ret
        exact ⟨_, _, _, rfl, by rw [HP.out]; exact BS.mono (by rw [← List.append_nil (headP false 0 n 8)]; exact h5 : BS w5 (w.heap.size + 1) A5 n4 c5 _) (Nat.le_succ _), k5⟩
    · have hb : inR n (-1000000000000000) 1000000000000000 = false := inR_no (by omega)
      obtain ⟨R, hR⟩ : ∃ R, tightGo true false 3 n x s l.length (l.map (tightT true false)) = R := ⟨_, rfl⟩
      rw [hR]
      have HP := Lib.hid (hR.symm.trans (show tightGo true false 3 n x s l.length (l.map (tightT true false)) = [] from by unfold tightGo; rw [if_pos rfl, if_neg (by rw [hb]; decide)]))
      clear hR
      go_enter Try.func62, Try.ntmps62
      go_wp2_with (go_at_call 97; refine (s_l1In _ _ _ _).mono ?_; rintro e w' ⟨rfl, rfl⟩)
      go_ret
      exact ⟨_, _, _, rfl, by rw [HP.out]; exact BS.mono (BS.new' _ (w.heap.size + 2) (by simp)) (by omega), (Below.two w _ _).up (Below.one _ _)⟩
  by_cases h8 : k = 8
  · subst h8
    obtain ⟨R, hR⟩ : ∃ R, tightGo true false 8 n x s l.length (l.map (tightT true false)) = R := ⟨_, rfl⟩
    rw [hR]
    have HP := Lib.hid (hR.symm.trans (show tightGo true false 8 n x s l.length (l.map (tightT true false)) = headP false 2 (s.size : Nat) 8 ++ s.data.toList from by rw [← numP_wide (by decide) (by omega)]; show textP true false 2 s = _; unfold textP; rw [if_neg (by simp)]))
    clear hR
    have HK : headOk 2 (s.size : Nat) 8 = true := headOk_8 (headOk_for (mj := 2) (n := (s.size : Nat)) (by decide) (by omega))
    have HB : Blk ((w.alloc (.cells #[.int .i64 8, .int .i64 n, .int .i64 x, .string s, .slice eA en ec] 46)).alloc (.cells #[.int .i64 2, .int .i64 (s.size : Nat), .int .i64 8] 27)) (w.heap.size + 1) 27 #[.int .i64 2, .int .i64 (s.size : Nat), .int .i64 8] := by simpa using Blk.new (w.alloc (.cells #[.int .i64 8, .int .i64 n, .int .i64 x, .string s, .slice eA en ec] 46)) 27 #[.int .i64 2, .int .i64 (s.size : Nat), .int .i64 8]
    have BV : Blk ((w.alloc (.cells #[.int .i64 8, .int .i64 n, .int .i64 x, .string s, .slice eA en ec] 46)).alloc (.cells #[.int .i64 2, .int .i64 (s.size : Nat), .int .i64 8] 27)) w.heap.size 46 #[.int .i64 8, .int .i64 n, .int .i64 x, .string s, .slice eA en ec] := (Blk.new w _ _).alloc _
    have k2 : Below w.heap.size w ((w.alloc (.cells #[.int .i64 8, .int .i64 n, .int .i64 x, .string s, .slice eA en ec] 46)).alloc (.cells #[.int .i64 2, .int .i64 (s.size : Nat), .int .i64 8] 27)) := Below.two w _ _
    go_enter Try.func62, Try.ntmps62
    go_wp2_with (first | (go_at_call 97; refine (s_l1In _ _ _ _).mono ?_; rintro e w' ⟨rfl, rfl⟩) | (go_at_call 68; refine (s_HeadOk _ _ _ _).mono ?_; rintro r w3 ⟨rfl, hb3⟩; rw [HK]; replace BV := BV.below hb3 BV.lt; have HB3 := HB.below hb3 HB.lt; replace k2 := k2.up hb3; have z3 := HB3.lt; obtain ⟨⟨b0, b1, b2⟩, -⟩ := HB3.box3 (Below.refl _ _); obtain ⟨v0, v1, v2, v3, v4⟩ := boxV5 BV) | (go_at_call 18; refine (s_PutHead2 (nilSl _ _) (Nat.zero_le _) (by decide) (by omega)).mono ?_; rintro r w4 ⟨A4, n4, c4, rfl, h4, hb4⟩; rw [List.nil_append] at h4; replace BV := (BV.alloc _).below hb4 (by have := BV.lt; simp; omega); have k4 := (k2.up (Below.one _ _)).up hb4; have l4 := h4.len; replace h4 := h4.mono (lo' := w.heap.size + 1) (by simp; omega); have p4 : n4 ≤ 9 := (by rw [← l4]; exact headP_len _ _ _ _); have z4 : w.heap.size + 1 ≤ w4.heap.size := BV.lt; clear b0 b1 b2 v0 v1 v2 v3 v4) | (at_builtin; refine app_strg rfl _ _ rfl h4 rfl rfl (by first | omega | (show n4 + 0 ≤ 70368744177664; omega)) z4 ?_; intro A5 c5 w5 h5 hg5; have hb5 := hg5.below h4 z4; replace BV := BV.below hb5 (Nat.lt_succ_self _); have k5 := k4.trans (hb5.mono (Nat.le_succ _)); obtain ⟨v0, v1, v2, v3, v4⟩ := boxV5 BV))
    go_ret
    exact ⟨_, _, _, rfl, by rw [HP.out]; exact BS.mono (h5 : BS w5 (w.heap.size + 1) A5 _ c5 _) (Nat.le_succ _), k5⟩
  by_cases h7 : k = 7
  · subst h7
    obtain ⟨R, hR⟩ : ∃ R, tightGo true false 7 n x s l.length (l.map (tightT true false)) = R := ⟨_, rfl⟩
    rw [hR]
    have HP := Lib.hid (hR.symm.trans (show tightGo true false 7 n x s l.length (l.map (tightT true false)) = headP false 3 (s.size : Nat) 8 ++ s.data.toList from by rw [← numP_wide (by decide) (by omega)]; show textP true false 3 s = _; unfold textP; rw [if_neg (by simp)]))
    clear hR
    have HK : headOk 3 (s.size : Nat) 8 = true := headOk_8 (headOk_for (mj := 3) (n := (s.size : Nat)) (by decide) (by omega))
    have HB : Blk ((w.alloc (.cells #[.int .i64 7, .int .i64 n, .int .i64 x, .string s, .slice eA en ec] 46)).alloc (.cells #[.int .i64 3, .int .i64 (s.size : Nat), .int .i64 8] 27)) (w.heap.size + 1) 27 #[.int .i64 3, .int .i64 (s.size : Nat), .int .i64 8] := by simpa using Blk.new (w.alloc (.cells #[.int .i64 7, .int .i64 n, .int .i64 x, .string s, .slice eA en ec] 46)) 27 #[.int .i64 3, .int .i64 (s.size : Nat), .int .i64 8]
    have BV : Blk ((w.alloc (.cells #[.int .i64 7, .int .i64 n, .int .i64 x, .string s, .slice eA en ec] 46)).alloc (.cells #[.int .i64 3, .int .i64 (s.size : Nat), .int .i64 8] 27)) w.heap.size 46 #[.int .i64 7, .int .i64 n, .int .i64 x, .string s, .slice eA en ec] := (Blk.new w _ _).alloc _
    have k2 : Below w.heap.size w ((w.alloc (.cells #[.int .i64 7, .int .i64 n, .int .i64 x, .string s, .slice eA en ec] 46)).alloc (.cells #[.int .i64 3, .int .i64 (s.size : Nat), .int .i64 8] 27)) := Below.two w _ _
    go_enter Try.func62, Try.ntmps62
    go_wp2_with (first | (go_at_call 97; refine (s_l1In _ _ _ _).mono ?_; rintro e w' ⟨rfl, rfl⟩) | (go_at_call 68; refine (s_HeadOk _ _ _ _).mono ?_; rintro r w3 ⟨rfl, hb3⟩; rw [HK]; replace BV := BV.below hb3 BV.lt; have HB3 := HB.below hb3 HB.lt; replace k2 := k2.up hb3; have z3 := HB3.lt; obtain ⟨⟨b0, b1, b2⟩, -⟩ := HB3.box3 (Below.refl _ _); obtain ⟨v0, v1, v2, v3, v4⟩ := boxV5 BV) | (go_at_call 18; refine (s_PutHead2 (nilSl _ _) (Nat.zero_le _) (by decide) (by omega)).mono ?_; rintro r w4 ⟨A4, n4, c4, rfl, h4, hb4⟩; rw [List.nil_append] at h4; replace BV := (BV.alloc _).below hb4 (by have := BV.lt; simp; omega); have k4 := (k2.up (Below.one _ _)).up hb4; have l4 := h4.len; replace h4 := h4.mono (lo' := w.heap.size + 1) (by simp; omega); have p4 : n4 ≤ 9 := (by rw [← l4]; exact headP_len _ _ _ _); have z4 : w.heap.size + 1 ≤ w4.heap.size := BV.lt; clear b0 b1 b2 v0 v1 v2 v3 v4) | (at_builtin; refine app_strg rfl _ _ rfl h4 rfl rfl (by first | omega | (show n4 + 0 ≤ 70368744177664; omega)) z4 ?_; intro A5 c5 w5 h5 hg5; have hb5 := hg5.below h4 z4; replace BV := BV.below hb5 (Nat.lt_succ_self _); have k5 := k4.trans (hb5.mono (Nat.le_succ _)); obtain ⟨v0, v1, v2, v3, v4⟩ := boxV5 BV))
    go_ret
    exact ⟨_, _, _, rfl, by rw [HP.out]; exact BS.mono (h5 : BS w5 (w.heap.size + 1) A5 _ c5 _) (Nat.le_succ _), k5⟩
  by_cases h9 : k = 9
  · subst h9
    obtain ⟨R, hR⟩ : ∃ R, tightGo true false 9 n x s l.length (l.map (tightT true false)) = R := ⟨_, rfl⟩
    rw [hR]
    have HP := Lib.hid (hR.symm.trans (show tightGo true false 9 n x s l.length (l.map (tightT true false)) = headP false 4 (en : Int) 8 ++ (l.map (tightT true false)).flatten from by rw [← numP_wide (by decide) (by omega), ← hen]; show elemP true false 4 (l.length : Int) (l.map (tightT true false)).flatten = _; unfold elemP; rw [if_neg (by simp)]))
    clear hR
    have HK : headOk 4 (en : Int) 8 = true := headOk_8 (headOk_for (mj := 4) (n := (en : Int)) (by decide) (by omega))
    have HB : Blk ((w.alloc (.cells #[.int .i64 9, .int .i64 n, .int .i64 x, .string s, .slice eA en ec] 46)).alloc (.cells #[.int .i64 4, .int .i64 (en : Int), .int .i64 8] 27)) (w.heap.size + 1) 27 #[.int .i64 4, .int .i64 (en : Int), .int .i64 8] := by simpa using Blk.new (w.alloc (.cells #[.int .i64 9, .int .i64 n, .int .i64 x, .string s, .slice eA en ec] 46)) 27 #[.int .i64 4, .int .i64 (en : Int), .int .i64 8]
    have BV : Blk ((w.alloc (.cells #[.int .i64 9, .int .i64 n, .int .i64 x, .string s, .slice eA en ec] 46)).alloc (.cells #[.int .i64 4, .int .i64 (en : Int), .int .i64 8] 27)) w.heap.size 46 #[.int .i64 9, .int .i64 n, .int .i64 x, .string s, .slice eA en ec] := (Blk.new w _ _).alloc _
    have k2 : Below w.heap.size w ((w.alloc (.cells #[.int .i64 9, .int .i64 n, .int .i64 x, .string s, .slice eA en ec] 46)).alloc (.cells #[.int .i64 4, .int .i64 (en : Int), .int .i64 8] 27)) := Below.two w _ _
    go_enter Try.func62, Try.ntmps62
    go_wp2_with (first | (go_at_call 97; refine (s_l1In _ _ _ _).mono ?_; rintro e w' ⟨rfl, rfl⟩) | (go_at_call 68; refine (s_HeadOk _ _ _ _).mono ?_; rintro r w3 ⟨rfl, hb3⟩; rw [HK]; replace BV := BV.below hb3 BV.lt; have HB3 := HB.below hb3 HB.lt; replace k2 := k2.up hb3; have z3 := HB3.lt; obtain ⟨⟨b0, b1, b2⟩, -⟩ := HB3.box3 (Below.refl _ _); obtain ⟨v0, v1, v2, v3, v4⟩ := boxV5 BV) | (go_at_call 18; refine (s_PutHead2 (nilSl _ _) (Nat.zero_le _) (by decide) (by omega)).mono ?_; rintro r w4 ⟨A4, n4, c4, rfl, h4, hb4⟩; rw [List.nil_append] at h4; replace BV := (BV.alloc _).below hb4 (by have := BV.lt; simp; omega); have k4 := (k2.up (Below.one _ _)).up hb4; have l4 := h4.len; replace h4 := h4.mono (lo' := w.heap.size + 1) (by simp; omega); have p4 : n4 ≤ 9 := (by rw [← l4]; exact headP_len _ _ _ _); have z4 : w.heap.size + 1 ≤ w4.heap.size := BV.lt; clear b0 b1 b2 v0 v1 v2 v3 v4) | (at_builtin; refine app_strg rfl _ _ rfl h4 rfl rfl (by first | omega | (show n4 + 0 ≤ 70368744177664; omega)) z4 ?_; intro A5 c5 w5 h5 hg5; have hb5 := hg5.below h4 z4; replace BV := BV.below hb5 (Nat.lt_succ_self _); have k5 := k4.trans (hb5.mono (Nat.le_succ _)); obtain ⟨v0, v1, v2, v3, v4⟩ := boxV5 BV))
    have hB : BS w5 (w.heap.size + 1) A5 n4 c5 (headP false 4 (en : Int) 8) := by rw [← List.append_nil (headP false 4 (en : Int) 8)]; exact h5
    have kB := k5
    clear h5 h4 k5 k4 k2 hg5 hb5
    go_loopg [5, 6] en (fun f y z wr => ∃ (j n' c' : Nat) (A' : Option Addr), j + f = en ∧ y = .slice A' n' c' ∧ z = .int .i64 j ∧ BS wr (w.heap.size + 1) A' n' c' (headP false 4 (en : Int) 8 ++ tights true false l j) ∧ Below w.heap.size w wr ∧ Blk wr w.heap.size 46 #[.int .i64 9, .int .i64 n, .int .i64 x, .string s, .slice eA en ec])
    case atStart => exact ⟨0, _, _, A5, by omega, rfl, rfl, by rw [tights_zero, List.append_nil]; exact hB, kB, BV⟩
    case round =>
      obtain ⟨j, n', c', A', hjf, rfl, rfl, hP, hk, BV2⟩ := hrel
      clear v0 v1 v2 v3 v4
      clear hB kB BV
      obtain ⟨v0, v1, v2, v3, v4⟩ := boxV5 BV2
      have z4 : w.heap.size + 1 ≤ wr.heap.size := BV2.lt
      have hnl := hP.len
      simp only [List.length_append] at hnl
      have hpp : (headP false 4 (en : Int) 8).length ≤ 9 := headP_len _ _ _ _
      have hpl := tights_len true false l j
      rw [szL_take2 l j (by omega)] at hpl
      by_cases hlt : j < en
      · obtain ⟨f, rfl⟩ : ∃ f, gk = f + 1 := ⟨gk - 1, by omega⟩
        obtain ⟨g, o, u, hj, hAe, hgm, ⟨c0, c1, c2, c3, c4⟩, hch, hsub⟩ := (hl.below hel hk).elem hlt
        have hAe : eA = some ⟨g, o, none⟩ := hAe
        subst hAe
        have hul : u.lt w.heap.size := fun x hx => hel x (hsub x hx)
        have hz1 := szT_succ hj
        have hz2 := szT_le l (j + 1)
        have hpu := tightT_len true false l[j]
        have hih := ih l[j] (List.getElem_mem hj) u wr (hww _ (List.getElem_mem hj)) hch (hul.mono hk.size) (by omega)
        clear ih hww hch
        go_wp2_with (first
          | (go_at_call 62; refine hih.mono ?_; rintro r w5 ⟨A5, n5, c5, rfl, h5, hb5⟩; have hl5 := h5.len; have hB5 := hP.below hb5; have bx5 := BV2.below hb5 BV2.lt; have k5 := hk.up hb5)
          | (at_builtin; refine app_u8 rfl _ _ rfl hB5 rfl h5.sl rfl (by omega) (bx5.lt) ?_; intro A6 c6 w6 h6 hb6))
        have bx6 := bx5.below hb6 (Nat.lt_succ_self _)
        clear hih hB5 bx5 hP BV2 v0 v1 v2 v3 v4 h5
        go_roundg f
        case measure => omega
        case rel => exact ⟨j + 1, _, c6, A6, by omega, rfl, by go_num, by rw [tights_succ hj, ← List.append_assoc]; exact h6, k5.trans (hb6.mono (Nat.le_succ _)), bx6⟩
      · obtain rfl : j = en := by omega
        have hz2 := szT_le l j
        go_wp2_with fail
        go_ret
        exact ⟨_, _, _, rfl, by rw [HP.out, ← tights_all (l := l) (j := j) (by omega)]; exact hP.mono (Nat.le_succ _), hk⟩
  by_cases h10 : k = 10
  · subst h10
    obtain ⟨R, hR⟩ : ∃ R, tightGo true false 10 n x s l.length (l.map (tightT true false)) = R := ⟨_, rfl⟩
    rw [hR]
    have HP := Lib.hid (hR.symm.trans (show tightGo true false 10 n x s l.length (l.map (tightT true false)) = headP false 5 ((en : Int) / 2) 8 ++ (l.map (tightT true false)).flatten from by rw [← numP_wide (by decide) (by omega), ← hen]; show elemP true false 5 ((l.length : Int) / 2) (l.map (tightT true false)).flatten = _; unfold elemP; rw [if_neg (by simp)]))
    clear hR
    have HK : headOk 5 ((en : Int) / 2) 8 = true := headOk_8 (headOk_for (mj := 5) (n := ((en : Int) / 2)) (by decide) (by omega))
    have HB : Blk ((w.alloc (.cells #[.int .i64 10, .int .i64 n, .int .i64 x, .string s, .slice eA en ec] 46)).alloc (.cells #[.int .i64 5, .int .i64 ((en : Int) / 2), .int .i64 8] 27)) (w.heap.size + 1) 27 #[.int .i64 5, .int .i64 ((en : Int) / 2), .int .i64 8] := by simpa using Blk.new (w.alloc (.cells #[.int .i64 10, .int .i64 n, .int .i64 x, .string s, .slice eA en ec] 46)) 27 #[.int .i64 5, .int .i64 ((en : Int) / 2), .int .i64 8]
    have BV : Blk ((w.alloc (.cells #[.int .i64 10, .int .i64 n, .int .i64 x, .string s, .slice eA en ec] 46)).alloc (.cells #[.int .i64 5, .int .i64 ((en : Int) / 2), .int .i64 8] 27)) w.heap.size 46 #[.int .i64 10, .int .i64 n, .int .i64 x, .string s, .slice eA en ec] := (Blk.new w _ _).alloc _
    have k2 : Below w.heap.size w ((w.alloc (.cells #[.int .i64 10, .int .i64 n, .int .i64 x, .string s, .slice eA en ec] 46)).alloc (.cells #[.int .i64 5, .int .i64 ((en : Int) / 2), .int .i64 8] 27)) := Below.two w _ _
    go_enter Try.func62, Try.ntmps62
    go_wp2_with (first | (go_at_call 97; refine (s_l1In _ _ _ _).mono ?_; rintro e w' ⟨rfl, rfl⟩) | (go_at_call 68; refine (s_HeadOk _ _ _ _).mono ?_; rintro r w3 ⟨rfl, hb3⟩; rw [HK]; replace BV := BV.below hb3 BV.lt; have HB3 := HB.below hb3 HB.lt; replace k2 := k2.up hb3; have z3 := HB3.lt; obtain ⟨⟨b0, b1, b2⟩, -⟩ := HB3.box3 (Below.refl _ _); obtain ⟨v0, v1, v2, v3, v4⟩ := boxV5 BV) | (go_at_call 18; refine (s_PutHead2 (nilSl _ _) (Nat.zero_le _) (by decide) (by omega)).mono ?_; rintro r w4 ⟨A4, n4, c4, rfl, h4, hb4⟩; rw [List.nil_append] at h4; replace BV := (BV.alloc _).below hb4 (by have := BV.lt; simp; omega); have k4 := (k2.up (Below.one _ _)).up hb4; have l4 := h4.len; replace h4 := h4.mono (lo' := w.heap.size + 1) (by simp; omega); have p4 : n4 ≤ 9 := (by rw [← l4]; exact headP_len _ _ _ _); have z4 : w.heap.size + 1 ≤ w4.heap.size := BV.lt; clear b0 b1 b2 v0 v1 v2 v3 v4) | (at_builtin; refine app_strg rfl _ _ rfl h4 rfl rfl (by first | omega | (show n4 + 0 ≤ 70368744177664; omega)) z4 ?_; intro A5 c5 w5 h5 hg5; have hb5 := hg5.below h4 z4; replace BV := BV.below hb5 (Nat.lt_succ_self _); have k5 := k4.trans (hb5.mono (Nat.le_succ _)); obtain ⟨v0, v1, v2, v3, v4⟩ := boxV5 BV))
    have hB : BS w5 (w.heap.size + 1) A5 n4 c5 (headP false 5 ((en : Int) / 2) 8) := by rw [← List.append_nil (headP false 5 ((en : Int) / 2) 8)]; exact h5
    have kB := k5
    clear h5 h4 k5 k4 k2 hg5 hb5
    go_loopg [5, 6] en (fun f y z wr => ∃ (j n' c' : Nat) (A' : Option Addr), j + f = en ∧ y = .slice A' n' c' ∧ z = .int .i64 j ∧ BS wr (w.heap.size + 1) A' n' c' (headP false 5 ((en : Int) / 2) 8 ++ tights true false l j) ∧ Below w.heap.size w wr ∧ Blk wr w.heap.size 46 #[.int .i64 10, .int .i64 n, .int .i64 x, .string s, .slice eA en ec])
    case atStart => exact ⟨0, _, _, A5, by omega, rfl, rfl, by rw [tights_zero, List.append_nil]; exact hB, kB, BV⟩
    case round =>
      obtain ⟨j, n', c', A', hjf, rfl, rfl, hP, hk, BV2⟩ := hrel
      clear v0 v1 v2 v3 v4
      clear hB kB BV
      obtain ⟨v0, v1, v2, v3, v4⟩ := boxV5 BV2
      have z4 : w.heap.size + 1 ≤ wr.heap.size := BV2.lt
      have hnl := hP.len
      simp only [List.length_append] at hnl
      have hpp : (headP false 5 ((en : Int) / 2) 8).length ≤ 9 := headP_len _ _ _ _
      have hpl := tights_len true false l j
      rw [szL_take2 l j (by omega)] at hpl
      by_cases hlt : j < en
      · obtain ⟨f, rfl⟩ : ∃ f, gk = f + 1 := ⟨gk - 1, by omega⟩
        obtain ⟨g, o, u, hj, hAe, hgm, ⟨c0, c1, c2, c3, c4⟩, hch, hsub⟩ := (hl.below hel hk).elem hlt
        have hAe : eA = some ⟨g, o, none⟩ := hAe
        subst hAe
        have hul : u.lt w.heap.size := fun x hx => hel x (hsub x hx)
        have hz1 := szT_succ hj
        have hz2 := szT_le l (j + 1)
        have hpu := tightT_len true false l[j]
        have hih := ih l[j] (List.getElem_mem hj) u wr (hww _ (List.getElem_mem hj)) hch (hul.mono hk.size) (by omega)
        clear ih hww hch
        go_wp2_with (first
          | (go_at_call 62; refine hih.mono ?_; rintro r w5 ⟨A5, n5, c5, rfl, h5, hb5⟩; have hl5 := h5.len; have hB5 := hP.below hb5; have bx5 := BV2.below hb5 BV2.lt; have k5 := hk.up hb5)
          | (at_builtin; refine app_u8 rfl _ _ rfl hB5 rfl h5.sl rfl (by omega) (bx5.lt) ?_; intro A6 c6 w6 h6 hb6))
        have bx6 := bx5.below hb6 (Nat.lt_succ_self _)
        clear hih hB5 bx5 hP BV2 v0 v1 v2 v3 v4 h5
        go_roundg f
        case measure => omega
        case rel => exact ⟨j + 1, _, c6, A6, by omega, rfl, by go_num, by rw [tights_succ hj, ← List.append_assoc]; exact h6, k5.trans (hb6.mono (Nat.le_succ _)), bx6⟩
      · obtain rfl : j = en := by omega
        have hz2 := szT_le l j
        go_wp2_with fail
        go_ret
        exact ⟨_, _, _, rfl, by rw [HP.out, ← tights_all (l := l) (j := j) (by omega)]; exact hP.mono (Nat.le_succ _), hk⟩
  by_cases h11 : k = 11
  · subst h11
    by_cases hr : 0 ≤ n ∧ n ≤ 1000000000000000
    · have hb := inR_yes hr.1 hr.2
      obtain ⟨R, hR⟩ : ∃ R, tightGo true false 11 n x s l.length (l.map (tightT true false)) = R := ⟨_, rfl⟩
      rw [hR]
      have HP := Lib.hid (hR.symm.trans (show tightGo true false 11 n x s l.length (l.map (tightT true false)) = headP false 6 n 8 ++ (l.map (tightT true false)).flatten from by rw [show tightGo true false 11 n x s l.length (l.map (tightT true false)) = (if inR n 0 1000000000000000 = true then elemP true false 6 n (l.map (tightT true false)).flatten else []) from rfl, if_pos hb, ← numP_wide (by decide) (by omega)]; unfold elemP; rw [if_neg (by simp)]))
      clear hR
      have HK : headOk 6 n 8 = true := headOk_8 (headOk_for (mj := 6) (n := n) (by decide) (by omega))
      have HB : Blk ((w.alloc (.cells #[.int .i64 11, .int .i64 n, .int .i64 x, .string s, .slice eA en ec] 46)).alloc (.cells #[.int .i64 6, .int .i64 n, .int .i64 8] 27)) (w.heap.size + 1) 27 #[.int .i64 6, .int .i64 n, .int .i64 8] := by simpa using Blk.new (w.alloc (.cells #[.int .i64 11, .int .i64 n, .int .i64 x, .string s, .slice eA en ec] 46)) 27 #[.int .i64 6, .int .i64 n, .int .i64 8]
      have BV : Blk ((w.alloc (.cells #[.int .i64 11, .int .i64 n, .int .i64 x, .string s, .slice eA en ec] 46)).alloc (.cells #[.int .i64 6, .int .i64 n, .int .i64 8] 27)) w.heap.size 46 #[.int .i64 11, .int .i64 n, .int .i64 x, .string s, .slice eA en ec] := (Blk.new w _ _).alloc _
      have k2 : Below w.heap.size w ((w.alloc (.cells #[.int .i64 11, .int .i64 n, .int .i64 x, .string s, .slice eA en ec] 46)).alloc (.cells #[.int .i64 6, .int .i64 n, .int .i64 8] 27)) := Below.two w _ _
      go_enter Try.func62, Try.ntmps62
      go_wp2_with (first | (go_at_call 97; refine (s_l1In _ _ _ _).mono ?_; rintro e w' ⟨rfl, rfl⟩) | (go_at_call 68; refine (s_HeadOk _ _ _ _).mono ?_; rintro r w3 ⟨rfl, hb3⟩; rw [HK]; replace BV := BV.below hb3 BV.lt; have HB3 := HB.below hb3 HB.lt; replace k2 := k2.up hb3; have z3 := HB3.lt; obtain ⟨⟨b0, b1, b2⟩, -⟩ := HB3.box3 (Below.refl _ _); obtain ⟨v0, v1, v2, v3, v4⟩ := boxV5 BV) | (go_at_call 18; refine (s_PutHead2 (nilSl _ _) (Nat.zero_le _) (by decide) (by omega)).mono ?_; rintro r w4 ⟨A4, n4, c4, rfl, h4, hb4⟩; rw [List.nil_append] at h4; replace BV := (BV.alloc _).below hb4 (by have := BV.lt; simp; omega); have k4 := (k2.up (Below.one _ _)).up hb4; have l4 := h4.len; replace h4 := h4.mono (lo' := w.heap.size + 1) (by simp; omega); have p4 : n4 ≤ 9 := (by rw [← l4]; exact headP_len _ _ _ _); have z4 : w.heap.size + 1 ≤ w4.heap.size := BV.lt; clear b0 b1 b2 v0 v1 v2 v3 v4) | (at_builtin; refine app_strg rfl _ _ rfl h4 rfl rfl (by first | omega | (show n4 + 0 ≤ 70368744177664; omega)) z4 ?_; intro A5 c5 w5 h5 hg5; have hb5 := hg5.below h4 z4; replace BV := BV.below hb5 (Nat.lt_succ_self _); have k5 := k4.trans (hb5.mono (Nat.le_succ _)); obtain ⟨v0, v1, v2, v3, v4⟩ := boxV5 BV))
      have hB : BS w5 (w.heap.size + 1) A5 n4 c5 (headP false 6 n 8) := by rw [← List.append_nil (headP false 6 n 8)]; exact h5
      have kB := k5
      clear h5 h4 k5 k4 k2 hg5 hb5
      go_loopg [5, 6] en (fun f y z wr => ∃ (j n' c' : Nat) (A' : Option Addr), j + f = en ∧ y = .slice A' n' c' ∧ z = .int .i64 j ∧ BS wr (w.heap.size + 1) A' n' c' (headP false 6 n 8 ++ tights true false l j) ∧ Below w.heap.size w wr ∧ Blk wr w.heap.size 46 #[.int .i64 11, .int .i64 n, .int .i64 x, .string s, .slice eA en ec])
      case atStart => exact ⟨0, _, _, A5, by omega, rfl, rfl, by rw [tights_zero, List.append_nil]; exact hB, kB, BV⟩
      case round =>
        obtain ⟨j, n', c', A', hjf, rfl, rfl, hP, hk, BV2⟩ := hrel
        clear v0 v1 v2 v3 v4
        clear hB kB BV
        obtain ⟨v0, v1, v2, v3, v4⟩ := boxV5 BV2
        have z4 : w.heap.size + 1 ≤ wr.heap.size := BV2.lt
        have hnl := hP.len
        simp only [List.length_append] at hnl
        have hpp : (headP false 6 n 8).length ≤ 9 := headP_len _ _ _ _
        have hpl := tights_len true false l j
        rw [szL_take2 l j (by omega)] at hpl
        by_cases hlt : j < en
        · obtain ⟨f, rfl⟩ : ∃ f, gk = f + 1 := ⟨gk - 1, by omega⟩
          obtain ⟨g, o, u, hj, hAe, hgm, ⟨c0, c1, c2, c3, c4⟩, hch, hsub⟩ := (hl.below hel hk).elem hlt
          have hAe : eA = some ⟨g, o, none⟩ := hAe
          subst hAe
          have hul : u.lt w.heap.size := fun x hx => hel x (hsub x hx)
          have hz1 := szT_succ hj
          have hz2 := szT_le l (j + 1)
          have hpu := tightT_len true false l[j]
          have hih := ih l[j] (List.getElem_mem hj) u wr (hww _ (List.getElem_mem hj)) hch (hul.mono hk.size) (by omega)
          clear ih hww hch
          go_wp2_with (first
            | (go_at_call 62; refine hih.mono ?_; rintro r w5 ⟨A5, n5, c5, rfl, h5, hb5⟩; have hl5 := h5.len; have hB5 := hP.below hb5; have bx5 := BV2.below hb5 BV2.lt; have k5 := hk.up hb5)
            | (at_builtin; refine app_u8 rfl _ _ rfl hB5 rfl h5.sl rfl (by omega) (bx5.lt) ?_; intro A6 c6 w6 h6 hb6))
          have bx6 := bx5.below hb6 (Nat.lt_succ_self _)
          clear hih hB5 bx5 hP BV2 v0 v1 v2 v3 v4 h5
          go_roundg f
          case measure => omega
          case rel => exact ⟨j + 1, _, c6, A6, by omega, rfl, by go_num, by rw [tights_succ hj, ← List.append_assoc]; exact h6, k5.trans (hb6.mono (Nat.le_succ _)), bx6⟩
        · obtain rfl : j = en := by omega
          have hz2 := szT_le l j
          go_wp2_with fail
          go_ret
          exact ⟨_, _, _, rfl, by rw [HP.out, ← tights_all (l := l) (j := j) (by omega)]; exact hP.mono (Nat.le_succ _), hk⟩
    · have hb : inR n 0 1000000000000000 = false := inR_no (by omega)
      obtain ⟨R, hR⟩ : ∃ R, tightGo true false 11 n x s l.length (l.map (tightT true false)) = R := ⟨_, rfl⟩
      rw [hR]
      have HP := Lib.hid (hR.symm.trans (show tightGo true false 11 n x s l.length (l.map (tightT true false)) = [] from by rw [show tightGo true false 11 n x s l.length (l.map (tightT true false)) = (if inR n 0 1000000000000000 = true then elemP true false 6 n (l.map (tightT true false)).flatten else []) from rfl, if_neg (by rw [hb]; decide)]))
      clear hR
      have HK : headOk 6 n 8 = false := (headOk_no (by omega)).symm
      have HB : Blk ((w.alloc (.cells #[.int .i64 11, .int .i64 n, .int .i64 x, .string s, .slice eA en ec] 46)).alloc (.cells #[.int .i64 6, .int .i64 n, .int .i64 8] 27)) (w.heap.size + 1) 27 #[.int .i64 6, .int .i64 n, .int .i64 8] := by simpa using Blk.new (w.alloc (.cells #[.int .i64 11, .int .i64 n, .int .i64 x, .string s, .slice eA en ec] 46)) 27 #[.int .i64 6, .int .i64 n, .int .i64 8]
      have BV : Blk ((w.alloc (.cells #[.int .i64 11, .int .i64 n, .int .i64 x, .string s, .slice eA en ec] 46)).alloc (.cells #[.int .i64 6, .int .i64 n, .int .i64 8] 27)) w.heap.size 46 #[.int .i64 11, .int .i64 n, .int .i64 x, .string s, .slice eA en ec] := (Blk.new w _ _).alloc _
      have k2 : Below w.heap.size w ((w.alloc (.cells #[.int .i64 11, .int .i64 n, .int .i64 x, .string s, .slice eA en ec] 46)).alloc (.cells #[.int .i64 6, .int .i64 n, .int .i64 8] 27)) := Below.two w _ _
      go_enter Try.func62, Try.ntmps62
      go_wp2_with (first | (go_at_call 97; refine (s_l1In _ _ _ _).mono ?_; rintro e w' ⟨rfl, rfl⟩) | (go_at_call 68; refine (s_HeadOk _ _ _ _).mono ?_; rintro r w3 ⟨rfl, hb3⟩; rw [HK]; replace BV := BV.below hb3 BV.lt; have HB3 := HB.below hb3 HB.lt; replace k2 := k2.up hb3; have z3 := HB3.lt; obtain ⟨⟨b0, b1, b2⟩, -⟩ := HB3.box3 (Below.refl _ _); obtain ⟨v0, v1, v2, v3, v4⟩ := boxV5 BV))
      go_ret
      exact ⟨_, _, _, rfl, by rw [HP.out]; exact (BS.new _).mono k2.size, k2.up (Below.one _ _)⟩
  have hT := s_PackTight ⟨k, n, x, s, l⟩ ⟨eA, en, ec, efp⟩ ((w.alloc (.cells #[.int .i64 k, .int .i64 n, .int .i64 x, .string s, .slice eA en ec] 46)).alloc (.cells #[.int .i64 0, .int .i64 0, .int .i64 8] 27)) hwf (hl.below hel (Below.two w _ _)) (hel.mono (Below.two w _ _).size) hm
  rw [tightT_eq] at hT
  have HP := tightGo_wd h3 h7 h8 h9 h10 h11 n x s l.length (l.map (tightT true false)) (l.map (tightT false false))
  rw [HP]
  have f3 : (k == 3) = false := by simpa using h3
  have f7 : (k == 7) = false := by simpa using h7
  have f8 : (k == 8) = false := by simpa using h8
  have f9 : (k == 9) = false := by simpa using h9
  have f10 : (k == 10) = false := by simpa using h10
  have f11 : (k == 11) = false := by simpa using h11
  clear h3 h7 h8 h9 h10 h11 HP
  go_enter Try.func62, Try.ntmps62
  go_wp2_with (go_at_call 58; refine hT.mono ?_; rintro r w1 ⟨A1, n1, c1, rfl, h1, hb1⟩)
  go_ret
  exact ⟨_, _, _, rfl, h1.mono (by simp; omega), (Below.two w _ _).up hb1⟩
end Go.Proofs.Ytnfokfogmniehaa
