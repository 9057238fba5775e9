/- The reference's OpenUp and LooseTight. (Written by wip/gen/tightspec2.py.) -/
import Derived.Test.YtnfokfogmniehaaTightS
set_option linter.unusedVariables false
set_option maxRecDepth 100000
set_option linter.unusedSimpArgs false
namespace Go.Proofs.Ytnfokfogmniehaa
open Go.RowKit

theorem headP_7 (n v : Int) : headP true 7 n v = headP false 7 n v := by unfold headP; (repeat' split) <;> simp_all
theorem tightGo_op {k : Int} (h7 : k ≠ 7) (h8 : k ≠ 8) (h9 : k ≠ 9) (h10 : k ≠ 10) (h11 : k ≠ 11) (n x : Int) (s : ByteArray) (m : Nat) (ih ih2 : List (List UInt8)) : tightGo false true k n x s m ih = tightGo false false k n x s m ih2 := by
  unfold tightGo
  rw [if_neg h8, if_neg h7, if_neg h9, if_neg h10, if_neg h11, if_neg h8, if_neg h7, if_neg h9, if_neg h10, if_neg h11]
theorem tightGo_wd {k : Int} (h3 : k ≠ 3) (h7 : k ≠ 7) (h8 : k ≠ 8) (h9 : k ≠ 9) (h10 : k ≠ 10) (h11 : k ≠ 11) (n x : Int) (s : ByteArray) (m : Nat) (ih ih2 : List (List UInt8)) : tightGo true false k n x s m ih = tightGo false false k n x s m ih2 := by
  unfold tightGo
  rw [if_neg h3, if_neg h8, if_neg h7, if_neg h9, if_neg h10, if_neg h11, if_neg h3, if_neg h8, if_neg h7, if_neg h9, if_neg h10, if_neg h11]
  simp only [headP_7]
theorem numP_wide {mj n : Int} (h : 0 ≤ mj ∧ mj < 7) (hn : 0 ≤ n ∧ n ≤ 1000000000000000) : numP true mj n = headP false mj n 8 := by
  unfold numP headP
  have h1 := headOk_for (mj := mj) (n := n) (by omega) hn
  rw [if_pos h1, if_pos ⟨rfl, h.2⟩, if_pos (headOk_8 h1), if_neg (by simp)]
theorem boxV5 {w : World} {g : Nat} {T : TypeId} {k n x : Int} {s : ByteArray} {A : Option Addr} {m c : Nat} (h : Blk w g T #[.int .i64 k, .int .i64 n, .int .i64 x, .string s, .slice A m c]) :
    w.cell? ⟨g, 0, none⟩ = some (.int .i64 k) ∧ w.cell? ⟨g, 1, none⟩ = some (.int .i64 n) ∧ w.cell? ⟨g, 2, none⟩ = some (.int .i64 x) ∧ w.cell? ⟨g, 3, none⟩ = some (.string s) ∧ w.cell? ⟨g, 4, none⟩ = some (.slice A m c) := ⟨h.cell 0, h.cell 1, h.cell 2, h.cell 3, h.cell 4⟩
def OuSays (t : Tr) : Prop := ∀ (e : El) (w : World), t.wf → LsAt w t.l e → e.lt w.heap.size → t.sz ≤ 1048576 →
  Calls Try.prog 60 #[trV t e] w fun r w' => ∃ A' n' c', r = .returned (.slice A' n' c') ∧ BS w' w.heap.size A' n' c' (tightT false true t) ∧ Below w.heap.size w w'
set_option maxHeartbeats 1600000 in
theorem s_OpenUp (t : Tr) : OuSays t := by
  refine Tr.ind (P := OuSays) (fun t ih => ?_) t
  intro e w hwf hl hel hm
  have hw := (Tr.wf_iff t).1 hwf
  have hq := tightT_eq false true t
  have hsz := t.sz_eq
  obtain ⟨k, n, x, s, l⟩ := t
  obtain ⟨eA, en, ec, efp⟩ := e
  simp only at hw hq hsz ih hl
  have hen : l.length = en := hl.len
  have hss : s.size ≤ 1048576 := by omega
  have hszl := szT_le l 0
  have hww := hw.2.2.2.2
  have hn9 := hw.2.1
  have hx9 := hw.2.2.1
  have hec : en ≤ ec ∧ ec ≤ maxLen := ⟨((lsAt_iff _ _).1 hl).2.1, ((lsAt_iff _ _).1 hl).2.2.1⟩
  rw [hq]
  clear hw hq
  by_cases h8 : k = 8
  · subst h8
    clear hwf ih
    rcases Nat.eq_zero_or_pos s.size with h0 | h0
    · obtain ⟨R, hR⟩ : ∃ R, tightGo false true 8 n x s l.length (l.map (tightT false true)) = R := ⟨_, rfl⟩
      rw [hR]
      have HP := Lib.hid (hR.symm.trans (show tightGo false true 8 n x s l.length (l.map (tightT false true)) = headP false 2 0 (-1) ++ [255] from by show textP false true 2 s = _; unfold textP; rw [if_pos rfl, if_pos h0]))
      clear hR
      have k2 := Below.two w (.cells #[.int .i64 8, .int .i64 n, .int .i64 x, .string s, .slice eA en ec] 46) (.cells #[] 5)
      have BV : Blk ((w.alloc (.cells #[.int .i64 8, .int .i64 n, .int .i64 x, .string s, .slice eA en ec] 46)).alloc (.cells #[] 5)) w.heap.size 46 #[.int .i64 8, .int .i64 n, .int .i64 x, .string s, .slice eA en ec] := (Blk.new w _ _).alloc _
      go_enter Try.func60, Try.ntmps60
      go_wp2_with (go_at_call 18; refine (s_PutHead2 (nilSl _ _) (Nat.zero_le _) (by decide) (by omega)).mono ?_; rintro r w4 ⟨A4, n4, c4, rfl, h4, hb4⟩; rw [List.nil_append] at h4; have hB := h4.mono (lo' := w.heap.size + 1) (by simp); have kB := k2.up hb4; replace BV := BV.below hb4 BV.lt; have l4 := hB.len; have p4 : n4 ≤ 9 := (by rw [← l4]; exact headP_len _ _ _ _); have z4 : w.heap.size + 1 ≤ w4.heap.size := BV.lt; obtain ⟨v0, v1, v2, v3, v4⟩ := boxV5 BV)
      go_loop [6, 7] (fun x y => x = .slice A4 n4 c4 ∧ y = .int .i64 0) (fun x y => 0)
      case atStart => exact ⟨rfl, rfl⟩
      case round =>
        obtain ⟨rfl, rfl⟩ := hrel
        rcases Nat.eq_zero_or_pos en with he | he
        all_goals
          go_wp2_with (at_builtin; refine app_u8 rfl _ _ rfl (hB.alloc _) rfl (lit1 _ _ (by decide)) rfl (by omega) (by skip; simp; omega) ?_; intro A9 c9 w9 h9 hb9)
          go_ret
          exact ⟨_, _, _, rfl, by rw [HP.out]; exact h9.mono (Nat.le_succ _), kB.trans ((Below.one w4 _).mono (by omega) |>.trans (hb9.mono (Nat.le_succ _)))⟩
    · obtain ⟨R, hR⟩ : ∃ R, tightGo false true 8 n x s l.length (l.map (tightT false true)) = R := ⟨_, rfl⟩
      rw [hR]
      have HP := Lib.hid (hR.symm.trans (show tightGo false true 8 n x s l.length (l.map (tightT false true)) = headP false 2 0 (-1) ++ (numP false 2 s.size ++ s.data.toList) ++ [255] from by show textP false true 2 s = _; unfold textP; rw [if_pos rfl, if_neg (by omega)]))
      clear hR
      have k2 := Below.two w (.cells #[.int .i64 8, .int .i64 n, .int .i64 x, .string s, .slice eA en ec] 46) (.cells #[] 5)
      have BV : Blk ((w.alloc (.cells #[.int .i64 8, .int .i64 n, .int .i64 x, .string s, .slice eA en ec] 46)).alloc (.cells #[] 5)) w.heap.size 46 #[.int .i64 8, .int .i64 n, .int .i64 x, .string s, .slice eA en ec] := (Blk.new w _ _).alloc _
      go_enter Try.func60, Try.ntmps60
      go_wp2_with (go_at_call 18; refine (s_PutHead2 (nilSl _ _) (Nat.zero_le _) (by decide) (by omega)).mono ?_; rintro r w4 ⟨A4, n4, c4, rfl, h4, hb4⟩; rw [List.nil_append] at h4; have hB := h4.mono (lo' := w.heap.size + 1) (by simp); have kB := k2.up hb4; replace BV := BV.below hb4 BV.lt; have l4 := hB.len; have p4 : n4 ≤ 9 := (by rw [← l4]; exact headP_len _ _ _ _); have z4 : w.heap.size + 1 ≤ w4.heap.size := BV.lt; obtain ⟨v0, v1, v2, v3, v4⟩ := boxV5 BV)
      clear v0 v1 v2 v3 v4
      have hS0 := fun (w' : World) (hb : Below w4.heap.size w4 w') => (show BoxV w' w.heap.size (⟨8, n, x, s, l⟩ : Tr) (⟨eA, en, ec, efp⟩ : El) ∧ Below w4.heap.size w4 w' from ⟨boxV5 (BV.below hb BV.lt), hb⟩)
      have hS2 := fun (w' w'' : World) (h : BoxV w' w.heap.size (⟨8, n, x, s, l⟩ : Tr) (⟨eA, en, ec, efp⟩ : El) ∧ Below w4.heap.size w4 w') (hb : Below w'.heap.size w' w'') => hS0 w'' (h.2.up hb)
      have hS3 := fun (w' w'' : World) (h : BoxV w' w.heap.size (⟨8, n, x, s, l⟩ : Tr) (⟨eA, en, ec, efp⟩ : El) ∧ Below w4.heap.size w4 w') (hb : Below w4.heap.size w' w'') => hS0 w'' (h.2.trans hb)
      have hSz := fun (w' : World) (h : BoxV w' w.heap.size (⟨8, n, x, s, l⟩ : Tr) (⟨eA, en, ec, efp⟩ : El) ∧ Below w4.heap.size w4 w') => h.2.size
      have hSl := fun (w' : World) (h : BoxV w' w.heap.size (⟨8, n, x, s, l⟩ : Tr) (⟨eA, en, ec, efp⟩ : El) ∧ Below w4.heap.size w4 w') => hB.sl.below h.2
      go_region_held3 (fun w' => BoxV w' w.heap.size (⟨8, n, x, s, l⟩ : Tr) (⟨eA, en, ec, efp⟩ : El) ∧ Below w4.heap.size w4 w')
        (first | exact hS0 _ (Below.refl _ _).drew | (refine hS2 _ _ ?_ hbA; assumption) | (refine hS2 _ _ ?_ hbB; assumption) | (refine hS3 _ _ ?_ hbC; assumption))
        (first
          | (go_simp; go_at_call 113; refine (s_HeadFor2 (by decide) (by omega) _).mono ?_; rintro r w3 ⟨rfl, hbA⟩; have z3 := hSz _ (hS2 _ _ (by assumption) hbA))
          | (go_simp; go_at_call 18; refine (s_PutHead2 (hSl _ (by assumption)) z3 (by omega) (by omega)).mono ?_; rintro r w5 ⟨A5, n5, c5, rfl, h5, hbB⟩; replace h5 := h5.mono z3; have z5 := Nat.le_trans z3 hbB.size; have l5 := h5.len; simp only [List.length_append] at l5; have p5 := headP_len false 2 (s.size : Nat) (headWide (s.size : Nat)))
          | (refine app_strs rfl (.tmp 66) (.tmp 68) rfl h5 rfl rfl (by omega) z5 ?_; intro A6 c6 w6 h6 hbC))
      rename_i hHeld
      rename World => w7
      have kb := hHeld.2
      have BV7 := BV.below kb BV.lt
      have k7 := kB.trans (kb.mono kB.size)
      have z7 := BV7.lt
      have zz := kb.size
      clear hS0 hS2 hS3 hSz hSl hHeld hB
      obtain ⟨v0, v1, v2, v3, v4⟩ := boxV5 BV7
      go_wp2_with fail
      go_loop [6, 7] (fun x y => x = .slice A6 (n5 + s.size) c6 ∧ y = .int .i64 0) (fun x y => 0)
      case atStart => exact ⟨rfl, rfl⟩
      case round =>
        obtain ⟨rfl, rfl⟩ := hrel
        rcases Nat.eq_zero_or_pos en with he | he
        all_goals
          go_wp2_with (at_builtin; refine app_u8 rfl _ _ rfl (h6.alloc _) rfl (lit1 _ _ (by decide)) rfl (by omega) (by skip; simp; omega) ?_; intro A9 c9 w9 h9 hb9)
          go_ret
          exact ⟨_, _, _, rfl, by rw [HP.out, ← List.append_assoc]; exact h9.mono (by omega), k7.trans ((Below.one _ _).mono (by omega) |>.trans (hb9.mono (by omega)))⟩
  by_cases h7 : k = 7
  · subst h7
    clear hwf ih
    rcases Nat.eq_zero_or_pos s.size with h0 | h0
    · obtain ⟨R, hR⟩ : ∃ R, tightGo false true 7 n x s l.length (l.map (tightT false true)) = R := ⟨_, rfl⟩
      rw [hR]
      have HP := Lib.hid (hR.symm.trans (show tightGo false true 7 n x s l.length (l.map (tightT false true)) = headP false 3 0 (-1) ++ [255] from by show textP false true 3 s = _; unfold textP; rw [if_pos rfl, if_pos h0]))
      clear hR
      have k2 := Below.two w (.cells #[.int .i64 7, .int .i64 n, .int .i64 x, .string s, .slice eA en ec] 46) (.cells #[] 5)
      have BV : Blk ((w.alloc (.cells #[.int .i64 7, .int .i64 n, .int .i64 x, .string s, .slice eA en ec] 46)).alloc (.cells #[] 5)) w.heap.size 46 #[.int .i64 7, .int .i64 n, .int .i64 x, .string s, .slice eA en ec] := (Blk.new w _ _).alloc _
      go_enter Try.func60, Try.ntmps60
      go_wp2_with (go_at_call 18; refine (s_PutHead2 (nilSl _ _) (Nat.zero_le _) (by decide) (by omega)).mono ?_; rintro r w4 ⟨A4, n4, c4, rfl, h4, hb4⟩; rw [List.nil_append] at h4; have hB := h4.mono (lo' := w.heap.size + 1) (by simp); have kB := k2.up hb4; replace BV := BV.below hb4 BV.lt; have l4 := hB.len; have p4 : n4 ≤ 9 := (by rw [← l4]; exact headP_len _ _ _ _); have z4 : w.heap.size + 1 ≤ w4.heap.size := BV.lt; obtain ⟨v0, v1, v2, v3, v4⟩ := boxV5 BV)
      go_loop [6, 7] (fun x y => x = .slice A4 n4 c4 ∧ y = .int .i64 0) (fun x y => 0)
      case atStart => exact ⟨rfl, rfl⟩
      case round =>
        obtain ⟨rfl, rfl⟩ := hrel
        rcases Nat.eq_zero_or_pos en with he | he
        all_goals
          go_wp2_with (at_builtin; refine app_u8 rfl _ _ rfl (hB.alloc _) rfl (lit1 _ _ (by decide)) rfl (by omega) (by skip; simp; omega) ?_; intro A9 c9 w9 h9 hb9)
          go_ret
          exact ⟨_, _, _, rfl, by rw [HP.out]; exact h9.mono (Nat.le_succ _), kB.trans ((Below.one w4 _).mono (by omega) |>.trans (hb9.mono (Nat.le_succ _)))⟩
    · obtain ⟨R, hR⟩ : ∃ R, tightGo false true 7 n x s l.length (l.map (tightT false true)) = R := ⟨_, rfl⟩
      rw [hR]
      have HP := Lib.hid (hR.symm.trans (show tightGo false true 7 n x s l.length (l.map (tightT false true)) = headP false 3 0 (-1) ++ (numP false 3 s.size ++ s.data.toList) ++ [255] from by show textP false true 3 s = _; unfold textP; rw [if_pos rfl, if_neg (by omega)]))
      clear hR
      have k2 := Below.two w (.cells #[.int .i64 7, .int .i64 n, .int .i64 x, .string s, .slice eA en ec] 46) (.cells #[] 5)
      have BV : Blk ((w.alloc (.cells #[.int .i64 7, .int .i64 n, .int .i64 x, .string s, .slice eA en ec] 46)).alloc (.cells #[] 5)) w.heap.size 46 #[.int .i64 7, .int .i64 n, .int .i64 x, .string s, .slice eA en ec] := (Blk.new w _ _).alloc _
      go_enter Try.func60, Try.ntmps60
      go_wp2_with (go_at_call 18; refine (s_PutHead2 (nilSl _ _) (Nat.zero_le _) (by decide) (by omega)).mono ?_; rintro r w4 ⟨A4, n4, c4, rfl, h4, hb4⟩; rw [List.nil_append] at h4; have hB := h4.mono (lo' := w.heap.size + 1) (by simp); have kB := k2.up hb4; replace BV := BV.below hb4 BV.lt; have l4 := hB.len; have p4 : n4 ≤ 9 := (by rw [← l4]; exact headP_len _ _ _ _); have z4 : w.heap.size + 1 ≤ w4.heap.size := BV.lt; obtain ⟨v0, v1, v2, v3, v4⟩ := boxV5 BV)
      clear v0 v1 v2 v3 v4
      have hS0 := fun (w' : World) (hb : Below w4.heap.size w4 w') => (show BoxV w' w.heap.size (⟨7, n, x, s, l⟩ : Tr) (⟨eA, en, ec, efp⟩ : El) ∧ Below w4.heap.size w4 w' from ⟨boxV5 (BV.below hb BV.lt), hb⟩)
      have hS2 := fun (w' w'' : World) (h : BoxV w' w.heap.size (⟨7, n, x, s, l⟩ : Tr) (⟨eA, en, ec, efp⟩ : El) ∧ Below w4.heap.size w4 w') (hb : Below w'.heap.size w' w'') => hS0 w'' (h.2.up hb)
      have hS3 := fun (w' w'' : World) (h : BoxV w' w.heap.size (⟨7, n, x, s, l⟩ : Tr) (⟨eA, en, ec, efp⟩ : El) ∧ Below w4.heap.size w4 w') (hb : Below w4.heap.size w' w'') => hS0 w'' (h.2.trans hb)
      have hSz := fun (w' : World) (h : BoxV w' w.heap.size (⟨7, n, x, s, l⟩ : Tr) (⟨eA, en, ec, efp⟩ : El) ∧ Below w4.heap.size w4 w') => h.2.size
      have hSl := fun (w' : World) (h : BoxV w' w.heap.size (⟨7, n, x, s, l⟩ : Tr) (⟨eA, en, ec, efp⟩ : El) ∧ Below w4.heap.size w4 w') => hB.sl.below h.2
      go_region_held3 (fun w' => BoxV w' w.heap.size (⟨7, n, x, s, l⟩ : Tr) (⟨eA, en, ec, efp⟩ : El) ∧ Below w4.heap.size w4 w')
        (first | exact hS0 _ (Below.refl _ _).drew | (refine hS2 _ _ ?_ hbA; assumption) | (refine hS2 _ _ ?_ hbB; assumption) | (refine hS3 _ _ ?_ hbC; assumption))
        (first
          | (go_simp; go_at_call 113; refine (s_HeadFor2 (by decide) (by omega) _).mono ?_; rintro r w3 ⟨rfl, hbA⟩; have z3 := hSz _ (hS2 _ _ (by assumption) hbA))
          | (go_simp; go_at_call 18; refine (s_PutHead2 (hSl _ (by assumption)) z3 (by omega) (by omega)).mono ?_; rintro r w5 ⟨A5, n5, c5, rfl, h5, hbB⟩; replace h5 := h5.mono z3; have z5 := Nat.le_trans z3 hbB.size; have l5 := h5.len; simp only [List.length_append] at l5; have p5 := headP_len false 3 (s.size : Nat) (headWide (s.size : Nat)))
          | (refine app_strs rfl (.tmp 66) (.tmp 68) rfl h5 rfl rfl (by omega) z5 ?_; intro A6 c6 w6 h6 hbC))
      rename_i hHeld
      rename World => w7
      have kb := hHeld.2
      have BV7 := BV.below kb BV.lt
      have k7 := kB.trans (kb.mono kB.size)
      have z7 := BV7.lt
      have zz := kb.size
      clear hS0 hS2 hS3 hSz hSl hHeld hB
      obtain ⟨v0, v1, v2, v3, v4⟩ := boxV5 BV7
      go_wp2_with fail
      go_loop [6, 7] (fun x y => x = .slice A6 (n5 + s.size) c6 ∧ y = .int .i64 0) (fun x y => 0)
      case atStart => exact ⟨rfl, rfl⟩
      case round =>
        obtain ⟨rfl, rfl⟩ := hrel
        rcases Nat.eq_zero_or_pos en with he | he
        all_goals
          go_wp2_with (at_builtin; refine app_u8 rfl _ _ rfl (h6.alloc _) rfl (lit1 _ _ (by decide)) rfl (by omega) (by skip; simp; omega) ?_; intro A9 c9 w9 h9 hb9)
          go_ret
          exact ⟨_, _, _, rfl, by rw [HP.out, ← List.append_assoc]; exact h9.mono (by omega), k7.trans ((Below.one _ _).mono (by omega) |>.trans (hb9.mono (by omega)))⟩
  by_cases h9 : k = 9
  · subst h9
    obtain ⟨R, hR⟩ : ∃ R, tightGo false true 9 n x s l.length (l.map (tightT false true)) = R := ⟨_, rfl⟩
    rw [hR]
    have HP := Lib.hid (hR.symm.trans (show tightGo false true 9 n x s l.length (l.map (tightT false true)) = headP false 4 0 (-1) ++ (l.map (tightT false true)).flatten ++ [255] from by show elemP false true 4 (l.length : Int) (l.map (tightT false true)).flatten = _; unfold elemP; rw [if_pos ⟨rfl, by decide⟩]))
    clear hR
    rcases Nat.eq_zero_or_pos s.size with h0 | h0
    all_goals
      have k2 := Below.two w (.cells #[.int .i64 9, .int .i64 n, .int .i64 x, .string s, .slice eA en ec] 46) (.cells #[] 5)
      have BV : Blk ((w.alloc (.cells #[.int .i64 9, .int .i64 n, .int .i64 x, .string s, .slice eA en ec] 46)).alloc (.cells #[] 5)) w.heap.size 46 #[.int .i64 9, .int .i64 n, .int .i64 x, .string s, .slice eA en ec] := (Blk.new w _ _).alloc _
      go_enter Try.func60, Try.ntmps60
      go_wp2_with (go_at_call 18; refine (s_PutHead2 (nilSl _ _) (Nat.zero_le _) (by decide) (by omega)).mono ?_; rintro r w4 ⟨A4, n4, c4, rfl, h4, hb4⟩; rw [List.nil_append] at h4; have hB := h4.mono (lo' := w.heap.size + 1) (by simp); have kB := k2.up hb4; replace BV := BV.below hb4 BV.lt; have l4 := hB.len; have p4 : n4 ≤ 9 := (by rw [← l4]; exact headP_len _ _ _ _); have z4 : w.heap.size + 1 ≤ w4.heap.size := BV.lt; obtain ⟨v0, v1, v2, v3, v4⟩ := boxV5 BV)
      go_loopg [6, 7] en (fun f y z wr => ∃ (j n' c' : Nat) (A' : Option Addr), j + f = en ∧ y = .slice A' n' c' ∧ z = .int .i64 j ∧ BS wr (w.heap.size + 1) A' n' c' (headP false 4 0 (-1) ++ tights false true l j) ∧ Below w.heap.size w wr ∧ Blk wr w.heap.size 46 #[.int .i64 9, .int .i64 n, .int .i64 x, .string s, .slice eA en ec])
      case atStart => exact ⟨0, _, _, A4, by omega, rfl, rfl, by rw [tights_zero, List.append_nil]; exact hB, kB, BV⟩
      case round =>
        obtain ⟨j, n', c', A', hjf, rfl, rfl, hP, hk, BV2⟩ := hrel
        clear v0 v1 v2 v3 v4
        clear hB kB BV
        obtain ⟨v0, v1, v2, v3, v4⟩ := boxV5 BV2
        have z4 : w.heap.size + 1 ≤ wr.heap.size := BV2.lt
        have hnl := hP.len
        simp only [List.length_append] at hnl
        have hpp : (headP false 4 0 (-1)).length ≤ 9 := headP_len _ _ _ _
        have hpl := tights_len false true l j
        rw [szL_take2 l j (by omega)] at hpl
        by_cases hlt : j < en
        · obtain ⟨f, rfl⟩ : ∃ f, gk = f + 1 := ⟨gk - 1, by omega⟩
          obtain ⟨g, o, u, hj, hAe, hgm, ⟨c0, c1, c2, c3, c4⟩, hch, hsub⟩ := (hl.below hel hk).elem hlt
          have hAe : eA = some ⟨g, o, none⟩ := hAe
          subst hAe
          have hul : u.lt w.heap.size := fun x hx => hel x (hsub x hx)
          have hz1 := szT_succ hj
          have hz2 := szT_le l (j + 1)
          have hpu := tightT_len false true l[j]
          have hih := ih l[j] (List.getElem_mem hj) u wr (hww _ (List.getElem_mem hj)) hch (hul.mono hk.size) (by omega)
          clear ih hww hch
          go_wp2_with (first
            | (go_at_call 60; refine hih.mono ?_; rintro r w5 ⟨A5, n5, c5, rfl, h5, hb5⟩; have hl5 := h5.len; have hB5 := hP.below hb5; have bx5 := BV2.below hb5 BV2.lt; have k5 := hk.up hb5)
            | (at_builtin; refine app_u8 rfl _ _ rfl hB5 rfl h5.sl rfl (by omega) (bx5.lt) ?_; intro A6 c6 w6 h6 hb6))
          have bx6 := bx5.below hb6 (Nat.lt_succ_self _)
          clear hih hB5 bx5 hP BV2 v0 v1 v2 v3 v4 h5
          go_roundg f
          case measure => omega
          case rel => exact ⟨j + 1, _, c6, A6, by omega, rfl, by go_num, by rw [tights_succ hj, ← List.append_assoc]; exact h6, k5.trans (hb6.mono (Nat.le_succ _)), bx6⟩
        · obtain rfl : j = en := by omega
          have hz2 := szT_le l j
          go_wp2_with (at_builtin; refine app_u8 rfl _ _ rfl (hP.alloc _) rfl (lit1 _ _ (by decide)) rfl (by omega) (by skip; simp; omega) ?_; intro A9 c9 w9 h9 hb9)
          go_ret
          exact ⟨_, _, _, rfl, by rw [HP.out, ← tights_all (l := l) (j := j) (by omega)]; exact h9.mono (Nat.le_succ _), hk.trans ((Below.one wr _).mono (by omega) |>.trans (hb9.mono (Nat.le_succ _)))⟩
  by_cases h10 : k = 10
  · subst h10
    obtain ⟨R, hR⟩ : ∃ R, tightGo false true 10 n x s l.length (l.map (tightT false true)) = R := ⟨_, rfl⟩
    rw [hR]
    have HP := Lib.hid (hR.symm.trans (show tightGo false true 10 n x s l.length (l.map (tightT false true)) = headP false 5 0 (-1) ++ (l.map (tightT false true)).flatten ++ [255] from by show elemP false true 5 ((l.length : Int) / 2) (l.map (tightT false true)).flatten = _; unfold elemP; rw [if_pos ⟨rfl, by decide⟩]))
    clear hR
    rcases Nat.eq_zero_or_pos s.size with h0 | h0
    all_goals
      have k2 := Below.two w (.cells #[.int .i64 10, .int .i64 n, .int .i64 x, .string s, .slice eA en ec] 46) (.cells #[] 5)
      have BV : Blk ((w.alloc (.cells #[.int .i64 10, .int .i64 n, .int .i64 x, .string s, .slice eA en ec] 46)).alloc (.cells #[] 5)) w.heap.size 46 #[.int .i64 10, .int .i64 n, .int .i64 x, .string s, .slice eA en ec] := (Blk.new w _ _).alloc _
      go_enter Try.func60, Try.ntmps60
      go_wp2_with (go_at_call 18; refine (s_PutHead2 (nilSl _ _) (Nat.zero_le _) (by decide) (by omega)).mono ?_; rintro r w4 ⟨A4, n4, c4, rfl, h4, hb4⟩; rw [List.nil_append] at h4; have hB := h4.mono (lo' := w.heap.size + 1) (by simp); have kB := k2.up hb4; replace BV := BV.below hb4 BV.lt; have l4 := hB.len; have p4 : n4 ≤ 9 := (by rw [← l4]; exact headP_len _ _ _ _); have z4 : w.heap.size + 1 ≤ w4.heap.size := BV.lt; obtain ⟨v0, v1, v2, v3, v4⟩ := boxV5 BV)
      go_loopg [6, 7] en (fun f y z wr => ∃ (j n' c' : Nat) (A' : Option Addr), j + f = en ∧ y = .slice A' n' c' ∧ z = .int .i64 j ∧ BS wr (w.heap.size + 1) A' n' c' (headP false 5 0 (-1) ++ tights false true l j) ∧ Below w.heap.size w wr ∧ Blk wr w.heap.size 46 #[.int .i64 10, .int .i64 n, .int .i64 x, .string s, .slice eA en ec])
      case atStart => exact ⟨0, _, _, A4, by omega, rfl, rfl, by rw [tights_zero, List.append_nil]; exact hB, kB, BV⟩
      case round =>
        obtain ⟨j, n', c', A', hjf, rfl, rfl, hP, hk, BV2⟩ := hrel
        clear v0 v1 v2 v3 v4
        clear hB kB BV
        obtain ⟨v0, v1, v2, v3, v4⟩ := boxV5 BV2
        have z4 : w.heap.size + 1 ≤ wr.heap.size := BV2.lt
        have hnl := hP.len
        simp only [List.length_append] at hnl
        have hpp : (headP false 5 0 (-1)).length ≤ 9 := headP_len _ _ _ _
        have hpl := tights_len false true l j
        rw [szL_take2 l j (by omega)] at hpl
        by_cases hlt : j < en
        · obtain ⟨f, rfl⟩ : ∃ f, gk = f + 1 := ⟨gk - 1, by omega⟩
          obtain ⟨g, o, u, hj, hAe, hgm, ⟨c0, c1, c2, c3, c4⟩, hch, hsub⟩ := (hl.below hel hk).elem hlt
          have hAe : eA = some ⟨g, o, none⟩ := hAe
          subst hAe
          have hul : u.lt w.heap.size := fun x hx => hel x (hsub x hx)
          have hz1 := szT_succ hj
          have hz2 := szT_le l (j + 1)
          have hpu := tightT_len false true l[j]
          have hih := ih l[j] (List.getElem_mem hj) u wr (hww _ (List.getElem_mem hj)) hch (hul.mono hk.size) (by omega)
          clear ih hww hch
          go_wp2_with (first
            | (go_at_call 60; refine hih.mono ?_; rintro r w5 ⟨A5, n5, c5, rfl, h5, hb5⟩; have hl5 := h5.len; have hB5 := hP.below hb5; have bx5 := BV2.below hb5 BV2.lt; have k5 := hk.up hb5)
            | (at_builtin; refine app_u8 rfl _ _ rfl hB5 rfl h5.sl rfl (by omega) (bx5.lt) ?_; intro A6 c6 w6 h6 hb6))
          have bx6 := bx5.below hb6 (Nat.lt_succ_self _)
          clear hih hB5 bx5 hP BV2 v0 v1 v2 v3 v4 h5
          go_roundg f
          case measure => omega
          case rel => exact ⟨j + 1, _, c6, A6, by omega, rfl, by go_num, by rw [tights_succ hj, ← List.append_assoc]; exact h6, k5.trans (hb6.mono (Nat.le_succ _)), bx6⟩
        · obtain rfl : j = en := by omega
          have hz2 := szT_le l j
          go_wp2_with (at_builtin; refine app_u8 rfl _ _ rfl (hP.alloc _) rfl (lit1 _ _ (by decide)) rfl (by omega) (by skip; simp; omega) ?_; intro A9 c9 w9 h9 hb9)
          go_ret
          exact ⟨_, _, _, rfl, by rw [HP.out, ← tights_all (l := l) (j := j) (by omega)]; exact h9.mono (Nat.le_succ _), hk.trans ((Below.one wr _).mono (by omega) |>.trans (hb9.mono (Nat.le_succ _)))⟩
  by_cases h11 : k = 11
  · subst h11
    by_cases hr : 0 ≤ n ∧ n ≤ 1000000000000000
    · have hb := inR_yes hr.1 hr.2
      obtain ⟨R, hR⟩ : ∃ R, tightGo false true 11 n x s l.length (l.map (tightT false true)) = R := ⟨_, rfl⟩
      rw [hR]
      have HP := Lib.hid (hR.symm.trans (show tightGo false true 11 n x s l.length (l.map (tightT false true)) = numP false 6 n ++ (l.map (tightT false true)).flatten from by rw [show tightGo false true 11 n x s l.length (l.map (tightT false true)) = (if inR n 0 1000000000000000 = true then elemP false true 6 n (l.map (tightT false true)).flatten else []) from rfl, if_pos hb]; unfold elemP; rw [if_neg (by simp)]))
      clear hR
      have k2 := Below.two w (.cells #[.int .i64 11, .int .i64 n, .int .i64 x, .string s, .slice eA en ec] 46) (.cells #[] 5)
      have BV : Blk ((w.alloc (.cells #[.int .i64 11, .int .i64 n, .int .i64 x, .string s, .slice eA en ec] 46)).alloc (.cells #[] 5)) w.heap.size 46 #[.int .i64 11, .int .i64 n, .int .i64 x, .string s, .slice eA en ec] := (Blk.new w _ _).alloc _
      go_enter Try.func60, Try.ntmps60
      go_wp2_with (first | (go_at_call 97; refine (s_l1In _ _ _ _).mono ?_; rintro e w' ⟨rfl, rfl⟩) | (go_at_call 113; refine (s_HeadFor2 (by decide) (by omega) _).mono ?_; rintro r w3 ⟨rfl, hb3⟩; replace BV := BV.below hb3 BV.lt; replace k2 := k2.up hb3; have z3 := BV.lt) | (go_at_call 18; refine (s_PutHead2 (nilSl _ _) (Nat.zero_le _) (by decide) (by omega)).mono ?_; rintro r w4 ⟨A4, n4, c4, rfl, h4, hb4⟩; rw [List.nil_append] at h4; have hB := h4.mono (lo' := w.heap.size + 1) (by omega); have kB := k2.up hb4; replace BV := BV.below hb4 BV.lt; have l4 := hB.len; have p4 : n4 ≤ 9 := (by rw [← l4]; exact headP_len _ _ _ _); have z4 : w.heap.size + 1 ≤ w4.heap.size := BV.lt; obtain ⟨v0, v1, v2, v3, v4⟩ := boxV5 BV))
      go_loopg [4, 5] en (fun f y z wr => ∃ (j n' c' : Nat) (A' : Option Addr), j + f = en ∧ y = .slice A' n' c' ∧ z = .int .i64 j ∧ BS wr (w.heap.size + 1) A' n' c' (numP false 6 n ++ tights false true l j) ∧ Below w.heap.size w wr ∧ Blk wr w.heap.size 46 #[.int .i64 11, .int .i64 n, .int .i64 x, .string s, .slice eA en ec])
      case atStart => exact ⟨0, _, _, A4, by omega, rfl, rfl, by rw [tights_zero, List.append_nil]; exact hB, kB, BV⟩
      case round =>
        obtain ⟨j, n', c', A', hjf, rfl, rfl, hP, hk, BV2⟩ := hrel
        clear v0 v1 v2 v3 v4
        clear hB kB BV
        obtain ⟨v0, v1, v2, v3, v4⟩ := boxV5 BV2
        have z4 : w.heap.size + 1 ≤ wr.heap.size := BV2.lt
        have hnl := hP.len
        simp only [List.length_append] at hnl
        have hpp : (numP false 6 n).length ≤ 9 := headP_len _ _ _ _
        have hpl := tights_len false true l j
        rw [szL_take2 l j (by omega)] at hpl
        by_cases hlt : j < en
        · obtain ⟨f, rfl⟩ : ∃ f, gk = f + 1 := ⟨gk - 1, by omega⟩
          obtain ⟨g, o, u, hj, hAe, hgm, ⟨c0, c1, c2, c3, c4⟩, hch, hsub⟩ := (hl.below hel hk).elem hlt
          have hAe : eA = some ⟨g, o, none⟩ := hAe
          subst hAe
          have hul : u.lt w.heap.size := fun x hx => hel x (hsub x hx)
          have hz1 := szT_succ hj
          have hz2 := szT_le l (j + 1)
          have hpu := tightT_len false true l[j]
          have hih := ih l[j] (List.getElem_mem hj) u wr (hww _ (List.getElem_mem hj)) hch (hul.mono hk.size) (by omega)
          clear ih hww hch
          go_wp2_with (first
            | (go_at_call 60; refine hih.mono ?_; rintro r w5 ⟨A5, n5, c5, rfl, h5, hb5⟩; have hl5 := h5.len; have hB5 := hP.below hb5; have bx5 := BV2.below hb5 BV2.lt; have k5 := hk.up hb5)
            | (at_builtin; refine app_u8 rfl _ _ rfl hB5 rfl h5.sl rfl (by omega) (bx5.lt) ?_; intro A6 c6 w6 h6 hb6))
          have bx6 := bx5.below hb6 (Nat.lt_succ_self _)
          clear hih hB5 bx5 hP BV2 v0 v1 v2 v3 v4 h5
          go_roundg f
          case measure => omega
          case rel => exact ⟨j + 1, _, c6, A6, by omega, rfl, by go_num, by rw [tights_succ hj, ← List.append_assoc]; exact h6, k5.trans (hb6.mono (Nat.le_succ _)), bx6⟩
        · obtain rfl : j = en := by omega
          have hz2 := szT_le l j
          go_wp2_with fail
          go_ret
          exact ⟨_, _, _, rfl, by rw [HP.out, ← tights_all (l := l) (j := j) (by omega)]; exact hP.mono (Nat.le_succ _), hk⟩
    · have hb : inR n 0 1000000000000000 = false := inR_no (by omega)
      obtain ⟨R, hR⟩ : ∃ R, tightGo false true 11 n x s l.length (l.map (tightT false true)) = R := ⟨_, rfl⟩
      rw [hR]
      have HP := Lib.hid (hR.symm.trans (show tightGo false true 11 n x s l.length (l.map (tightT false true)) = [] from by rw [show tightGo false true 11 n x s l.length (l.map (tightT false true)) = (if inR n 0 1000000000000000 = true then elemP false true 6 n (l.map (tightT false true)).flatten else []) from rfl, if_neg (by rw [hb]; decide)]))
      clear hR
      have k2 := Below.two w (.cells #[.int .i64 11, .int .i64 n, .int .i64 x, .string s, .slice eA en ec] 46) (.cells #[] 5)
      have BV : Blk ((w.alloc (.cells #[.int .i64 11, .int .i64 n, .int .i64 x, .string s, .slice eA en ec] 46)).alloc (.cells #[] 5)) w.heap.size 46 #[.int .i64 11, .int .i64 n, .int .i64 x, .string s, .slice eA en ec] := (Blk.new w _ _).alloc _
      go_enter Try.func60, Try.ntmps60
      go_wp2_with (go_at_call 97; refine (s_l1In _ _ _ _).mono ?_; rintro e w' ⟨rfl, rfl⟩)
      go_ret
      exact ⟨_, _, _, rfl, by rw [HP.out]; exact BS.mono (BS.new' _ (w.heap.size + 1) (by simp)) (Nat.le_succ _), k2⟩
  have hT := s_PackTight ⟨k, n, x, s, l⟩ ⟨eA, en, ec, efp⟩ (w.alloc (.cells #[.int .i64 k, .int .i64 n, .int .i64 x, .string s, .slice eA en ec] 46)) hwf (hl.below hel (Below.one w _)) (hel.mono (Below.one w _).size) hm
  rw [tightT_eq] at hT
  have HP := tightGo_op h7 h8 h9 h10 h11 n x s l.length (l.map (tightT false true)) (l.map (tightT false false))
  rw [HP]
  have f7 : (k == 7) = false := by simpa using h7
  have f8 : (k == 8) = false := by simpa using h8
  have f9 : (k == 9) = false := by simpa using h9
  have f10 : (k == 10) = false := by simpa using h10
  have f11 : (k == 11) = false := by simpa using h11
  clear h7 h8 h9 h10 h11 HP
  go_enter Try.func60, Try.ntmps60
  go_wp2_with (go_at_call 58; refine hT.mono ?_; rintro r w1 ⟨A1, n1, c1, rfl, h1, hb1⟩)
  go_ret
  exact ⟨_, _, _, rfl, h1.mono (by simp), hb1.boxed⟩
end Go.Proofs.Ytnfokfogmniehaa
