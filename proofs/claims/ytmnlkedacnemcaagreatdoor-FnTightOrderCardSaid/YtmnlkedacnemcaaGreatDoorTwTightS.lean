/- The reference's PackTight. -/
import Derived.Test.YtmnlkedacnemcaaGreatDoorTwPacker3
import Derived.Deep.RegionHeld3
set_option linter.unusedVariables false
set_option maxRecDepth 100000
set_option linter.unusedSimpArgs false
namespace Go.Proofs.YtmnlkedacnemcaaGreatDoor
open Go.RowKit

theorem headP_false (mj n v : Int) : headP false mj n v = headB mj n v := by
  unfold headP
  cases h : headOk mj n v
  · rw [headB_no h]; rfl
  · rw [if_pos rfl, if_neg (by simp)]
theorem headOk_for {mj n : Int} (h : 0 ≤ mj ∧ mj ≤ 7) (hn : 0 ≤ n ∧ n ≤ 1000000000000000) : headOk mj n (headWide n) = true := by
  unfold headOk headWide widthFor
  rw [decide_eq_true_eq]
  (repeat' split) <;> omega
theorem nilSl (w : World) (g : Nat) : Sl w 0 1 (some ⟨g, 0, none⟩) 0 0 (u8s []) := ⟨rfl, Nat.le_refl _, by decide, fun h => absurd h (Nat.lt_irrefl 0)⟩
theorem s_HeadFor2 {mj n : Int} (h : 0 ≤ mj ∧ mj ≤ 7) (hn : 0 ≤ n ∧ n ≤ 1000000000000000) (w : World) :
    Calls Tryz.prog 43 #[.int .i64 mj, .int .i64 n] w fun r w' => r = .returned (.agg #[.int .i64 mj, .int .i64 n, .int .i64 (headWide n)]) ∧ Below w.heap.size w w' :=
  (s_HeadFor mj n w).mono fun r w' ⟨h1, h2⟩ => ⟨by rw [h1, headForV_yes rfl (headOk_for h hn)], h2⟩
theorem s_PutHead2 {A : Option Addr} {m c : Nat} {b : List UInt8} {mj n v : Int} {w : World} {B : Nat} (h : Sl w B 1 A m c (u8s b)) (hB : B ≤ w.heap.size) (hm : m ≤ 137438953472) (hn : n ≤ 9223372036854775807) :
    Calls Tryz.prog 41 #[.slice A m c, .agg #[.int .i64 mj, .int .i64 n, .int .i64 v]] w fun r w' => ∃ A' n' c', r = .returned (.slice A' n' c') ∧ BS w' w.heap.size A' n' c' (b ++ headP false mj n v) ∧ Below w.heap.size w w' := by
  rw [headP_false]
  exact s_PutHead A m c b mj n v w B h hB (by omega) hn
def TsSays (t : Tr) : Prop := ∀ (e : El) (w : World), t.wf → LsAt w t.l e → e.lt w.heap.size → t.sz ≤ 1048576 →
  Calls Tryz.prog 28 #[trV t e] w fun r w' => ∃ A' n' c', r = .returned (.slice A' n' c') ∧ BS w' w.heap.size A' n' c' (tightT false false t) ∧ Below w.heap.size w w'
set_option maxHeartbeats 1600000 in
theorem s_l13All (l : List Tr) (ih : ∀ u ∈ l, TsSays u) (hwf : ∀ u ∈ l, u.wf) (A : Option Addr) (m c : Nat) (b : List UInt8) (e : El) (lo : Nat) (w : World) (h : BS w lo A m c b) (hlo : lo ≤ w.heap.size) (hl : LsAt w l e) (hel : e.lt lo) (hsz : szL l ≤ 1048576) (hm : m ≤ 17179869184) :
    Calls Tryz.prog 45 #[.slice A m c, .slice e.A e.n e.c] w fun r w' => ∃ A' n' c', r = .returned (.slice A' n' c') ∧ BS w' lo A' n' c' (b ++ (l.map (tightT false false)).flatten) ∧ Below lo w w' := by
  obtain ⟨eA, en, ec, efp⟩ := e
  have hen : l.length = en := hl.len
  have hlen := h.len
  have hec : en ≤ ec ∧ ec ≤ maxLen := ⟨((lsAt_iff _ _).1 hl).2.1, ((lsAt_iff _ _).1 hl).2.2.1⟩
  have hsz0 := szT_le l 0
  go_enter Tryz.func45, Tryz.ntmps45
  go_wp2_with fail
  go_loopg [0, 5] en (fun f x y wr => ∃ (j n' c' : Nat) (A' : Option Addr), j + f = en ∧ x = .slice A' n' c' ∧ y = .int .i64 j ∧ BS wr lo A' n' c' (b ++ tights false false l j) ∧ Below lo w wr)
  case atStart => exact ⟨0, _, _, A, by omega, rfl, rfl, by rw [tights_zero, List.append_nil]; exact h, Below.refl _ _⟩
  case round =>
    obtain ⟨j, n', c', A', hjf, rfl, rfl, hB, hk⟩ := hrel
    by_cases hlt : j < en
    · obtain ⟨f, rfl⟩ : ∃ f, gk = f + 1 := ⟨gk - 1, by omega⟩
      obtain ⟨g, o, u, hj, hAe, hgm, ⟨c0, c1, c2, c3, c4⟩, hch, hsub⟩ := (hl.below hel hk).elem hlt
      have hAe : eA = some ⟨g, o, none⟩ := hAe
      subst hAe
      have hul : u.lt lo := fun x hx => hel x (hsub x hx)
      have hlo2 : lo ≤ wr.heap.size := Nat.le_trans hlo hk.size
      have hnl := hB.len
      rw [List.length_append] at hnl
      have hpl := tights_len false false l j
      rw [szL_take2 l j (by omega)] at hpl
      have hz1 := szT_succ hj
      have hz2 := szT_le l (j + 1)
      have hpu := tightT_len false false l[j]
      have hih := ih l[j] (List.getElem_mem hj) u wr (hwf _ (List.getElem_mem hj)) hch (hul.mono hlo2) (by omega)
      clear ih hwf hch
      go_wp2_with (first
        | (go_at_call 28; refine hih.mono ?_; rintro r w5 ⟨A5, n5, c5, rfl, h5, hb5⟩; have hl5 := h5.len; have hB5 := hB.below hb5; have k5 := hk.trans (hb5.mono hlo2))
        | (at_builtin; refine app_u8 rfl _ _ rfl hB5 rfl h5.sl rfl (by omega) (Nat.le_trans hlo k5.size) ?_; intro A6 c6 w6 h6 hb6))
      clear hih hB5 hB h5
      go_roundg f
      case measure => omega
      case rel => exact ⟨j + 1, _, c6, A6, by omega, rfl, by go_num, by rw [tights_succ hj, ← List.append_assoc]; exact h6, k5.trans hb6⟩
    · obtain rfl : j = en := by omega
      go_wp2_with fail
      go_ret
      exact ⟨_, _, _, rfl, by rw [← tights_all (l := l) (j := j) (by omega)]; exact hB, hk⟩
set_option maxHeartbeats 1600000 in
theorem s_PackTight (t : Tr) : TsSays t := by
  refine Tr.ind (P := TsSays) (fun t ih => ?_) t
  intro e w hwf hl hel hm
  have hw := (Tr.wf_iff t).1 hwf
  have hq := tightT_eq false false t
  have hsz := t.sz_eq
  obtain ⟨k, n, x, s, l⟩ := t
  obtain ⟨eA, en, ec, efp⟩ := e
  simp only at hw hq hsz ih hl
  have hen : l.length = en := hl.len
  have hss : s.size ≤ 1048576 := by omega
  have hszl := szT_le l 0
  have hww := hw.2.2.2.2
  have hn9 := hw.2.1
  have hx9 := hw.2.2.1
  have hec : en ≤ ec ∧ ec ≤ maxLen := ⟨((lsAt_iff _ _).1 hl).2.1, ((lsAt_iff _ _).1 hl).2.2.1⟩
  rw [hq]
  clear hw hq hwf
  by_cases h3 : k = 3
  · subst h3
    by_cases hr : -1000000000000000 ≤ n ∧ n ≤ 1000000000000000
    · have hb := inR_yes hr.1 hr.2
      by_cases hn : n < 0
      · skip
        have HP := Lib.hid (show tightGo false false 3 n x s l.length (l.map (tightT false false)) = numP false 1 (-1 - n) from by unfold tightGo; rw [if_pos rfl, if_pos hb, if_pos hn])
        have k2 := Below.two w (.cells #[.int .i64 3, .int .i64 n, .int .i64 x, .string s, .slice eA en ec] 26) (.cells #[] 5)
        go_enter Tryz.func28, Tryz.ntmps28
        go_wp2_with (first | (go_at_call 42; refine (s_l1In _ _ _ _).mono ?_; rintro e w' ⟨rfl, rfl⟩) | (go_at_call 43; refine (s_HeadFor2 (by decide) (by omega) _).mono ?_; rintro r w3 ⟨rfl, hb3⟩; replace k2 := k2.up hb3) | (go_at_call 41; refine (s_PutHead2 (nilSl _ _) (Nat.zero_le _) (by decide) (by omega)).mono ?_; rintro r w4 ⟨A4, n4, c4, rfl, h4, hb4⟩; rw [List.nil_append] at h4; have k4 := k2.up hb4))
        go_ret
        exact ⟨_, _, _, rfl, by rw [HP.out]; exact h4.mono k2.size, k4⟩
      · skip
        have HP := Lib.hid (show tightGo false false 3 n x s l.length (l.map (tightT false false)) = numP false 0 n from by unfold tightGo; rw [if_pos rfl, if_pos hb, if_neg hn])
        have k2 := Below.two w (.cells #[.int .i64 3, .int .i64 n, .int .i64 x, .string s, .slice eA en ec] 26) (.cells #[] 5)
        go_enter Tryz.func28, Tryz.ntmps28
        go_wp2_with (first | (go_at_call 42; refine (s_l1In _ _ _ _).mono ?_; rintro e w' ⟨rfl, rfl⟩) | (go_at_call 43; refine (s_HeadFor2 (by decide) (by omega) _).mono ?_; rintro r w3 ⟨rfl, hb3⟩; replace k2 := k2.up hb3) | (go_at_call 41; refine (s_PutHead2 (nilSl _ _) (Nat.zero_le _) (by decide) (by omega)).mono ?_; rintro r w4 ⟨A4, n4, c4, rfl, h4, hb4⟩; rw [List.nil_append] at h4; have k4 := k2.up hb4))
        go_ret
        exact ⟨_, _, _, rfl, by rw [HP.out]; exact h4.mono k2.size, k4⟩
    · have hb : inR n (-1000000000000000) 1000000000000000 = false := inR_no (by omega)
      have HP := Lib.hid (show tightGo false false 3 n x s l.length (l.map (tightT false false)) = [] from by unfold tightGo; rw [if_pos rfl, if_neg (by rw [hb]; decide)])
      have k2 := Below.two w (.cells #[.int .i64 3, .int .i64 n, .int .i64 x, .string s, .slice eA en ec] 26) (.cells #[] 5)
      go_enter Tryz.func28, Tryz.ntmps28
      go_wp2_with (go_at_call 42; refine (s_l1In _ _ _ _).mono ?_; rintro e w' ⟨rfl, rfl⟩)
      go_ret
      exact ⟨_, _, _, rfl, by rw [HP.out]; exact BS.mono (BS.new' (w.alloc (.cells #[.int .i64 3, .int .i64 n, .int .i64 x, .string s, .slice eA en ec] 26)) (w.heap.size + 1) (by simp)) (Nat.le_succ _), k2⟩
  by_cases h7 : k = 7
  · subst h7
    have HP := Lib.hid (show tightGo false false 7 n x s l.length (l.map (tightT false false)) = numP false 3 s.size ++ s.data.toList from by show textP false false 3 s = _; unfold textP; rw [if_neg (by simp)])
    have k2 := Below.two w (.cells #[.int .i64 7, .int .i64 n, .int .i64 x, .string s, .slice eA en ec] 26) (.cells #[] 5)
    have BV : Blk ((w.alloc (.cells #[.int .i64 7, .int .i64 n, .int .i64 x, .string s, .slice eA en ec] 26)).alloc (.cells #[] 5)) w.heap.size 26 (valCells (⟨7, n, x, s, l⟩ : Tr) (⟨eA, en, ec, efp⟩ : El)) := (Blk.new w _ _).alloc _
    have hel2 : (⟨eA, en, ec, efp⟩ : El).lt ((w.alloc (.cells #[.int .i64 7, .int .i64 n, .int .i64 x, .string s, .slice eA en ec] 26)).alloc (.cells #[] 5)).heap.size := hel.mono k2.size
    have hS0 := fun (w' : World) (hb : Below ((w.alloc (.cells #[.int .i64 7, .int .i64 n, .int .i64 x, .string s, .slice eA en ec] 26)).alloc (.cells #[] 5)).heap.size ((w.alloc (.cells #[.int .i64 7, .int .i64 n, .int .i64 x, .string s, .slice eA en ec] 26)).alloc (.cells #[] 5)) w') => (show BoxV w' w.heap.size (⟨7, n, x, s, l⟩ : Tr) (⟨eA, en, ec, efp⟩ : El) ∧ Below ((w.alloc (.cells #[.int .i64 7, .int .i64 n, .int .i64 x, .string s, .slice eA en ec] 26)).alloc (.cells #[] 5)).heap.size ((w.alloc (.cells #[.int .i64 7, .int .i64 n, .int .i64 x, .string s, .slice eA en ec] 26)).alloc (.cells #[] 5)) w' from ⟨(BV.below hb BV.lt).boxV, hb⟩)
    have hS2 := fun (w' w'' : World) (h : BoxV w' w.heap.size (⟨7, n, x, s, l⟩ : Tr) (⟨eA, en, ec, efp⟩ : El) ∧ Below ((w.alloc (.cells #[.int .i64 7, .int .i64 n, .int .i64 x, .string s, .slice eA en ec] 26)).alloc (.cells #[] 5)).heap.size ((w.alloc (.cells #[.int .i64 7, .int .i64 n, .int .i64 x, .string s, .slice eA en ec] 26)).alloc (.cells #[] 5)) w') (hb : Below w'.heap.size w' w'') => hS0 w'' (h.2.up hb)
    have hS3 := fun (w' w'' : World) (h : BoxV w' w.heap.size (⟨7, n, x, s, l⟩ : Tr) (⟨eA, en, ec, efp⟩ : El) ∧ Below ((w.alloc (.cells #[.int .i64 7, .int .i64 n, .int .i64 x, .string s, .slice eA en ec] 26)).alloc (.cells #[] 5)).heap.size ((w.alloc (.cells #[.int .i64 7, .int .i64 n, .int .i64 x, .string s, .slice eA en ec] 26)).alloc (.cells #[] 5)) w') (hb : Below ((w.alloc (.cells #[.int .i64 7, .int .i64 n, .int .i64 x, .string s, .slice eA en ec] 26)).alloc (.cells #[] 5)).heap.size w' w'') => hS0 w'' (h.2.trans hb)
    have hSz := fun (w' : World) (h : BoxV w' w.heap.size (⟨7, n, x, s, l⟩ : Tr) (⟨eA, en, ec, efp⟩ : El) ∧ Below ((w.alloc (.cells #[.int .i64 7, .int .i64 n, .int .i64 x, .string s, .slice eA en ec] 26)).alloc (.cells #[] 5)).heap.size ((w.alloc (.cells #[.int .i64 7, .int .i64 n, .int .i64 x, .string s, .slice eA en ec] 26)).alloc (.cells #[] 5)) w') => h.2.size
    have hSl := fun (w' : World) (h : BoxV w' w.heap.size (⟨7, n, x, s, l⟩ : Tr) (⟨eA, en, ec, efp⟩ : El) ∧ Below ((w.alloc (.cells #[.int .i64 7, .int .i64 n, .int .i64 x, .string s, .slice eA en ec] 26)).alloc (.cells #[] 5)).heap.size ((w.alloc (.cells #[.int .i64 7, .int .i64 n, .int .i64 x, .string s, .slice eA en ec] 26)).alloc (.cells #[] 5)) w') => (hl.below hel ((k2.trans (h.2.mono k2.size))))
    go_enter Tryz.func28, Tryz.ntmps28
    go_wp2_with (go_at_call 42; refine (s_l1In _ _ _ _).mono ?_; rintro e w' ⟨rfl, rfl⟩)
    go_region_held3 (fun w' => BoxV w' w.heap.size (⟨7, n, x, s, l⟩ : Tr) (⟨eA, en, ec, efp⟩ : El) ∧ Below ((w.alloc (.cells #[.int .i64 7, .int .i64 n, .int .i64 x, .string s, .slice eA en ec] 26)).alloc (.cells #[] 5)).heap.size ((w.alloc (.cells #[.int .i64 7, .int .i64 n, .int .i64 x, .string s, .slice eA en ec] 26)).alloc (.cells #[] 5)) w')
      (first | exact hS0 _ (Below.refl _ _).drew | (refine hS2 _ _ ?_ hbA; assumption) | (refine hS2 _ _ ?_ hbB; assumption) | (refine hS3 _ _ ?_ hbC; assumption))
      (first
        | (go_simp; go_at_call 43; (try rw [hwr]); refine (s_HeadFor2 (by decide) (by omega) _).mono ?_; rintro r w3 ⟨rfl, hbA⟩; have z3 := hSz _ (hS2 _ _ (by assumption) hbA))
        | (go_simp; go_at_call 41; refine (s_PutHead2 (nilSl _ _) (Nat.zero_le _) (by decide) (by omega)).mono ?_; rintro r w4 ⟨A4, n4, c4, rfl, h4, hbB⟩; rw [List.nil_append] at h4; replace h4 := h4.mono z3; have z4 := Nat.le_trans z3 hbB.size; have l4 := h4.len; have p4 : n4 ≤ 9 := (by rw [← l4]; exact headP_len _ _ _ _))
        | (refine app_strs rfl (.tmp 75) (.tmp 77) rfl h4 rfl rfl (by omega) z4 ?_; intro A5 c5 w5 h5 hbC))
    rename_i hHeld
    have kb := k2.trans (hHeld.2.mono k2.size)
    clear hS0 hS2 hS3 hSz hSl hHeld
    go_wp2_with fail
    go_ret
    exact ⟨_, _, _, rfl, by rw [HP.out]; exact h5.mono k2.size, kb⟩
  by_cases h8 : k = 8
  · subst h8
    have HP := Lib.hid (show tightGo false false 8 n x s l.length (l.map (tightT false false)) = numP false 2 s.size ++ s.data.toList from by show textP false false 2 s = _; unfold textP; rw [if_neg (by simp)])
    have k2 := Below.two w (.cells #[.int .i64 8, .int .i64 n, .int .i64 x, .string s, .slice eA en ec] 26) (.cells #[] 5)
    have BV : Blk ((w.alloc (.cells #[.int .i64 8, .int .i64 n, .int .i64 x, .string s, .slice eA en ec] 26)).alloc (.cells #[] 5)) w.heap.size 26 (valCells (⟨8, n, x, s, l⟩ : Tr) (⟨eA, en, ec, efp⟩ : El)) := (Blk.new w _ _).alloc _
    have hel2 : (⟨eA, en, ec, efp⟩ : El).lt ((w.alloc (.cells #[.int .i64 8, .int .i64 n, .int .i64 x, .string s, .slice eA en ec] 26)).alloc (.cells #[] 5)).heap.size := hel.mono k2.size
    have hS0 := fun (w' : World) (hb : Below ((w.alloc (.cells #[.int .i64 8, .int .i64 n, .int .i64 x, .string s, .slice eA en ec] 26)).alloc (.cells #[] 5)).heap.size ((w.alloc (.cells #[.int .i64 8, .int .i64 n, .int .i64 x, .string s, .slice eA en ec] 26)).alloc (.cells #[] 5)) w') => (show BoxV w' w.heap.size (⟨8, n, x, s, l⟩ : Tr) (⟨eA, en, ec, efp⟩ : El) ∧ Below ((w.alloc (.cells #[.int .i64 8, .int .i64 n, .int .i64 x, .string s, .slice eA en ec] 26)).alloc (.cells #[] 5)).heap.size ((w.alloc (.cells #[.int .i64 8, .int .i64 n, .int .i64 x, .string s, .slice eA en ec] 26)).alloc (.cells #[] 5)) w' from ⟨(BV.below hb BV.lt).boxV, hb⟩)
    have hS2 := fun (w' w'' : World) (h : BoxV w' w.heap.size (⟨8, n, x, s, l⟩ : Tr) (⟨eA, en, ec, efp⟩ : El) ∧ Below ((w.alloc (.cells #[.int .i64 8, .int .i64 n, .int .i64 x, .string s, .slice eA en ec] 26)).alloc (.cells #[] 5)).heap.size ((w.alloc (.cells #[.int .i64 8, .int .i64 n, .int .i64 x, .string s, .slice eA en ec] 26)).alloc (.cells #[] 5)) w') (hb : Below w'.heap.size w' w'') => hS0 w'' (h.2.up hb)
    have hS3 := fun (w' w'' : World) (h : BoxV w' w.heap.size (⟨8, n, x, s, l⟩ : Tr) (⟨eA, en, ec, efp⟩ : El) ∧ Below ((w.alloc (.cells #[.int .i64 8, .int .i64 n, .int .i64 x, .string s, .slice eA en ec] 26)).alloc (.cells #[] 5)).heap.size ((w.alloc (.cells #[.int .i64 8, .int .i64 n, .int .i64 x, .string s, .slice eA en ec] 26)).alloc (.cells #[] 5)) w') (hb : Below ((w.alloc (.cells #[.int .i64 8, .int .i64 n, .int .i64 x, .string s, .slice eA en ec] 26)).alloc (.cells #[] 5)).heap.size w' w'') => hS0 w'' (h.2.trans hb)
    have hSz := fun (w' : World) (h : BoxV w' w.heap.size (⟨8, n, x, s, l⟩ : Tr) (⟨eA, en, ec, efp⟩ : El) ∧ Below ((w.alloc (.cells #[.int .i64 8, .int .i64 n, .int .i64 x, .string s, .slice eA en ec] 26)).alloc (.cells #[] 5)).heap.size ((w.alloc (.cells #[.int .i64 8, .int .i64 n, .int .i64 x, .string s, .slice eA en ec] 26)).alloc (.cells #[] 5)) w') => h.2.size
    have hSl := fun (w' : World) (h : BoxV w' w.heap.size (⟨8, n, x, s, l⟩ : Tr) (⟨eA, en, ec, efp⟩ : El) ∧ Below ((w.alloc (.cells #[.int .i64 8, .int .i64 n, .int .i64 x, .string s, .slice eA en ec] 26)).alloc (.cells #[] 5)).heap.size ((w.alloc (.cells #[.int .i64 8, .int .i64 n, .int .i64 x, .string s, .slice eA en ec] 26)).alloc (.cells #[] 5)) w') => (hl.below hel ((k2.trans (h.2.mono k2.size))))
    go_enter Tryz.func28, Tryz.ntmps28
    go_wp2_with (go_at_call 42; refine (s_l1In _ _ _ _).mono ?_; rintro e w' ⟨rfl, rfl⟩)
    go_region_held3 (fun w' => BoxV w' w.heap.size (⟨8, n, x, s, l⟩ : Tr) (⟨eA, en, ec, efp⟩ : El) ∧ Below ((w.alloc (.cells #[.int .i64 8, .int .i64 n, .int .i64 x, .string s, .slice eA en ec] 26)).alloc (.cells #[] 5)).heap.size ((w.alloc (.cells #[.int .i64 8, .int .i64 n, .int .i64 x, .string s, .slice eA en ec] 26)).alloc (.cells #[] 5)) w')
      (first | exact hS0 _ (Below.refl _ _).drew | (refine hS2 _ _ ?_ hbA; assumption) | (refine hS2 _ _ ?_ hbB; assumption) | (refine hS3 _ _ ?_ hbC; assumption))
      (first
        | (go_simp; go_at_call 43; (try rw [hwr]); refine (s_HeadFor2 (by decide) (by omega) _).mono ?_; rintro r w3 ⟨rfl, hbA⟩; have z3 := hSz _ (hS2 _ _ (by assumption) hbA))
        | (go_simp; go_at_call 41; refine (s_PutHead2 (nilSl _ _) (Nat.zero_le _) (by decide) (by omega)).mono ?_; rintro r w4 ⟨A4, n4, c4, rfl, h4, hbB⟩; rw [List.nil_append] at h4; replace h4 := h4.mono z3; have z4 := Nat.le_trans z3 hbB.size; have l4 := h4.len; have p4 : n4 ≤ 9 := (by rw [← l4]; exact headP_len _ _ _ _))
        | (refine app_strs rfl (.tmp 86) (.tmp 88) rfl h4 rfl rfl (by omega) z4 ?_; intro A5 c5 w5 h5 hbC))
    rename_i hHeld
    have kb := k2.trans (hHeld.2.mono k2.size)
    clear hS0 hS2 hS3 hSz hSl hHeld
    go_wp2_with fail
    go_ret
    exact ⟨_, _, _, rfl, by rw [HP.out]; exact h5.mono k2.size, kb⟩
  by_cases h9 : k = 9
  · subst h9
    have HP := Lib.hid (show tightGo false false 9 n x s l.length (l.map (tightT false false)) = numP false 4 (en : Int) ++ (l.map (tightT false false)).flatten from by rw [← hen]; show elemP false false 4 (l.length : Int) _ = _; unfold elemP; rw [if_neg (by simp)])
    have k2 := Below.two w (.cells #[.int .i64 9, .int .i64 n, .int .i64 x, .string s, .slice eA en ec] 26) (.cells #[] 5)
    have BV : Blk ((w.alloc (.cells #[.int .i64 9, .int .i64 n, .int .i64 x, .string s, .slice eA en ec] 26)).alloc (.cells #[] 5)) w.heap.size 26 (valCells (⟨9, n, x, s, l⟩ : Tr) (⟨eA, en, ec, efp⟩ : El)) := (Blk.new w _ _).alloc _
    have hel2 : (⟨eA, en, ec, efp⟩ : El).lt ((w.alloc (.cells #[.int .i64 9, .int .i64 n, .int .i64 x, .string s, .slice eA en ec] 26)).alloc (.cells #[] 5)).heap.size := hel.mono k2.size
    have hS0 := fun (w' : World) (hb : Below ((w.alloc (.cells #[.int .i64 9, .int .i64 n, .int .i64 x, .string s, .slice eA en ec] 26)).alloc (.cells #[] 5)).heap.size ((w.alloc (.cells #[.int .i64 9, .int .i64 n, .int .i64 x, .string s, .slice eA en ec] 26)).alloc (.cells #[] 5)) w') => (show BoxV w' w.heap.size (⟨9, n, x, s, l⟩ : Tr) (⟨eA, en, ec, efp⟩ : El) ∧ Below ((w.alloc (.cells #[.int .i64 9, .int .i64 n, .int .i64 x, .string s, .slice eA en ec] 26)).alloc (.cells #[] 5)).heap.size ((w.alloc (.cells #[.int .i64 9, .int .i64 n, .int .i64 x, .string s, .slice eA en ec] 26)).alloc (.cells #[] 5)) w' from ⟨(BV.below hb BV.lt).boxV, hb⟩)
    have hS2 := fun (w' w'' : World) (h : BoxV w' w.heap.size (⟨9, n, x, s, l⟩ : Tr) (⟨eA, en, ec, efp⟩ : El) ∧ Below ((w.alloc (.cells #[.int .i64 9, .int .i64 n, .int .i64 x, .string s, .slice eA en ec] 26)).alloc (.cells #[] 5)).heap.size ((w.alloc (.cells #[.int .i64 9, .int .i64 n, .int .i64 x, .string s, .slice eA en ec] 26)).alloc (.cells #[] 5)) w') (hb : Below w'.heap.size w' w'') => hS0 w'' (h.2.up hb)
    have hS3 := fun (w' w'' : World) (h : BoxV w' w.heap.size (⟨9, n, x, s, l⟩ : Tr) (⟨eA, en, ec, efp⟩ : El) ∧ Below ((w.alloc (.cells #[.int .i64 9, .int .i64 n, .int .i64 x, .string s, .slice eA en ec] 26)).alloc (.cells #[] 5)).heap.size ((w.alloc (.cells #[.int .i64 9, .int .i64 n, .int .i64 x, .string s, .slice eA en ec] 26)).alloc (.cells #[] 5)) w') (hb : Below ((w.alloc (.cells #[.int .i64 9, .int .i64 n, .int .i64 x, .string s, .slice eA en ec] 26)).alloc (.cells #[] 5)).heap.size w' w'') => hS0 w'' (h.2.trans hb)
    have hSz := fun (w' : World) (h : BoxV w' w.heap.size (⟨9, n, x, s, l⟩ : Tr) (⟨eA, en, ec, efp⟩ : El) ∧ Below ((w.alloc (.cells #[.int .i64 9, .int .i64 n, .int .i64 x, .string s, .slice eA en ec] 26)).alloc (.cells #[] 5)).heap.size ((w.alloc (.cells #[.int .i64 9, .int .i64 n, .int .i64 x, .string s, .slice eA en ec] 26)).alloc (.cells #[] 5)) w') => h.2.size
    have hSl := fun (w' : World) (h : BoxV w' w.heap.size (⟨9, n, x, s, l⟩ : Tr) (⟨eA, en, ec, efp⟩ : El) ∧ Below ((w.alloc (.cells #[.int .i64 9, .int .i64 n, .int .i64 x, .string s, .slice eA en ec] 26)).alloc (.cells #[] 5)).heap.size ((w.alloc (.cells #[.int .i64 9, .int .i64 n, .int .i64 x, .string s, .slice eA en ec] 26)).alloc (.cells #[] 5)) w') => (hl.below hel ((k2.trans (h.2.mono k2.size))))
    go_enter Tryz.func28, Tryz.ntmps28
    go_wp2_with (go_at_call 42; refine (s_l1In _ _ _ _).mono ?_; rintro e w' ⟨rfl, rfl⟩)
    go_region_held3 (fun w' => BoxV w' w.heap.size (⟨9, n, x, s, l⟩ : Tr) (⟨eA, en, ec, efp⟩ : El) ∧ Below ((w.alloc (.cells #[.int .i64 9, .int .i64 n, .int .i64 x, .string s, .slice eA en ec] 26)).alloc (.cells #[] 5)).heap.size ((w.alloc (.cells #[.int .i64 9, .int .i64 n, .int .i64 x, .string s, .slice eA en ec] 26)).alloc (.cells #[] 5)) w')
      (first | exact hS0 _ (Below.refl _ _).drew | (refine hS2 _ _ ?_ hbA; assumption) | (refine hS2 _ _ ?_ hbB; assumption) | (refine hS3 _ _ ?_ hbC; assumption))
      (first
        | (go_simp; go_at_call 43; (try rw [hwr]); refine (s_HeadFor2 (by decide) (by omega) _).mono ?_; rintro r w3 ⟨rfl, hbA⟩; have z3 := hSz _ (hS2 _ _ (by assumption) hbA))
        | (go_simp; go_at_call 41; refine (s_PutHead2 (nilSl _ _) (Nat.zero_le _) (by decide) (by omega)).mono ?_; rintro r w4 ⟨A4, n4, c4, rfl, h4, hbB⟩; rw [List.nil_append] at h4; replace h4 := h4.mono z3; have z4 := Nat.le_trans z3 hbB.size; have l4 := h4.len; have p4 : n4 ≤ 9 := (by rw [← l4]; exact headP_len _ _ _ _))
        | (go_simp; go_at_call 45; refine (s_l13All l ih hww A4 n4 c4 _ ⟨eA, en, ec, efp⟩ _ _ h4 z4 (hSl _ (by assumption)) hel2 (by omega) (by omega)).mono ?_; rintro r w5 ⟨A5, n5, c5, rfl, h5, hbC⟩))
    rename_i hHeld
    have kb := k2.trans (hHeld.2.mono k2.size)
    clear hS0 hS2 hS3 hSz hSl hHeld
    go_wp2_with fail
    go_ret
    exact ⟨_, _, _, rfl, by rw [HP.out]; exact h5.mono k2.size, kb⟩
  by_cases h10 : k = 10
  · subst h10
    have HP := Lib.hid (show tightGo false false 10 n x s l.length (l.map (tightT false false)) = numP false 5 ((en : Int) / 2) ++ (l.map (tightT false false)).flatten from by rw [← hen]; show elemP false false 5 ((l.length : Int) / 2) _ = _; unfold elemP; rw [if_neg (by simp)])
    have hwr : IntKind.i64.wrap ((en : Int) / 2) = (en : Int) / 2 := by rw [IntKind.wrap_i64]; omega
    have k2 := Below.two w (.cells #[.int .i64 10, .int .i64 n, .int .i64 x, .string s, .slice eA en ec] 26) (.cells #[] 5)
    have BV : Blk ((w.alloc (.cells #[.int .i64 10, .int .i64 n, .int .i64 x, .string s, .slice eA en ec] 26)).alloc (.cells #[] 5)) w.heap.size 26 (valCells (⟨10, n, x, s, l⟩ : Tr) (⟨eA, en, ec, efp⟩ : El)) := (Blk.new w _ _).alloc _
    have hel2 : (⟨eA, en, ec, efp⟩ : El).lt ((w.alloc (.cells #[.int .i64 10, .int .i64 n, .int .i64 x, .string s, .slice eA en ec] 26)).alloc (.cells #[] 5)).heap.size := hel.mono k2.size
    have hS0 := fun (w' : World) (hb : Below ((w.alloc (.cells #[.int .i64 10, .int .i64 n, .int .i64 x, .string s, .slice eA en ec] 26)).alloc (.cells #[] 5)).heap.size ((w.alloc (.cells #[.int .i64 10, .int .i64 n, .int .i64 x, .string s, .slice eA en ec] 26)).alloc (.cells #[] 5)) w') => (show BoxV w' w.heap.size (⟨10, n, x, s, l⟩ : Tr) (⟨eA, en, ec, efp⟩ : El) ∧ Below ((w.alloc (.cells #[.int .i64 10, .int .i64 n, .int .i64 x, .string s, .slice eA en ec] 26)).alloc (.cells #[] 5)).heap.size ((w.alloc (.cells #[.int .i64 10, .int .i64 n, .int .i64 x, .string s, .slice eA en ec] 26)).alloc (.cells #[] 5)) w' from ⟨(BV.below hb BV.lt).boxV, hb⟩)
    have hS2 := fun (w' w'' : World) (h : BoxV w' w.heap.size (⟨10, n, x, s, l⟩ : Tr) (⟨eA, en, ec, efp⟩ : El) ∧ Below ((w.alloc (.cells #[.int .i64 10, .int .i64 n, .int .i64 x, .string s, .slice eA en ec] 26)).alloc (.cells #[] 5)).heap.size ((w.alloc (.cells #[.int .i64 10, .int .i64 n, .int .i64 x, .string s, .slice eA en ec] 26)).alloc (.cells #[] 5)) w') (hb : Below w'.heap.size w' w'') => hS0 w'' (h.2.up hb)
    have hS3 := fun (w' w'' : World) (h : BoxV w' w.heap.size (⟨10, n, x, s, l⟩ : Tr) (⟨eA, en, ec, efp⟩ : El) ∧ Below ((w.alloc (.cells #[.int .i64 10, .int .i64 n, .int .i64 x, .string s, .slice eA en ec] 26)).alloc (.cells #[] 5)).heap.size ((w.alloc (.cells #[.int .i64 10, .int .i64 n, .int .i64 x, .string s, .slice eA en ec] 26)).alloc (.cells #[] 5)) w') (hb : Below ((w.alloc (.cells #[.int .i64 10, .int .i64 n, .int .i64 x, .string s, .slice eA en ec] 26)).alloc (.cells #[] 5)).heap.size w' w'') => hS0 w'' (h.2.trans hb)
    have hSz := fun (w' : World) (h : BoxV w' w.heap.size (⟨10, n, x, s, l⟩ : Tr) (⟨eA, en, ec, efp⟩ : El) ∧ Below ((w.alloc (.cells #[.int .i64 10, .int .i64 n, .int .i64 x, .string s, .slice eA en ec] 26)).alloc (.cells #[] 5)).heap.size ((w.alloc (.cells #[.int .i64 10, .int .i64 n, .int .i64 x, .string s, .slice eA en ec] 26)).alloc (.cells #[] 5)) w') => h.2.size
    have hSl := fun (w' : World) (h : BoxV w' w.heap.size (⟨10, n, x, s, l⟩ : Tr) (⟨eA, en, ec, efp⟩ : El) ∧ Below ((w.alloc (.cells #[.int .i64 10, .int .i64 n, .int .i64 x, .string s, .slice eA en ec] 26)).alloc (.cells #[] 5)).heap.size ((w.alloc (.cells #[.int .i64 10, .int .i64 n, .int .i64 x, .string s, .slice eA en ec] 26)).alloc (.cells #[] 5)) w') => (hl.below hel ((k2.trans (h.2.mono k2.size))))
    go_enter Tryz.func28, Tryz.ntmps28
    go_wp2_with (go_at_call 42; refine (s_l1In _ _ _ _).mono ?_; rintro e w' ⟨rfl, rfl⟩)
    go_region_held3 (fun w' => BoxV w' w.heap.size (⟨10, n, x, s, l⟩ : Tr) (⟨eA, en, ec, efp⟩ : El) ∧ Below ((w.alloc (.cells #[.int .i64 10, .int .i64 n, .int .i64 x, .string s, .slice eA en ec] 26)).alloc (.cells #[] 5)).heap.size ((w.alloc (.cells #[.int .i64 10, .int .i64 n, .int .i64 x, .string s, .slice eA en ec] 26)).alloc (.cells #[] 5)) w')
      (first | exact hS0 _ (Below.refl _ _).drew | (refine hS2 _ _ ?_ hbA; assumption) | (refine hS2 _ _ ?_ hbB; assumption) | (refine hS3 _ _ ?_ hbC; assumption))
      (first
        | (go_simp; go_at_call 43; (try rw [hwr]); refine (s_HeadFor2 (by decide) (by omega) _).mono ?_; rintro r w3 ⟨rfl, hbA⟩; have z3 := hSz _ (hS2 _ _ (by assumption) hbA))
        | (go_simp; go_at_call 41; refine (s_PutHead2 (nilSl _ _) (Nat.zero_le _) (by decide) (by omega)).mono ?_; rintro r w4 ⟨A4, n4, c4, rfl, h4, hbB⟩; rw [List.nil_append] at h4; replace h4 := h4.mono z3; have z4 := Nat.le_trans z3 hbB.size; have l4 := h4.len; have p4 : n4 ≤ 9 := (by rw [← l4]; exact headP_len _ _ _ _))
        | (go_simp; go_at_call 45; refine (s_l13All l ih hww A4 n4 c4 _ ⟨eA, en, ec, efp⟩ _ _ h4 z4 (hSl _ (by assumption)) hel2 (by omega) (by omega)).mono ?_; rintro r w5 ⟨A5, n5, c5, rfl, h5, hbC⟩))
    rename_i hHeld
    have kb := k2.trans (hHeld.2.mono k2.size)
    clear hS0 hS2 hS3 hSz hSl hHeld
    go_wp2_with fail
    go_ret
    exact ⟨_, _, _, rfl, by rw [HP.out]; exact h5.mono k2.size, kb⟩
  by_cases h11 : k = 11
  · subst h11
    by_cases hr : 0 ≤ n ∧ n ≤ 1000000000000000
    · have hb := inR_yes hr.1 hr.2
      have HP := Lib.hid (show tightGo false false 11 n x s l.length (l.map (tightT false false)) = numP false 6 n ++ (l.map (tightT false false)).flatten from by rw [show tightGo false false 11 n x s l.length (l.map (tightT false false)) = (if inR n 0 1000000000000000 = true then elemP false false 6 n (l.map (tightT false false)).flatten else []) from rfl, if_pos hb]; unfold elemP; rw [if_neg (by simp)])
      have k2 := Below.two w (.cells #[.int .i64 11, .int .i64 n, .int .i64 x, .string s, .slice eA en ec] 26) (.cells #[] 5)
      have BV : Blk ((w.alloc (.cells #[.int .i64 11, .int .i64 n, .int .i64 x, .string s, .slice eA en ec] 26)).alloc (.cells #[] 5)) w.heap.size 26 (valCells (⟨11, n, x, s, l⟩ : Tr) (⟨eA, en, ec, efp⟩ : El)) := (Blk.new w _ _).alloc _
      have hel2 : (⟨eA, en, ec, efp⟩ : El).lt ((w.alloc (.cells #[.int .i64 11, .int .i64 n, .int .i64 x, .string s, .slice eA en ec] 26)).alloc (.cells #[] 5)).heap.size := hel.mono k2.size
      have hS0 := fun (w' : World) (hb : Below ((w.alloc (.cells #[.int .i64 11, .int .i64 n, .int .i64 x, .string s, .slice eA en ec] 26)).alloc (.cells #[] 5)).heap.size ((w.alloc (.cells #[.int .i64 11, .int .i64 n, .int .i64 x, .string s, .slice eA en ec] 26)).alloc (.cells #[] 5)) w') => (show BoxV w' w.heap.size (⟨11, n, x, s, l⟩ : Tr) (⟨eA, en, ec, efp⟩ : El) ∧ Below ((w.alloc (.cells #[.int .i64 11, .int .i64 n, .int .i64 x, .string s, .slice eA en ec] 26)).alloc (.cells #[] 5)).heap.size ((w.alloc (.cells #[.int .i64 11, .int .i64 n, .int .i64 x, .string s, .slice eA en ec] 26)).alloc (.cells #[] 5)) w' from ⟨(BV.below hb BV.lt).boxV, hb⟩)
      have hS2 := fun (w' w'' : World) (h : BoxV w' w.heap.size (⟨11, n, x, s, l⟩ : Tr) (⟨eA, en, ec, efp⟩ : El) ∧ Below ((w.alloc (.cells #[.int .i64 11, .int .i64 n, .int .i64 x, .string s, .slice eA en ec] 26)).alloc (.cells #[] 5)).heap.size ((w.alloc (.cells #[.int .i64 11, .int .i64 n, .int .i64 x, .string s, .slice eA en ec] 26)).alloc (.cells #[] 5)) w') (hb : Below w'.heap.size w' w'') => hS0 w'' (h.2.up hb)
      have hS3 := fun (w' w'' : World) (h : BoxV w' w.heap.size (⟨11, n, x, s, l⟩ : Tr) (⟨eA, en, ec, efp⟩ : El) ∧ Below ((w.alloc (.cells #[.int .i64 11, .int .i64 n, .int .i64 x, .string s, .slice eA en ec] 26)).alloc (.cells #[] 5)).heap.size ((w.alloc (.cells #[.int .i64 11, .int .i64 n, .int .i64 x, .string s, .slice eA en ec] 26)).alloc (.cells #[] 5)) w') (hb : Below ((w.alloc (.cells #[.int .i64 11, .int .i64 n, .int .i64 x, .string s, .slice eA en ec] 26)).alloc (.cells #[] 5)).heap.size w' w'') => hS0 w'' (h.2.trans hb)
      have hSz := fun (w' : World) (h : BoxV w' w.heap.size (⟨11, n, x, s, l⟩ : Tr) (⟨eA, en, ec, efp⟩ : El) ∧ Below ((w.alloc (.cells #[.int .i64 11, .int .i64 n, .int .i64 x, .string s, .slice eA en ec] 26)).alloc (.cells #[] 5)).heap.size ((w.alloc (.cells #[.int .i64 11, .int .i64 n, .int .i64 x, .string s, .slice eA en ec] 26)).alloc (.cells #[] 5)) w') => h.2.size
      have hSl := fun (w' : World) (h : BoxV w' w.heap.size (⟨11, n, x, s, l⟩ : Tr) (⟨eA, en, ec, efp⟩ : El) ∧ Below ((w.alloc (.cells #[.int .i64 11, .int .i64 n, .int .i64 x, .string s, .slice eA en ec] 26)).alloc (.cells #[] 5)).heap.size ((w.alloc (.cells #[.int .i64 11, .int .i64 n, .int .i64 x, .string s, .slice eA en ec] 26)).alloc (.cells #[] 5)) w') => (hl.below hel ((k2.trans (h.2.mono k2.size))))
      go_enter Tryz.func28, Tryz.ntmps28
      go_wp2_with (go_at_call 42; refine (s_l1In _ _ _ _).mono ?_; rintro e w' ⟨rfl, rfl⟩)
      go_region_held3 (fun w' => BoxV w' w.heap.size (⟨11, n, x, s, l⟩ : Tr) (⟨eA, en, ec, efp⟩ : El) ∧ Below ((w.alloc (.cells #[.int .i64 11, .int .i64 n, .int .i64 x, .string s, .slice eA en ec] 26)).alloc (.cells #[] 5)).heap.size ((w.alloc (.cells #[.int .i64 11, .int .i64 n, .int .i64 x, .string s, .slice eA en ec] 26)).alloc (.cells #[] 5)) w')
        (first | exact hS0 _ (Below.refl _ _).drew | (refine hS2 _ _ ?_ hbA; assumption) | (refine hS2 _ _ ?_ hbB; assumption) | (refine hS3 _ _ ?_ hbC; assumption))
        (first
          | (go_simp; go_at_call 43; (try rw [hwr]); refine (s_HeadFor2 (by decide) (by omega) _).mono ?_; rintro r w3 ⟨rfl, hbA⟩; have z3 := hSz _ (hS2 _ _ (by assumption) hbA))
          | (go_simp; go_at_call 41; refine (s_PutHead2 (nilSl _ _) (Nat.zero_le _) (by decide) (by omega)).mono ?_; rintro r w4 ⟨A4, n4, c4, rfl, h4, hbB⟩; rw [List.nil_append] at h4; replace h4 := h4.mono z3; have z4 := Nat.le_trans z3 hbB.size; have l4 := h4.len; have p4 : n4 ≤ 9 := (by rw [← l4]; exact headP_len _ _ _ _))
          | (go_simp; go_at_call 45; refine (s_l13All l ih hww A4 n4 c4 _ ⟨eA, en, ec, efp⟩ _ _ h4 z4 (hSl _ (by assumption)) hel2 (by omega) (by omega)).mono ?_; rintro r w5 ⟨A5, n5, c5, rfl, h5, hbC⟩))
      rename_i hHeld
      have kb := k2.trans (hHeld.2.mono k2.size)
      clear hS0 hS2 hS3 hSz hSl hHeld
      go_wp2_with fail
      go_ret
      exact ⟨_, _, _, rfl, by rw [HP.out]; exact h5.mono k2.size, kb⟩
    · have hb : inR n 0 1000000000000000 = false := inR_no (by omega)
      have HP := Lib.hid (show tightGo false false 11 n x s l.length (l.map (tightT false false)) = [] from by rw [show tightGo false false 11 n x s l.length (l.map (tightT false false)) = (if inR n 0 1000000000000000 = true then elemP false false 6 n (l.map (tightT false false)).flatten else []) from rfl, if_neg (by rw [hb]; decide)])
      have k2 := Below.two w (.cells #[.int .i64 11, .int .i64 n, .int .i64 x, .string s, .slice eA en ec] 26) (.cells #[] 5)
      go_enter Tryz.func28, Tryz.ntmps28
      go_wp2_with (go_at_call 42; refine (s_l1In _ _ _ _).mono ?_; rintro e w' ⟨rfl, rfl⟩)
      go_ret
      exact ⟨_, _, _, rfl, by rw [HP.out]; exact BS.mono (BS.new' (w.alloc (.cells #[.int .i64 11, .int .i64 n, .int .i64 x, .string s, .slice eA en ec] 26)) (w.heap.size + 1) (by simp)) (Nat.le_succ _), k2⟩
  by_cases h2 : k = 2
  · subst h2
    by_cases hn : n = 1
    · subst hn
      have HP := Lib.hid (show tightGo false false 2 1 x s l.length (l.map (tightT false false)) = headP false 7 21 0 from rfl)
      have k2 := Below.two w (.cells #[.int .i64 2, .int .i64 1, .int .i64 x, .string s, .slice eA en ec] 26) (.cells #[] 5)
      go_enter Tryz.func28, Tryz.ntmps28
      go_wp2_with (first | (go_at_call 42; refine (s_l1In _ _ _ _).mono ?_; rintro e w' ⟨rfl, rfl⟩) | (go_at_call 41; refine (s_PutHead2 (nilSl _ _) (Nat.zero_le _) (by decide) (by omega)).mono ?_; rintro r w4 ⟨A4, n4, c4, rfl, h4, hb4⟩; rw [List.nil_append] at h4; have k4 := k2.up hb4))
      go_ret
      exact ⟨_, _, _, rfl, by rw [HP.out]; exact h4.mono k2.size, k4⟩
    · have hb : (n == 1) = false := by simpa using hn
      have HP := Lib.hid (show tightGo false false 2 n x s l.length (l.map (tightT false false)) = headP false 7 20 0 from by rw [show tightGo false false 2 n x s l.length (l.map (tightT false false)) = headP false 7 (if n = 1 then 21 else 20) 0 from rfl, if_neg hn])
      have k2 := Below.two w (.cells #[.int .i64 2, .int .i64 n, .int .i64 x, .string s, .slice eA en ec] 26) (.cells #[] 5)
      go_enter Tryz.func28, Tryz.ntmps28
      go_wp2_with (first | (go_at_call 42; refine (s_l1In _ _ _ _).mono ?_; rintro e w' ⟨rfl, rfl⟩) | (go_at_call 41; refine (s_PutHead2 (nilSl _ _) (Nat.zero_le _) (by decide) (by omega)).mono ?_; rintro r w4 ⟨A4, n4, c4, rfl, h4, hb4⟩; rw [List.nil_append] at h4; have k4 := k2.up hb4))
      go_ret
      exact ⟨_, _, _, rfl, by rw [HP.out]; exact h4.mono k2.size, k4⟩
  by_cases h1 : k = 1
  · subst h1
    have HP := Lib.hid (show tightGo false false 1 n x s l.length (l.map (tightT false false)) = headP false 7 22 0 from rfl)
    have k2 := Below.two w (.cells #[.int .i64 1, .int .i64 n, .int .i64 x, .string s, .slice eA en ec] 26) (.cells #[] 5)
    go_enter Tryz.func28, Tryz.ntmps28
    go_wp2_with (first | (go_at_call 42; refine (s_l1In _ _ _ _).mono ?_; rintro e w' ⟨rfl, rfl⟩) | (go_at_call 41; refine (s_PutHead2 (nilSl _ _) (Nat.zero_le _) (by decide) (by omega)).mono ?_; rintro r w4 ⟨A4, n4, c4, rfl, h4, hb4⟩; rw [List.nil_append] at h4; have k4 := k2.up hb4))
    go_ret
    exact ⟨_, _, _, rfl, by rw [HP.out]; exact h4.mono k2.size, k4⟩
  by_cases h5 : k = 5
  · subst h5
    by_cases hr : 0 ≤ n ∧ n ≤ 2
    · have hb := inR_yes hr.1 hr.2
      have HP := Lib.hid (show tightGo false false 5 n x s l.length (l.map (tightT false false)) = headP false 7 (32 + n) 1 from by rw [show tightGo false false 5 n x s l.length (l.map (tightT false false)) = (if inR n 0 2 = true then headP false 7 (32 + n) 1 else []) from rfl, if_pos hb])
      have k2 := Below.two w (.cells #[.int .i64 5, .int .i64 n, .int .i64 x, .string s, .slice eA en ec] 26) (.cells #[] 5)
      go_enter Tryz.func28, Tryz.ntmps28
      go_wp2_with (first | (go_at_call 42; refine (s_l1In _ _ _ _).mono ?_; rintro e w' ⟨rfl, rfl⟩) | (go_at_call 41; refine (s_PutHead2 (nilSl _ _) (Nat.zero_le _) (by decide) (by omega)).mono ?_; rintro r w4 ⟨A4, n4, c4, rfl, h4, hb4⟩; rw [List.nil_append] at h4; have k4 := k2.up hb4))
      go_ret
      exact ⟨_, _, _, rfl, by rw [HP.out]; exact h4.mono k2.size, k4⟩
    · have hb : inR n 0 2 = false := inR_no (by omega)
      have HP := Lib.hid (show tightGo false false 5 n x s l.length (l.map (tightT false false)) = [] from by rw [show tightGo false false 5 n x s l.length (l.map (tightT false false)) = (if inR n 0 2 = true then headP false 7 (32 + n) 1 else []) from rfl, if_neg (by rw [hb]; decide)])
      have k2 := Below.two w (.cells #[.int .i64 5, .int .i64 n, .int .i64 x, .string s, .slice eA en ec] 26) (.cells #[] 5)
      go_enter Tryz.func28, Tryz.ntmps28
      go_wp2_with (go_at_call 42; refine (s_l1In _ _ _ _).mono ?_; rintro e w' ⟨rfl, rfl⟩)
      go_ret
      exact ⟨_, _, _, rfl, by rw [HP.out]; exact BS.mono (BS.new' (w.alloc (.cells #[.int .i64 5, .int .i64 n, .int .i64 x, .string s, .slice eA en ec] 26)) (w.heap.size + 1) (by simp)) (Nat.le_succ _), k2⟩
  by_cases h4 : k = 4
  · subst h4
    have hfb : fltBits n x ≤ 9223372036854775807 := by
      unfold fltBits
      split
      · rename_i h
        have := fltOk_bounds h
        split <;> omega
      · omega
    have HP := Lib.hid (show tightGo false false 4 n x s l.length (l.map (tightT false false)) = headP false 7 (fltBits n x) 4 from rfl)
    have k2 := Below.two w (.cells #[.int .i64 4, .int .i64 n, .int .i64 x, .string s, .slice eA en ec] 26) (.cells #[] 5)
    go_enter Tryz.func28, Tryz.ntmps28
    go_wp2_with (first | (go_at_call 42; refine (s_l1In _ _ _ _).mono ?_; rintro e w' ⟨rfl, rfl⟩) | (go_at_call 44; refine (s_FltBits _ _ _ hx9.2).mono ?_; rintro r wf ⟨rfl, hbf⟩; replace k2 := k2.up hbf) | (go_at_call 41; refine (s_PutHead2 (nilSl _ _) (Nat.zero_le _) (by decide) (by omega)).mono ?_; rintro r w4 ⟨A4, n4, c4, rfl, h4, hb4⟩; rw [List.nil_append] at h4; have k4 := k2.up hb4))
    go_ret
    exact ⟨_, _, _, rfl, by rw [HP.out]; exact h4.mono k2.size, k4⟩
  have f3 : (k == 3) = false := by simpa using h3
  have f7 : (k == 7) = false := by simpa using h7
  have f8 : (k == 8) = false := by simpa using h8
  have f9 : (k == 9) = false := by simpa using h9
  have f10 : (k == 10) = false := by simpa using h10
  have f11 : (k == 11) = false := by simpa using h11
  have f2 : (k == 2) = false := by simpa using h2
  have f1 : (k == 1) = false := by simpa using h1
  have f5 : (k == 5) = false := by simpa using h5
  have f4 : (k == 4) = false := by simpa using h4
  have HP0 : tightGo false false k n x s l.length (l.map (tightT false false)) = [] := by unfold tightGo; rw [if_neg h3, if_neg h8, if_neg h7, if_neg h9, if_neg h10, if_neg h11, if_neg h2, if_neg h1, if_neg h5, if_neg h4]
  clear h3 h7 h8 h9 h10 h11 h2 h1 h5 h4
  have HP := Lib.hid (HP0)
  have k2 := Below.two w (.cells #[.int .i64 k, .int .i64 n, .int .i64 x, .string s, .slice eA en ec] 26) (.cells #[] 5)
  go_enter Tryz.func28, Tryz.ntmps28
  go_wp2_with (go_at_call 42; refine (s_l1In _ _ _ _).mono ?_; rintro e w' ⟨rfl, rfl⟩)
  go_ret
  exact ⟨_, _, _, rfl, by rw [HP.out]; exact BS.mono (BS.new' (w.alloc (.cells #[.int .i64 k, .int .i64 n, .int .i64 x, .string s, .slice eA en ec] 26)) (w.heap.size + 1) (by simp)) (Nat.le_succ _), k2⟩
end Go.Proofs.YtmnlkedacnemcaaGreatDoor
