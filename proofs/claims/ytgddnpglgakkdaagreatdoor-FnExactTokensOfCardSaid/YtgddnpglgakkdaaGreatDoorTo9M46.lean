/- TokensOf: both sides. Written by gen/lawtok.py. Tokens that are marked, and looked at again. Written by gen/tokens.py. -/
import Derived.Test.YtgddnpglgakkdaaGreatDoorTo9M32
import Derived.Test.YtgddnpglgakkdaaGreatDoorTo9WriteTextS
import Derived.Test.YtgddnpglgakkdaaGreatDoorTo9M27
import Derived.Test.YtgddnpglgakkdaaGreatDoorTo9MarkVal
import Derived.Deep.LoopGhost
import Derived.Deep.RegionHeld3
set_option linter.unusedVariables false
set_option maxRecDepth 100000
set_option linter.unusedSimpArgs false
namespace Go.Proofs.YtgddnpglgakkdaaGreatDoor
open Go.RowKit

theorem writeTextS_size {t : Tr} (hF : Fit t) : (writeTextS t).size ≤ 1073741824 := by
  unfold writeTextS
  rw [ba_sz]
  cases hq : fitsText t with
  | false => rw [writeText_no hq]; exact Nat.zero_le _
  | true =>
    rw [writeText_yes hq]
    have := writeT_len t hF.1
    have := hF.2
    omega
set_option maxHeartbeats 1000000 in
theorem i_TokensOf (t : Tr) (e : El) (w : World) (hF : Fit t) (hl : LsAt w t.l e) (hel : e.lt w.heap.size) (hT : TabUP w) (hC : Lib.CaseVar 6 Lib.caseA w) (hE : ErrT w) :
    Calls Tryz.prog 12 #[trV t e] w fun r w' => ∃ A n c, r = .returned (.slice A n c) ∧ KS w' w.heap.size A n c (toksL (writeTextS t).data.toList).1 ∧ Below w.heap.size w w' := by
  have kb := Below.one w (.cells (valCells t e) 33)
  have hB := Blk.new w 33 (valCells t e)
  have hv := i_WriteText t e _ hF (hl.below hel kb) (hel.mono kb.size) (hT.below kb)
  have hz := writeTextS_size hF
  have hTk := fun w1 (hb : Below w.heap.size w w1) => i_Tokens (writeTextS t) w1 hz (hT.below hb).1 (Lib.CaseVar_below hC hb) (hE.below hb)
  unfold TokensAt at hTk
  obtain ⟨R, hR⟩ : ∃ R, toksL (writeTextS t).data.toList = R := ⟨_, rfl⟩
  rw [hR] at hTk ⊢
  clear hR
  generalize writeTextS t = X at hv hTk hz
  obtain ⟨v0, v1, v2, v3, v4⟩ := hB.boxV
  go_enter Tryz.func12, Tryz.ntmps12
  go_wp2_with fail
  refine hv.mono ?_; rintro r w1 ⟨rfl, hb1⟩
  go_wp2_with fail
  refine (hTk _ (kb.up hb1)).mono ?_; rintro r w2 ⟨A, n, c, rfl, h2, hb2⟩
  go_wp2_with fail
  go_ret
  exact ⟨A, n, c, rfl, h2.moreT (kb.up hb1).size, (kb.up hb1).up hb2⟩
set_option maxHeartbeats 1000000 in
theorem s_TokensOf (t : Tr) (e : El) (w : World) (hF : Fit t) (hl : LsAt w t.l e) (hel : e.lt w.heap.size) (hT : TabUP w) :
    Calls Tryz.prog 10 #[trV t e] w fun r w' => ∃ A n c, r = .returned (.slice A n c) ∧ KS w' w.heap.size A n c (toksL (writeTextS t).data.toList).1 ∧ Below w.heap.size w w' := by
  have kb := Below.one w (.cells (valCells t e) 33)
  have hB := Blk.new w 33 (valCells t e)
  have hv := s_WriteText t e _ hF (hl.below hel kb) (hel.mono kb.size) (hT.below kb)
  have hz := writeTextS_size hF
  have hTk := fun w1 (hb : Below w.heap.size w w1) => s_Tokens (writeTextS t) w1 hz
  unfold TokensAt at hTk
  obtain ⟨R, hR⟩ : ∃ R, toksL (writeTextS t).data.toList = R := ⟨_, rfl⟩
  rw [hR] at hTk ⊢
  clear hR
  generalize writeTextS t = X at hv hTk hz
  obtain ⟨v0, v1, v2, v3, v4⟩ := hB.boxV
  go_enter Tryz.func10, Tryz.ntmps10
  go_wp2_with fail
  refine hv.mono ?_; rintro r w1 ⟨rfl, hb1⟩
  go_wp2_with fail
  refine (hTk _ (kb.up hb1)).mono ?_; rintro r w2 ⟨A, n, c, rfl, h2, hb2⟩
  go_wp2_with fail
  go_ret
  exact ⟨A, n, c, rfl, h2.moreT (kb.up hb1).size, (kb.up hb1).up hb2⟩
end Go.Proofs.YtgddnpglgakkdaaGreatDoor

namespace Go.Proofs.YtgddnpglgakkdaaGreatDoor
open Go.RowKit

/-- The marks of n tokens, from k on. -/
def mkK (k : Nat) : Nat → List Tk
  | 0 => []
  | n + 1 => mkK k n ++ [⟨(k + 4 * n : Nat), mkT (k + 4 * n + 1), (k + 4 * n + 2 : Nat), (k + 4 * n + 3 : Nat)⟩]
theorem mkK_len (k : Nat) : ∀ n, (mkK k n).length = n
  | 0 => rfl
  | n + 1 => by simp [mkK, mkK_len k n]
theorem mkK_get (k : Nat) : ∀ (n j : Nat) (h : j < (mkK k n).length), (mkK k n)[j] = ⟨(k + 4 * j : Nat), mkT (k + 4 * j + 1), (k + 4 * j + 2 : Nat), (k + 4 * j + 3 : Nat)⟩
  | 0, j, h => by cases h
  | n + 1, j, h => by
    by_cases hj : j < n
    · have : (mkK k (n + 1))[j] = (mkK k n)[j]'(by rw [mkK_len]; exact hj) := by simp only [mkK]; exact List.getElem_append_left _
      rw [this]; exact mkK_get k n j _
    · have hl : (mkK k (n + 1)).length = n + 1 := mkK_len k _
      obtain rfl : j = n := by omega
      simp only [mkK]
      rw [List.getElem_append_right (by rw [mkK_len]; exact Nat.le_refl _)]
      simp [mkK_len]
set_option maxHeartbeats 2000000 in
theorem l_markToks (A : Option Addr) (n c : Nat) (l : List Tk) (k lo : Nat) (w : World) (h : KS w lo A n c l) (hn : n ≤ 1073741824) (hk1 : 1 ≤ k) (hk : k ≤ 1048576) :
    Calls Tryz.prog 16 #[.slice A n c, .int .i64 k] w fun r w' => r = .returned (.int .i64 (k + 4 * n : Nat)) ∧ KS w' lo A n c (mkK k n) ∧ Fr (blkOf A) w w' := by
  rcases h.2 with ⟨hv, h0⟩ | ⟨g, cap, cur, hv, hlo, hh, hnc, hmx, hsz, _⟩
  · simp only [Value.slice.injEq] at hv
    obtain ⟨rfl, rfl, rfl⟩ := hv
    go_enter Tryz.func16, Tryz.ntmps16
    go_wp2_with fail
    go_loopg [1, 5] 0 (fun f v1 v5 wr => v1 = .int .i64 k ∧ v5 = .int .i64 0 ∧ wr = w)
    case atStart => exact ⟨rfl, rfl, rfl⟩
    case round =>
      obtain ⟨rfl, rfl, rfl⟩ := hrel
      go_wp2_with fail
      go_ret
      exact ⟨rfl, KS.nilT _ _, Fr.refl _ _⟩
  · simp only [Value.slice.injEq] at hv
    obtain ⟨rfl, _, rfl⟩ := hv
    have hB : Blk w g 41 cur := hh
    have hg := hB.lt
    clear h hh
    go_enter Tryz.func16, Tryz.ntmps16
    go_wp2_with fail
    go_loopg [1, 5] n (fun f v1 v5 wr => ∃ (j : Nat) (xs : List Value) (cs : Array Value), j + f = n ∧ v5 = .int .i64 j ∧ v1 = .int .i64 (k + 4 * j : Nat) ∧ cs = (tkC (mkK k j) ++ xs).toArray ∧ cs.size = cur.size ∧ Blk wr g 41 cs ∧ Fr [g] w wr)
    case atStart => exact ⟨0, cur.toList, cur, by omega, rfl, rfl, by simp [mkK, tkC], rfl, hB, Fr.refl _ _⟩
    case round =>
      obtain ⟨j, xs, cs, hjf, rfl, rfl, hcs, hcz, hBr, hfr⟩ := hrel
      clear hB
      by_cases hlt : j < n
      · obtain ⟨f, rfl⟩ : ∃ f, gk = f + 1 := ⟨gk - 1, by omega⟩
        have hM := fun w1 => l_markText (k + 4 * j + 1) w1 (by omega) (by omega)
        have hj4 : j * 4 + 4 ≤ cs.size := by omega
        have hil : (tkC (mkK k j)).length = j * 4 := by rw [tkC_len, mkK_len]
        obtain ⟨y0, y1, y2, y3, ys, hxs⟩ : ∃ y0 y1 y2 y3 ys, xs = y0 :: y1 :: y2 :: y3 :: ys := by
          have hl : 4 ≤ xs.length := by
            have := congrArg Array.size hcs
            simp at this
            omega
          match xs, hl with
          | [], h => simp at h
          | [_], h => simp at h
          | [_, _], h => simp at h
          | [_, _, _], h => simp at h
          | y0 :: y1 :: y2 :: y3 :: ys, _ => exact ⟨_, _, _, _, _, rfl⟩
        have hset := arr_set4 (xs := tkC (mkK k j)) (ys := ys) (y0 := y0) (y1 := y1) (y2 := y2) (y3 := y3) (a := .int .i64 (k + 4 * j : Nat)) (b := .string (mkT (k + 4 * j + 1))) (c := .int .i64 (k + 4 * j + 2 : Nat)) (d := .int .i64 (k + 4 * j + 3 : Nat)) hil
        rw [← hxs, ← hcs] at hset
        have hst : tkC (mkK k (j + 1)) ++ ys = tkC (mkK k j) ++ .int .i64 (k + 4 * j : Nat) :: .string (mkT (k + 4 * j + 1)) :: .int .i64 (k + 4 * j + 2 : Nat) :: .int .i64 (k + 4 * j + 3 : Nat) :: ys := by
          simp only [mkK]
          rw [tkC_app]
          simp [tkC]
        rw [← hst] at hset
        have HSet := Lib.hid hset
        clear hset hst hcs hxs hil
        generalize hq : k + 4 * j = q at hM HSet ⊢
        have hwq : IntKind.i64.wrap ((q : Int) + 1) = (q : Int) + 1 := by rw [IntKind.wrap_i64]; omega
        have hwq2 : IntKind.i64.wrap ((q : Int) + 1 + 1) = (q : Int) + 2 := by rw [IntKind.wrap_i64]; omega
        have hwq3 : IntKind.i64.wrap ((q : Int) + 2 + 1) = (q : Int) + 3 := by rw [IntKind.wrap_i64]; omega
        have hwq4 : IntKind.i64.wrap ((q : Int) + 3 + 1) = (q : Int) + 4 := by rw [IntKind.wrap_i64]; omega
        obtain ⟨x0, a0⟩ : ∃ v, wr.cell? ⟨g, j * 4, none⟩ = some v := ⟨_, (hBr.cell (j * 4)).trans (Array.getElem?_eq_getElem (by omega))⟩
        have b0 := hBr.frozen (j * 4)
        have hB1 := hBr.set_ (j * 4) (.int .i64 q)
        go_wp2_with (go_at_call 31; refine (hM _).mono ?_; rintro r w2 ⟨rfl, hb2⟩; have hB2 := hB1.below hb2 hB1.lt; obtain ⟨x1, a1⟩ : ∃ v, w2.cell? ⟨g, j * 4 + 1, none⟩ = some v := ⟨_, (hB2.cell (j * 4 + 1)).trans (Array.getElem?_eq_getElem (by simp; omega))⟩; have b1 := hB2.frozen (j * 4 + 1); have hB3 := hB2.set_ (j * 4 + 1) (.string (mkT (q + 1))); obtain ⟨x2, a2⟩ : ∃ v, (w2.setCell ⟨g, j * 4 + 1, none⟩ (.string (mkT (q + 1)))).cell? ⟨g, j * 4 + 2, none⟩ = some v := ⟨_, (hB3.cell (j * 4 + 2)).trans (Array.getElem?_eq_getElem (by simp; omega))⟩; have b2 := hB3.frozen (j * 4 + 2); have hB4 := hB3.set_ (j * 4 + 2) (.int .i64 ((q : Int) + 2)); obtain ⟨x3, a3⟩ : ∃ v, ((w2.setCell ⟨g, j * 4 + 1, none⟩ (.string (mkT (q + 1)))).setCell ⟨g, j * 4 + 2, none⟩ (.int .i64 ((q : Int) + 2))).cell? ⟨g, j * 4 + 3, none⟩ = some v := ⟨_, (hB4.cell (j * 4 + 3)).trans (Array.getElem?_eq_getElem (by simp; omega))⟩; have b3 := hB4.frozen (j * 4 + 3); have hB5 := hB4.set_ (j * 4 + 3) (.int .i64 ((q : Int) + 3)))
        have F5 := ((((hfr.setCell (p := ⟨g, j * 4, none⟩) (by simp) (.int .i64 q)).trans (Fr.of_below hb2)).setCell (p := ⟨g, j * 4 + 1, none⟩) (by simp) (.string (mkT (q + 1)))).setCell (p := ⟨g, j * 4 + 2, none⟩) (by simp) (.int .i64 ((q : Int) + 2))).setCell (p := ⟨g, j * 4 + 3, none⟩) (by simp) (.int .i64 ((q : Int) + 3))
        go_roundg f
        case measure => omega
        case rel => exact ⟨j + 1, ys, _, by omega, by go_num, by rw [show k + 4 * (j + 1) = q + 4 by omega]; go_num, HSet.out, by simp; exact hcz, hB5, F5⟩
      · obtain rfl : j = n := by omega
        go_wp2_with fail
        go_ret
        refine ⟨rfl, ⟨by rw [tkC_len, mkK_len], .inr ⟨g, _, cs, rfl, hlo, hBr, hnc, hmx, by omega, ?_⟩⟩, by simpa [blkOf] using hfr⟩
        rw [hcs]
        show List.take (j * 4) (tkC (mkK k j) ++ xs) = _
        rw [List.take_append_of_le_length (by rw [tkC_len, mkK_len]; exact Nat.le_refl _)]
        exact List.take_of_length_le (by rw [tkC_len, mkK_len]; exact Nat.le_refl _)
set_option maxHeartbeats 2000000 in
theorem l_heldToks (A : Option Addr) (n c k : Nat) (w : World) (h : Sl w w.heap.size 4 A n c (tkC (mkK k n))) (hn : n ≤ 1073741824) (hk1 : 1 ≤ k) (hk : k ≤ 1048576) :
    Calls Tryz.prog 17 #[.slice A n c, .int .i64 k] w fun r w' => r = .returned (.int .i64 (k + 4 * n : Nat)) ∧ Below w.heap.size w w' := by
  go_enter Tryz.func17, Tryz.ntmps17
  go_wp2_with fail
  go_loopg [1, 5] n (fun f x i wr => ∃ j : Nat, j + f = n ∧ x = .int .i64 (k + 4 * j : Nat) ∧ i = .int .i64 j ∧ Below w.heap.size w wr)
  case atStart => exact ⟨0, by omega, rfl, rfl, Below.refl _ _⟩
  case round =>
    obtain ⟨j, hjf, rfl, rfl, hb⟩ := hrel
    by_cases hlt : j < n
    · obtain ⟨f, rfl⟩ : ∃ f, gk = f + 1 := ⟨gk - 1, by omega⟩
      obtain ⟨g, o, hl, rfl, hg, c0, c1, c2, c3⟩ := (h.below hb).tok hlt
      rw [mkK_get] at c0 c1 c2 c3
      obtain ⟨q, hq⟩ : ∃ q : Nat, k + 4 * j = q := ⟨_, rfl⟩
      rw [hq] at c0 c1 c2 c3 ⊢
      simp only at c0 c1 c2 c3
      have hgr : g < wr.heap.size := Nat.lt_of_lt_of_le hg hb.size
      have hS0 := fun (w' : World) (hb' : Below wr.heap.size wr w') => (show Box1 wr ⟨g, o + j * 4 + 1, none⟩ (.string (mkT (q + 1))) w' from ⟨(hb'.cell (p := ⟨g, o + j * 4 + 1, none⟩) hgr).trans c1, hb'⟩)
      have hS2 := fun (w' w'' : World) (h' : Box1 wr ⟨g, o + j * 4 + 1, none⟩ (.string (mkT (q + 1))) w') (hb' : Below w'.heap.size w' w'') => hS0 w'' (h'.2.up hb')
      have hT := fun w' => l_markText (q + 1) w' (by omega) (by omega)
      have e2 : ((q + 2 : Nat) : Int) = (q : Int) + 1 + 1 := by omega
      have e3 : ((q + 3 : Nat) : Int) = (q : Int) + 1 + 1 + 1 := by omega
      rw [e2] at c2
      rw [e3] at c3
      have hjf2 : j + 1 + f = n := by omega
      have hq4 : k + 4 * (j + 1) = q + 4 := by omega
      clear e2 e3 hjf
      go_wp2_with fail
      rw [show (q : Int) + 1 = ((q + 1 : Nat) : Int) by omega]
      go_region_held3 (fun w' => Box1 wr ⟨g, o + j * 4 + 1, none⟩ (.string (mkT (q + 1))) w')
        (first | exact hS0 _ (Below.refl _ _).drew | (refine hS2 _ _ ?_ hb4; assumption))
        (first | (go_at_call 31; refine (hT _).mono ?_; rintro r w4 ⟨rfl, hb4⟩))
      rename_i hHeld
      have hb5 := hHeld.2
      have p2 := (hb5.cell (p := ⟨g, o + j * 4 + 2, none⟩) hgr).trans c2
      have p3 := (hb5.cell (p := ⟨g, o + j * 4 + 3, none⟩) hgr).trans c3
      have hb6 := hb.up hb5
      clear hHeld hS0 hS2 hT c0 c1 c2 c3 hb hb5 hl
      go_wp2_with fail
      go_roundg f
      case measure => omega
      case rel => exact ⟨j + 1, hjf2, by rw [hq4]; go_num, by go_num, hb6⟩
    · obtain rfl : j = n := by omega
      go_wp2_with fail
      go_ret
      exact ⟨rfl, hb⟩
end Go.Proofs.YtgddnpglgakkdaaGreatDoor
