/- Lists of tokens: the laws' helpers on them. -/
import Derived.Test.YticejlknbfhndaaDoorToks
import Derived.Test.YticejlknbfhndaaDoorTokLaw
import Derived.Deep.LoopGhost
import Derived.Deep.RegionHeld3
set_option linter.unusedVariables false
set_option maxRecDepth 100000
set_option linter.unusedSimpArgs false
namespace Go.Proofs.YticejlknbfhndaaDoor
open Go.RowKit

def sumK (l : List Tk) : Nat := (l.map fun t => t.s.size).sum
theorem sumK_cons (t : Tk) (l : List Tk) : sumK (t :: l) = t.s.size + sumK l := by simp [sumK]
theorem szK_sum : ∀ l : List Tk, szK l = l.length + sumK l
  | [] => rfl
  | t :: l => by rw [szK_cons, sumK_cons, szK_sum l, List.length_cons]; omega
set_option maxHeartbeats 800000 in
theorem l_szTokenS (A : Option Addr) (n c : Nat) (l : List Tk) (w : World) (B : Nat) (h : Sl w B 4 A n c (tkC l)) (hB : B ≤ w.heap.size) (hw : ∀ t ∈ l, t.wf) :
    Calls Tryd.prog 16 #[.slice A n c, .int .i64 1048576] w fun e w' => e = .returned (.int .i64 (if szK l ≤ 1048576 then 1048576 - (szK l : Int) else -1)) ∧ Below w.heap.size w w' := by
  have hl := h.tklen
  have hnm : n ≤ 9223372036854775807 := by have := h.cap; have := h.max; unfold maxLen at *; omega
  obtain ⟨R, hR⟩ : ∃ R : Int, (if szK l ≤ 1048576 then 1048576 - (szK l : Int) else -1) = R := ⟨_, rfl⟩
  rw [hR]
  rw [szK_sum, hl] at hR
  by_cases hb : (1048576 : Int) < n
  · rw [if_neg (by omega)] at hR
    subst hR
    have h2 : (1048576 : Int) - n < 0 := by omega
    go_enter Tryd.func16, Tryd.ntmps16
    go_wp2_with fail
    go_ret
    exact ⟨rfl, Below.refl _ _⟩
  · have h2 : ¬ (1048576 : Int) - n < 0 := by omega
    have HR : Hid ((if n + sumK (l.drop 0) ≤ 1048576 then 1048576 - ((n + sumK (l.drop 0) : Nat) : Int) else -1) = R) := by rw [List.drop_zero]; exact Lib.hid hR
    clear hR
    go_enter Tryd.func16, Tryd.ntmps16
    go_wp2_with fail
    go_loopg [1, 5] n (fun f v1 v5 wr => ∃ (j d : Nat), j + f = n ∧ v5 = .int .i64 j ∧ d ≤ 1048576 ∧ v1 = .int .i64 d ∧ Hid ((if sumK (l.drop j) ≤ d then (d : Int) - (sumK (l.drop j) : Int) else -1) = R) ∧ Below w.heap.size w wr)
    case atStart =>
      refine ⟨0, 1048576 - n, by omega, rfl, by omega, by go_num, ?_, Below.refl _ _⟩
      have hh := HR.out
      rw [← hh]
      refine Lib.hid ?_
      split <;> split <;> omega
    case round =>
      obtain ⟨j, d, hjf, rfl, hd, rfl, hH, hK⟩ := hrel
      clear HR
      by_cases hlt : j < n
      · obtain ⟨f, rfl⟩ : ∃ f, gk = f + 1 := ⟨gk - 1, by omega⟩
        obtain ⟨g, o, hjl, rfl, hg, q0, q1, q2, q3⟩ := (h.below (hK.mono hB)).tok hlt
        have hwj := hw l[j] (List.getElem_mem _)
        have hh := hH.out
        rw [List.drop_eq_getElem_cons hjl, sumK_cons] at hh
        have hcall := fun w1 => l_szToken l[j].k l[j].s l[j].n l[j].x d w1 hwj.2.1 (by omega)
        unfold tokV at hcall
        have hjf2 : j + 1 + f = n := by omega
        clear hjf hwj hH
        by_cases hs : (d : Int) < l[j].s.size
        · rw [if_neg (by omega)] at hh
          simp only [if_pos hs] at hcall
          subst hh
          go_wp2_with (go_at_call 48; refine (hcall _).mono ?_; rintro e w2 ⟨rfl, hb2⟩)
          go_ret
          exact ⟨rfl, hK.up hb2⟩
        · simp only [if_neg hs] at hcall
          obtain ⟨d2, hd2⟩ : ∃ d2 : Nat, d = d2 + l[j].s.size := ⟨d - l[j].s.size, by omega⟩
          have e2 : (d : Int) - (l[j].s.size : Int) = (d2 : Int) := by omega
          simp only [e2] at hcall
          have HH : Hid ((if sumK (l.drop (j + 1)) ≤ d2 then (d2 : Int) - (sumK (l.drop (j + 1)) : Int) else -1) = R) := by
            rw [← hh]
            refine Lib.hid ?_
            split <;> split <;> omega
          have hd2b : d2 ≤ 1048576 := by omega
          have hng : ¬ (d2 : Int) < 0 := by omega
          clear hh hs e2 hd2
          go_wp2_with (go_at_call 48; refine (hcall _).mono ?_; rintro e w2 ⟨rfl, hb2⟩)
          go_roundg f
          case measure => omega
          case rel => exact ⟨j + 1, d2, hjf2, by go_num, hd2b, rfl, HH, hK.up hb2⟩
      · have hh := hH.out
        rw [List.drop_eq_nil_of_le (by omega)] at hh
        have e0 : sumK [] = 0 := rfl
        rw [e0, if_pos (Nat.zero_le _)] at hh
        have HH := Lib.hid hh
        clear hh hH
        go_wp2_with fail
        go_ret
        exact ⟨ret_int (by rw [← HH.out]; simp), hK⟩
theorem tkC_app : ∀ (a b : List Tk), tkC (a ++ b) = tkC a ++ tkC b
  | [], b => rfl
  | p :: a, b => by simp only [List.cons_append, tkC, tkC_app a b]
theorem arr_set4 {xs ys : List Value} {y0 y1 y2 y3 a b c d : Value} {i : Nat} (h : xs.length = i) : ((((xs ++ y0 :: y1 :: y2 :: y3 :: ys).toArray.setIfInBounds i a).setIfInBounds (i + 1) b).setIfInBounds (i + 2) c).setIfInBounds (i + 3) d = (xs ++ a :: b :: c :: d :: ys).toArray := by
  subst h
  simp only [List.setIfInBounds_toArray]
  congr 1
  have e : ∀ (l : List Value) (k : Nat) (v : Value), (xs ++ l).set (xs.length + k) v = xs ++ l.set k v := fun l k v => by rw [List.set_append_right _ _ (Nat.le_add_right _ _), Nat.add_sub_cancel_left]
  have e0 := e (y0 :: y1 :: y2 :: y3 :: ys) 0 a
  rw [Nat.add_zero] at e0
  rw [e0, List.set_cons_zero, e, e, e]
  rfl
theorem info_tok : (Tryd.prog.info? 60).map (fun i => (i.zero, i.size, i.bytes)) = some (some (.agg #[.int .i64 0, .string ⟨#[]⟩, .int .i64 0, .int .i64 0]), 4, 40) := by kernel_rfl
theorem Blk.four {w : World} {g o : Nat} {T : TypeId} {cs : Array Value} (h : Blk w g T cs) (hs : o + 4 ≤ cs.size) (a b c : Value) :
    ∃ x0 x1 x2 x3, (w.cell? ⟨g, o, none⟩ = some x0 ∧ w.frozen? ⟨g, o, none⟩ = false) ∧
      ((w.setCell ⟨g, o, none⟩ a).cell? ⟨g, o + 1, none⟩ = some x1 ∧ (w.setCell ⟨g, o, none⟩ a).frozen? ⟨g, o + 1, none⟩ = false) ∧
      (((w.setCell ⟨g, o, none⟩ a).setCell ⟨g, o + 1, none⟩ b).cell? ⟨g, o + 2, none⟩ = some x2 ∧ ((w.setCell ⟨g, o, none⟩ a).setCell ⟨g, o + 1, none⟩ b).frozen? ⟨g, o + 2, none⟩ = false) ∧
      ((((w.setCell ⟨g, o, none⟩ a).setCell ⟨g, o + 1, none⟩ b).setCell ⟨g, o + 2, none⟩ c).cell? ⟨g, o + 3, none⟩ = some x3 ∧ (((w.setCell ⟨g, o, none⟩ a).setCell ⟨g, o + 1, none⟩ b).setCell ⟨g, o + 2, none⟩ c).frozen? ⟨g, o + 3, none⟩ = false) := by
  have h1 := h.set_ o a
  have h2 := h1.set_ (o + 1) b
  have h3 := h2.set_ (o + 2) c
  have g0 : ∀ (k : Nat), k < cs.size → ∃ v, cs[k]? = some v := fun k hk => ⟨_, Array.getElem?_eq_getElem hk⟩
  exact ⟨_, _, _, _, ⟨(h.cell o).trans (Array.getElem?_eq_getElem (by omega)), h.frozen o⟩, ⟨(h1.cell (o + 1)).trans (Array.getElem?_eq_getElem (by simp; omega)), h1.frozen _⟩,
    ⟨(h2.cell (o + 2)).trans (Array.getElem?_eq_getElem (by simp; omega)), h2.frozen _⟩, ⟨(h3.cell (o + 3)).trans (Array.getElem?_eq_getElem (by simp; omega)), h3.frozen _⟩⟩
/-- Tokens in a row of the call's own. -/
def KS (w : World) (lo : Nat) (A : Option Addr) (n c : Nat) (l : List Tk) : Prop := w.ownsRow lo 60 4 (.slice A n c) n (tkC l)
theorem KS.sl {w : World} {lo n c : Nat} {A : Option Addr} {l : List Tk} (h : KS w lo A n c l) : Sl w w.heap.size 4 A n c (tkC l) := Sl.of_own h
set_option maxHeartbeats 1600000 in
theorem l_toTokenS (A : Option Addr) (n c : Nat) (l : List Tk) (w : World) (B : Nat) (h : Sl w B 4 A n c (tkC l)) (hB : B ≤ w.heap.size) (hn : n ≤ 1048576) :
    Calls Tryd.prog 18 #[.slice A n c] w fun e w' => ∃ A' c', e = .returned (.slice A' n c') ∧ KS w' w.heap.size A' n c' l ∧ Below w.heap.size w w' := by
  obtain ⟨i0, hi, hz0, hz1, hz2⟩ := info_parts info_tok
  have hpl := h.tklen
  go_enter Tryd.func18, Tryd.ntmps18
  go_wp2_with (at_make; refine wpList_make_full _ rfl _ _ 37 rfl w.heap.size 60 i0 (.agg #[.int .i64 0, .string ⟨#[]⟩, .int .i64 0, .int .i64 0]) 4 Tryd.underlying37 hi hz0 hz1 _ _ _ _ n rfl rfl rfl rfl (by rw [hz2]; omega) (by unfold maxLen; omega) (Nat.le_refl _) ?_; intro w1 hown1 hg1)
  have hb1 : Below w.heap.size w w1 := (Below.refl _ _).grown hg1 (Nat.le_refl _) (fun k hk => by cases hk)
  obtain ⟨cs, hcs, hbk⟩ : ∃ cs : Array Value, cs.size = n * 4 ∧ Blk w1 w.heap.size 60 cs := by
    rcases hown1.2 with ⟨hv, _⟩ | ⟨g, cap, cur, hv, _, hh, _, _, hsz, _⟩
    · cases hv
    · simp only [Value.slice.injEq, Option.some.injEq, Addr.mk.injEq] at hv
      obtain ⟨⟨rfl, _⟩, _, rfl⟩ := hv
      exact ⟨cur, hsz, hh⟩
  clear hown1 hg1
  go_loopg [4] n (fun f i wr => ∃ (k : Nat) (xs : List Value), k + f = n ∧ i = .int .i64 k ∧ xs.length = f * 4 ∧ Blk wr w.heap.size 60 (tkC (l.take k) ++ xs).toArray ∧ Below w.heap.size w wr)
  case atStart => exact ⟨0, cs.toList, by omega, rfl, by simp [hcs], by simpa [tkC] using hbk, hb1⟩
  case round =>
    obtain ⟨k, xs2, hkf, rfl, hxl, hor, hbr⟩ := hrel
    clear hbk hb1
    by_cases hlt : k < n
    · obtain ⟨f, rfl⟩ : ∃ f, gk = f + 1 := ⟨gk - 1, by omega⟩
      obtain ⟨g, o, hl, hA, hg, hc0, hc1, hc2, hc3⟩ := (h.below (hbr.mono hB)).tok hlt
      subst hA
      obtain ⟨y0, y1, y2, y3, ys, rfl⟩ : ∃ y0 y1 y2 y3 ys, xs2 = y0 :: y1 :: y2 :: y3 :: ys := by
        match xs2, hxl with
        | [], h => simp at h
        | [_], h => simp at h; omega
        | [_, _], h => simp at h; omega
        | [_, _, _], h => simp at h; omega
        | y0 :: y1 :: y2 :: y3 :: ys, _ => exact ⟨_, _, _, _, _, rfl⟩
      have hil : (tkC (l.take k)).length = k * 4 := by rw [tkC_len, List.length_take, Nat.min_eq_left (by omega)]
      have hts := l_toToken l[k].k l[k].s l[k].n l[k].x wr
      unfold tokV at hts
      go_wp2_with (go_at_call 50; refine hts.mono ?_; rintro e w2 ⟨rfl, hb2⟩; have ho2 := hor.below hb2 hor.lt; obtain ⟨x0, x1, x2, x3, ⟨p0, q0⟩, ⟨p1, q1⟩, ⟨p2, q2⟩, p3, q3⟩ := ho2.four (o := k * 4) (by simp [hil]) (.int .i64 l[k].k) (.string l[k].s) (.int .i64 l[k].n))
      have ho4 := (((ho2.set_ (k * 4) (.int .i64 l[k].k)).set_ (k * 4 + 1) (.string l[k].s)).set_ (k * 4 + 2) (.int .i64 l[k].n)).set_ (k * 4 + 3) (.int .i64 l[k].x)
      rw [arr_set4 hil] at ho4
      have hb4 := ((((hbr.up hb2).setCell (p := ⟨w.heap.size, k * 4, none⟩) (Nat.le_refl _) (.int .i64 l[k].k)).setCell (p := ⟨w.heap.size, k * 4 + 1, none⟩) (Nat.le_refl _) (.string l[k].s)).setCell (p := ⟨w.heap.size, k * 4 + 2, none⟩) (Nat.le_refl _) (.int .i64 l[k].n)).setCell (p := ⟨w.heap.size, k * 4 + 3, none⟩) (Nat.le_refl _) (.int .i64 l[k].x)
      have hst : tkC (l.take (k + 1)) ++ ys = tkC (l.take k) ++ .int .i64 l[k].k :: .string l[k].s :: .int .i64 l[k].n :: .int .i64 l[k].x :: ys := by
        rw [List.take_succ_eq_append_getElem hl, tkC_app]; simp [tkC]
      clear p0 q0 p1 q1 p2 q2 p3 q3 ho2 hor hts
      go_roundg f
      case measure => omega
      case rel => exact ⟨k + 1, ys, by omega, by go_num, by simp at hxl; omega, by rw [hst]; exact ho4, hb4⟩
    · obtain rfl : k = n := by omega
      go_wp2_with fail
      go_ret
      obtain rfl : xs2 = [] := List.eq_nil_of_length_eq_zero (by omega)
      rw [List.take_of_length_le (by omega), List.append_nil] at hor
      exact ⟨_, _, rfl, ⟨by rw [tkC_len]; omega, .inr ⟨w.heap.size, k, _, rfl, Nat.le_refl _, hor, Nat.le_refl _, by unfold maxLen; omega, by simp [tkC_len]; omega, List.take_of_length_le (by rw [tkC_len]; omega)⟩⟩, hbr⟩
theorem l_eqToken (k : Int) (s : ByteArray) (n x : Int) (w : World) :
    Calls Tryd.prog 53 #[tokV k s n x, tokV k s n x] w fun e w' => e = .returned (.bool true) ∧ Below w.heap.size w w' := by
  unfold tokV
  go_enter Tryd.func53, Tryd.ntmps53
  go_wp2_with fail
  go_ret
  exact ⟨rfl, Below.two _ _ _⟩
abbrev TokAt (w' : World) (g o : Nat) (t : Tk) : Prop := w'.cell? ⟨g, o, none⟩ = some (.int .i64 t.k) ∧ w'.cell? ⟨g, o + 1, none⟩ = some (.string t.s) ∧ w'.cell? ⟨g, o + 2, none⟩ = some (.int .i64 t.n) ∧ w'.cell? ⟨g, o + 3, none⟩ = some (.int .i64 t.x)
theorem TokAt.below {w w' : World} {g o : Nat} {t : Tk} (h : TokAt w g o t) (hb : Below w.heap.size w w') (hg : g < w.heap.size) : TokAt w' g o t :=
  ⟨(hb.cell (p := ⟨g, _, none⟩) hg).trans h.1, (hb.cell (p := ⟨g, _, none⟩) hg).trans h.2.1, (hb.cell (p := ⟨g, _, none⟩) hg).trans h.2.2.1, (hb.cell (p := ⟨g, _, none⟩) hg).trans h.2.2.2⟩
set_option maxHeartbeats 1600000 in
theorem l_eqTokenS (l : List Tk) (A1 : Option Addr) (n1 c1 : Nat) (A2 : Option Addr) (n2 c2 : Nat) (w : World) (h1 : Sl w w.heap.size 4 A1 n1 c1 (tkC l)) (h2 : Sl w w.heap.size 4 A2 n2 c2 (tkC l)) :
    Calls Tryd.prog 20 #[.slice A1 n1 c1, .slice A2 n2 c2] w fun r w' => r = .returned (.bool true) ∧ Below w.heap.size w w' := by
  have e1 := h1.tklen
  have e2 := h2.tklen
  have hc : n1 ≤ 9223372036854775807 := by have := h1.cap; have := h1.max; unfold maxLen at *; omega
  obtain rfl : n1 = n2 := by omega
  go_enter Tryd.func20, Tryd.ntmps20
  go_wp2_with fail
  go_loopg [5] n1 (fun f i wr => ∃ j : Nat, j + f = n1 ∧ i = .int .i64 j ∧ Below w.heap.size w wr)
  case atStart => exact ⟨0, by omega, rfl, Below.refl _ _⟩
  case round =>
    obtain ⟨j, hjk, rfl, hb⟩ := hrel
    by_cases hlt : j < n1
    · obtain ⟨f, rfl⟩ : ∃ f, gk = f + 1 := ⟨gk - 1, by omega⟩
      obtain ⟨g1, o1, hl, hA1, hg1, x0, x1, x2, x3⟩ := (h1.below hb).tok hlt
      obtain ⟨g2, o2, hl', hA2, hg2, y0, y1, y2, y3⟩ := (h2.below hb).tok hlt
      subst hA1 hA2
      have T1 : TokAt wr g1 (o1 + j * 4) l[j] := ⟨x0, x1, x2, x3⟩
      have T2 : TokAt wr g2 (o2 + j * 4) l[j] := ⟨y0, y1, y2, y3⟩
      have hS0 := fun (w' : World) (hb' : Below wr.heap.size wr w') => (show (TokAt w' g1 (o1 + j * 4) l[j] ∧ TokAt w' g2 (o2 + j * 4) l[j]) ∧ Below wr.heap.size wr w' from ⟨⟨T1.below hb' (Nat.lt_of_lt_of_le hg1 hb.size), T2.below hb' (Nat.lt_of_lt_of_le hg2 hb.size)⟩, hb'⟩)
      have hS2 := fun (w' w'' : World) (h : (TokAt w' g1 (o1 + j * 4) l[j] ∧ TokAt w' g2 (o2 + j * 4) l[j]) ∧ Below wr.heap.size wr w') (hb' : Below w'.heap.size w' w'') => hS0 w'' (h.2.up hb')
      have hcall := fun w1 => l_eqToken l[j].k l[j].s l[j].n l[j].x w1
      unfold tokV at hcall
      clear x0 x1 x2 x3 y0 y1 y2 y3 T1 T2
      go_wp2_with fail
      go_region_held3 (fun w' => (TokAt w' g1 (o1 + j * 4) l[j] ∧ TokAt w' g2 (o2 + j * 4) l[j]) ∧ Below wr.heap.size wr w')
        (first | exact hS0 _ (Below.refl _ _).drew | (refine hS2 _ _ ?_ hbq; assumption))
        (first | (go_at_call 53; refine (hcall _).mono ?_; rintro e w2 ⟨rfl, hbq⟩))
      rename_i hHeld
      have hb7 := hb.up hHeld.2
      clear hS0 hS2 hHeld hcall
      go_wp2_with fail
      go_roundg f
      case measure => omega
      case rel => exact ⟨j + 1, by omega, by go_num, hb7⟩
    · go_wp2_with fail
      go_ret
      exact ⟨rfl, hb⟩
end Go.Proofs.YticejlknbfhndaaDoor
