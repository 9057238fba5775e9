/- Lists of tokens: the laws' helpers on them. -/
import Derived.Test.YtgddnpglgakkdaaGreatDoorTo9M23
import Derived.Test.YtgddnpglgakkdaaGreatDoorTo9M25
import Derived.Deep.LoopGhost
import Derived.Deep.RegionHeld3
set_option linter.unusedVariables false
set_option maxRecDepth 100000
set_option linter.unusedSimpArgs false
namespace Go.Proofs.YtgddnpglgakkdaaGreatDoor
open Go.RowKit

theorem tkC_app : ∀ (a b : List Tk), tkC (a ++ b) = tkC a ++ tkC b
  | [], b => rfl
  | p :: a, b => by simp only [List.cons_append, tkC, tkC_app a b]
theorem arr_set4 {xs ys : List Value} {y0 y1 y2 y3 a b c d : Value} {i : Nat} (h : xs.length = i) : ((((xs ++ y0 :: y1 :: y2 :: y3 :: ys).toArray.setIfInBounds i a).setIfInBounds (i + 1) b).setIfInBounds (i + 2) c).setIfInBounds (i + 3) d = (xs ++ a :: b :: c :: d :: ys).toArray := by
  subst h
  simp only [List.setIfInBounds_toArray]
  congr 1
  have e : ∀ (l : List Value) (k : Nat) (v : Value), (xs ++ l).set (xs.length + k) v = xs ++ l.set k v := fun l k v => by rw [List.set_append_right _ _ (Nat.le_add_right _ _), Nat.add_sub_cancel_left]
  have e0 := e (y0 :: y1 :: y2 :: y3 :: ys) 0 a
  rw [Nat.add_zero] at e0
  rw [e0, List.set_cons_zero, e, e, e]
  rfl
theorem info_tok : (Tryz.prog.info? 41).map (fun i => (i.zero, i.size, i.bytes)) = some (some (.agg #[.int .i64 0, .string ⟨#[]⟩, .int .i64 0, .int .i64 0]), 4, 40) := by kernel_rfl
theorem Blk.four {w : World} {g o : Nat} {T : TypeId} {cs : Array Value} (h : Blk w g T cs) (hs : o + 4 ≤ cs.size) (a b c : Value) :
    ∃ x0 x1 x2 x3, (w.cell? ⟨g, o, none⟩ = some x0 ∧ w.frozen? ⟨g, o, none⟩ = false) ∧
      ((w.setCell ⟨g, o, none⟩ a).cell? ⟨g, o + 1, none⟩ = some x1 ∧ (w.setCell ⟨g, o, none⟩ a).frozen? ⟨g, o + 1, none⟩ = false) ∧
      (((w.setCell ⟨g, o, none⟩ a).setCell ⟨g, o + 1, none⟩ b).cell? ⟨g, o + 2, none⟩ = some x2 ∧ ((w.setCell ⟨g, o, none⟩ a).setCell ⟨g, o + 1, none⟩ b).frozen? ⟨g, o + 2, none⟩ = false) ∧
      ((((w.setCell ⟨g, o, none⟩ a).setCell ⟨g, o + 1, none⟩ b).setCell ⟨g, o + 2, none⟩ c).cell? ⟨g, o + 3, none⟩ = some x3 ∧ (((w.setCell ⟨g, o, none⟩ a).setCell ⟨g, o + 1, none⟩ b).setCell ⟨g, o + 2, none⟩ c).frozen? ⟨g, o + 3, none⟩ = false) := by
  have h1 := h.set_ o a
  have h2 := h1.set_ (o + 1) b
  have h3 := h2.set_ (o + 2) c
  have g0 : ∀ (k : Nat), k < cs.size → ∃ v, cs[k]? = some v := fun k hk => ⟨_, Array.getElem?_eq_getElem hk⟩
  exact ⟨_, _, _, _, ⟨(h.cell o).trans (Array.getElem?_eq_getElem (by omega)), h.frozen o⟩, ⟨(h1.cell (o + 1)).trans (Array.getElem?_eq_getElem (by simp; omega)), h1.frozen _⟩,
    ⟨(h2.cell (o + 2)).trans (Array.getElem?_eq_getElem (by simp; omega)), h2.frozen _⟩, ⟨(h3.cell (o + 3)).trans (Array.getElem?_eq_getElem (by simp; omega)), h3.frozen _⟩⟩
/-- Tokens in a row of the call's own. -/
def KS (w : World) (lo : Nat) (A : Option Addr) (n c : Nat) (l : List Tk) : Prop := w.ownsRow lo 41 4 (.slice A n c) n (tkC l)
theorem KS.sl {w : World} {lo n c : Nat} {A : Option Addr} {l : List Tk} (h : KS w lo A n c l) : Sl w w.heap.size 4 A n c (tkC l) := Sl.of_own h
theorem l_eqToken (k : Int) (s : ByteArray) (n x : Int) (w : World) :
    Calls Tryz.prog 20 #[tokV k s n x, tokV k s n x] w fun e w' => e = .returned (.bool true) ∧ Below w.heap.size w w' := by
  unfold tokV
  go_enter Tryz.func20, Tryz.ntmps20
  go_wp2_with fail
  go_ret
  exact ⟨rfl, Below.two _ _ _⟩
abbrev TokAt (w' : World) (g o : Nat) (t : Tk) : Prop := w'.cell? ⟨g, o, none⟩ = some (.int .i64 t.k) ∧ w'.cell? ⟨g, o + 1, none⟩ = some (.string t.s) ∧ w'.cell? ⟨g, o + 2, none⟩ = some (.int .i64 t.n) ∧ w'.cell? ⟨g, o + 3, none⟩ = some (.int .i64 t.x)
theorem TokAt.below {w w' : World} {g o : Nat} {t : Tk} (h : TokAt w g o t) (hb : Below w.heap.size w w') (hg : g < w.heap.size) : TokAt w' g o t :=
  ⟨(hb.cell (p := ⟨g, _, none⟩) hg).trans h.1, (hb.cell (p := ⟨g, _, none⟩) hg).trans h.2.1, (hb.cell (p := ⟨g, _, none⟩) hg).trans h.2.2.1, (hb.cell (p := ⟨g, _, none⟩) hg).trans h.2.2.2⟩
set_option maxHeartbeats 1600000 in
theorem l_eqTokenS (l : List Tk) (A1 : Option Addr) (n1 c1 : Nat) (A2 : Option Addr) (n2 c2 : Nat) (w : World) (h1 : Sl w w.heap.size 4 A1 n1 c1 (tkC l)) (h2 : Sl w w.heap.size 4 A2 n2 c2 (tkC l)) :
    Calls Tryz.prog 13 #[.slice A1 n1 c1, .slice A2 n2 c2] w fun r w' => r = .returned (.bool true) ∧ Below w.heap.size w w' := by
  have e1 := h1.tklen
  have e2 := h2.tklen
  have hc : n1 ≤ 9223372036854775807 := by have := h1.cap; have := h1.max; unfold maxLen at *; omega
  obtain rfl : n1 = n2 := by omega
  go_enter Tryz.func13, Tryz.ntmps13
  go_wp2_with fail
  go_loopg [5] n1 (fun f i wr => ∃ j : Nat, j + f = n1 ∧ i = .int .i64 j ∧ Below w.heap.size w wr)
  case atStart => exact ⟨0, by omega, rfl, Below.refl _ _⟩
  case round =>
    obtain ⟨j, hjk, rfl, hb⟩ := hrel
    by_cases hlt : j < n1
    · obtain ⟨f, rfl⟩ : ∃ f, gk = f + 1 := ⟨gk - 1, by omega⟩
      obtain ⟨g1, o1, hl, hA1, hg1, x0, x1, x2, x3⟩ := (h1.below hb).tok hlt
      obtain ⟨g2, o2, hl', hA2, hg2, y0, y1, y2, y3⟩ := (h2.below hb).tok hlt
      subst hA1 hA2
      have T1 : TokAt wr g1 (o1 + j * 4) l[j] := ⟨x0, x1, x2, x3⟩
      have T2 : TokAt wr g2 (o2 + j * 4) l[j] := ⟨y0, y1, y2, y3⟩
      have hS0 := fun (w' : World) (hb' : Below wr.heap.size wr w') => (show (TokAt w' g1 (o1 + j * 4) l[j] ∧ TokAt w' g2 (o2 + j * 4) l[j]) ∧ Below wr.heap.size wr w' from ⟨⟨T1.below hb' (Nat.lt_of_lt_of_le hg1 hb.size), T2.below hb' (Nat.lt_of_lt_of_le hg2 hb.size)⟩, hb'⟩)
      have hS2 := fun (w' w'' : World) (h : (TokAt w' g1 (o1 + j * 4) l[j] ∧ TokAt w' g2 (o2 + j * 4) l[j]) ∧ Below wr.heap.size wr w') (hb' : Below w'.heap.size w' w'') => hS0 w'' (h.2.up hb')
      have hcall := fun w1 => l_eqToken l[j].k l[j].s l[j].n l[j].x w1
      unfold tokV at hcall
      clear x0 x1 x2 x3 y0 y1 y2 y3 T1 T2
      go_wp2_with fail
      go_region_held3 (fun w' => (TokAt w' g1 (o1 + j * 4) l[j] ∧ TokAt w' g2 (o2 + j * 4) l[j]) ∧ Below wr.heap.size wr w')
        (first | exact hS0 _ (Below.refl _ _).drew | (refine hS2 _ _ ?_ hbq; assumption))
        (first | (go_at_call 20; refine (hcall _).mono ?_; rintro e w2 ⟨rfl, hbq⟩))
      rename_i hHeld
      have hb7 := hb.up hHeld.2
      clear hS0 hS2 hHeld hcall
      go_wp2_with fail
      go_roundg f
      case measure => omega
      case rel => exact ⟨j + 1, by omega, by go_num, hb7⟩
    · go_wp2_with fail
      go_ret
      exact ⟨rfl, hb⟩
end Go.Proofs.YtgddnpglgakkdaaGreatDoor
