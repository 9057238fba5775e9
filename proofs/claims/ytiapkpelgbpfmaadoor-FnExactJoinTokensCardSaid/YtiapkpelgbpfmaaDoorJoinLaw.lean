/- Lists of tokens that came in, opened; the law FnExactJoinTokens. -/
import Derived.Test.YtiapkpelgbpfmaaDoorJoin
import Derived.Test.YtiapkpelgbpfmaaDoorToksM
import Derived.Test.YtiapkpelgbpfmaaDoorOpen
set_option linter.unusedVariables false
set_option maxRecDepth 100000
set_option linter.unusedSimpArgs false
namespace Go.Proofs.YtiapkpelgbpfmaaDoor
open Go.ChangeShapes Go.WideShapes Go.ChangeAt Go.RowKit

theorem toks_of : ∀ (n : Nat) (xs : List Value), xs.length = n * 4 → (∀ i, i < n → ∃ t : Tk, (xs.drop (i * 4)).take 4 = [.int .i64 t.k, .string t.s, .int .i64 t.n, .int .i64 t.x] ∧ t.wf) →
    ∃ l : List Tk, xs = tkC l ∧ ∀ t ∈ l, t.wf
  | 0, xs, h, _ => ⟨[], List.eq_nil_of_length_eq_zero (by omega), fun p hp => by cases hp⟩
  | n + 1, xs, h, hq => by
    obtain ⟨t, hab, hb⟩ := hq 0 (by omega)
    match xs, h with
    | [], h => simp at h
    | [_], h => simp at h; omega
    | [_, _], h => simp at h; omega
    | [_, _, _], h => simp at h; omega
    | x0 :: x1 :: x2 :: x3 :: ys, h =>
      obtain ⟨ps, hps, hbd⟩ := toks_of n ys (by simp at h; omega) fun i hi => by
        obtain ⟨t, h1, h2⟩ := hq (i + 1) (by omega)
        exact ⟨t, by rw [← h1, show (i + 1) * 4 = i * 4 + 1 + 1 + 1 + 1 by omega]; rfl, h2⟩
      simp at hab
      obtain ⟨a0, a1, a2, a3⟩ := hab
      refine ⟨t :: ps, by rw [a0, a1, a2, a3, hps]; rfl, fun p hp => ?_⟩
      rcases List.mem_cons.1 hp with rfl | hp
      · exact hb
      · exact hbd p hp
theorem four_of {α : Type} {cs : List α} (h : cs.length = 4) : ∃ a b c d, cs = [a, b, c, d] := by
  match cs, h with
  | [a, b, c, d], _ => exact ⟨a, b, c, d, rfl⟩
theorem open_tokens {H : Type} {enc : TypeId × Value → H} {w : World} {r : Reach} {b0 : Nat} {v : Value} {d : DataW H} {p : List MemPlace} (hval : Value.okWide Tryd.prog w r b0 52 v)
    (h : DataW.Trod enc Tryd.prog w 0 (fun _ => true) true 52 v d p) (hlt : ∀ x ∈ p, x.block < w.heap.size) :
    ∃ (A : Option Addr) (n c : Nat) (l : List Tk), v = .slice A n c ∧ Sl w w.heap.size 4 A n c (tkC l) ∧ ∀ t ∈ l, t.wf := by
  obtain ⟨a0, l0, c0, rfl⟩ := okWide_slice Tryd.underlying52 hval
  obtain ⟨fuel, hf⟩ := h
  obtain ⟨A, n, c, xs, hv, hs, hx⟩ := open_sl (B := w.heap.size) Tryd.underlying52 (show Tryd.prog.cellsOf 44 = 4 by kernel_rfl) (by decide) hf hlt
  obtain ⟨l, rfl, hb⟩ := toks_of n xs hs.len fun i hi => by
    obtain ⟨f, y, _, hy, _⟩ := hx i hi
    obtain ⟨ys, f2, _, _, hl, hxl, hg⟩ := DataW.trod_struct Tryd.underlying44 hy
    obtain ⟨c0, c1, c2, c3, hcs⟩ := four_of (hl.trans (by kernel_rfl))
    obtain ⟨y0, y1, y2, y3, rfl⟩ := four_of (hxl.trans (by rfl))
    rw [hcs] at hg
    have h0 := hg 0 _ rfl
    have h1 := hg 1 _ rfl
    have h2 := hg 2 _ rfl
    have h3 := hg 3 _ rfl
    have g0 : DataW.trod enc Tryd.prog w 0 (fun _ => true) true f2 3 [c0] = some y0 := by rw [show Tryd.prog.cellsOf _ = 1 from by kernel_rfl] at h0; exact h0
    have g1 : DataW.trod enc Tryd.prog w 0 (fun _ => true) true f2 9 [c1] = some y1 := by rw [show Tryd.prog.cellsOf _ = 1 from by kernel_rfl] at h1; exact h1
    have g2 : DataW.trod enc Tryd.prog w 0 (fun _ => true) true f2 3 [c2] = some y2 := by rw [show Tryd.prog.cellsOf _ = 1 from by kernel_rfl] at h2; exact h2
    have g3 : DataW.trod enc Tryd.prog w 0 (fun _ => true) true f2 3 [c3] = some y3 := by rw [show Tryd.prog.cellsOf _ = 1 from by kernel_rfl] at h3; exact h3
    obtain ⟨k, e0, _, w0⟩ := DataW.trod_int Tryd.underlying3 g0
    obtain ⟨s, e1, _, w1⟩ := DataW.trod_string Tryd.underlying9 g1
    obtain ⟨m, e2, _, w2⟩ := DataW.trod_int Tryd.underlying3 g2
    obtain ⟨x, e3, _, w3⟩ := DataW.trod_int Tryd.underlying3 g3
    simp only [List.cons.injEq, and_true] at e0 e1 e2 e3
    exact ⟨⟨k, s, m, x⟩, by rw [hcs, e0, e1, e2, e3], bounds_i64 w0, w1, bounds_i64 w2, bounds_i64 w3⟩
  exact ⟨A, n, c, l, hv, hs, hb⟩
set_option maxHeartbeats 1600000 in
theorem law_JoinTokens (A : Option Addr) (n c : Nat) (l : List Tk) (w : World) (h : Sl w w.heap.size 4 A n c (tkC l)) (hw : ∀ t ∈ l, t.wf) (hT : Lib.Utf8Tabs 0 1 w) (hP : PowT w) :
    Calls Tryd.prog 9 #[.slice A n c] w fun e w' => e = .returned (.bool true) ∧ Below w.heap.size w w' := by
  have hsz := l_szTokenS A n c l w w.heap.size h (Nat.le_refl _) hw
  by_cases hb : szK l ≤ 1048576
  · rw [if_pos hb] at hsz
    have hng : ¬ (1048576 : Int) - (szK l : Int) < 0 := by omega
    have hn : n ≤ 1048576 := by have := szK_sum l; rw [h.tklen] at this; omega
    have hto := fun w1 (hb1 : Below w.heap.size w w1) => l_toTokenS A n c l w1 w.heap.size (h.below hb1) hb1.size hn
    have hq := fun A' n' c' w1 B (h1 : Sl w1 B 4 A' n' c' (tkC l)) (h2 : B ≤ w1.heap.size) => s_JoinTokens A' n' c' l w1 B h1 h2 hw hb
    have hi := fun A' n' c' w1 B (h1 : Sl w1 B 4 A' n' c' (tkC l)) (h2 : B ≤ w1.heap.size) (h3 : Below w.heap.size w w1) => i_JoinTokens A' n' c' l w1 B h1 h2 hw hb (Utf8Tabs_below hT h3) (hP.below h3)
    have hE := fun A1 n1 c1 A2 n2 c2 w1 h1 h2 => l_eqTokenS l A1 n1 c1 A2 n2 c2 w1 h1 h2
    go_enter Tryd.func9, Tryd.ntmps9
    go_wp2_with (first
      | (go_at_call 33; refine hsz.mono ?_; rintro e w1 ⟨rfl, hb1⟩; clear hsz)
      | (have hg := hq; clear hg; go_at_call 35; refine (hto _ hb1).mono ?_; rintro e w2 ⟨A2, c2, rfl, h2, hb2⟩; have k2 := hb1.up hb2)
      | (go_at_call 34; refine (hq _ _ _ _ _ h2.sl (Nat.le_refl _)).mono ?_; rintro e w3 ⟨rfl, hb3⟩; clear hq; have k3 := k2.up hb3)
      | (have hg := hi; clear hg; go_at_call 35; refine (hto _ k3).mono ?_; rintro e w4 ⟨A4, c4, rfl, h4, hb4⟩; have k4 := k3.up hb4)
      | (go_at_call 36; refine (hi _ _ _ _ _ h4.sl (Nat.le_refl _) k4).mono ?_; rintro e w5 ⟨rfl, hb5⟩; clear hi; have k5 := k4.up hb5)
      | (go_at_call 35; refine (hto _ k5).mono ?_; rintro e w6 ⟨A6, c6, rfl, h6, hb6⟩; have k6 := k5.up hb6; have s4 := (h4.sl.below (hb5.up hb6)).more (hb5.up hb6).size)
      | (go_at_call 37; refine (hE _ _ _ _ _ _ _ s4 h6.sl).mono ?_; rintro e w7 ⟨rfl, hb7⟩; have k7 := k6.up hb7))
    go_ret
    exact ⟨rfl, k7⟩
  · rw [if_neg hb] at hsz
    go_enter Tryd.func9, Tryd.ntmps9
    go_wp2_with (first
      | (go_at_call 33; refine hsz.mono ?_; rintro e w1 ⟨rfl, hb1⟩))
    go_ret
    exact ⟨rfl, hb1⟩
end Go.Proofs.YtiapkpelgbpfmaaDoor
