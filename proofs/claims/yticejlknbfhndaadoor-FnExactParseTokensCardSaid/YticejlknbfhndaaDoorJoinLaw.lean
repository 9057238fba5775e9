/- Lists of tokens that came in, opened; the law FnExactJoinTokens. -/
import Derived.Test.YticejlknbfhndaaDoorJoin
import Derived.Test.YticejlknbfhndaaDoorToksM
import Derived.Test.YticejlknbfhndaaDoorOpen
set_option linter.unusedVariables false
set_option maxRecDepth 100000
set_option linter.unusedSimpArgs false
namespace Go.Proofs.YticejlknbfhndaaDoor
open Go.ChangeShapes Go.WideShapes Go.ChangeAt Go.RowKit

theorem toks_of : ∀ (n : Nat) (xs : List Value), xs.length = n * 4 → (∀ i, i < n → ∃ t : Tk, (xs.drop (i * 4)).take 4 = [.int .i64 t.k, .string t.s, .int .i64 t.n, .int .i64 t.x] ∧ t.wf) →
    ∃ l : List Tk, xs = tkC l ∧ ∀ t ∈ l, t.wf
  | 0, xs, h, _ => ⟨[], List.eq_nil_of_length_eq_zero (by omega), fun p hp => by cases hp⟩
  | n + 1, xs, h, hq => by
    obtain ⟨t, hab, hb⟩ := hq 0 (by omega)
    match xs, h with
    | [], h => simp at h
    | [_], h => simp at h; omega
    | [_, _], h => simp at h; omega
    | [_, _, _], h => simp at h; omega
    | x0 :: x1 :: x2 :: x3 :: ys, h =>
      obtain ⟨ps, hps, hbd⟩ := toks_of n ys (by simp at h; omega) fun i hi => by
        obtain ⟨t, h1, h2⟩ := hq (i + 1) (by omega)
        exact ⟨t, by rw [← h1, show (i + 1) * 4 = i * 4 + 1 + 1 + 1 + 1 by omega]; rfl, h2⟩
      simp at hab
      obtain ⟨a0, a1, a2, a3⟩ := hab
      refine ⟨t :: ps, by rw [a0, a1, a2, a3, hps]; rfl, fun p hp => ?_⟩
      rcases List.mem_cons.1 hp with rfl | hp
      · exact hb
      · exact hbd p hp
theorem four_of {α : Type} {cs : List α} (h : cs.length = 4) : ∃ a b c d, cs = [a, b, c, d] := by
  match cs, h with
  | [a, b, c, d], _ => exact ⟨a, b, c, d, rfl⟩
theorem open_tokens {H : Type} {enc : TypeId × Value → H} {w : World} {r : Reach} {b0 : Nat} {v : Value} {d : DataW H} {p : List MemPlace} (hval : Value.okWide Tryd.prog w r b0 33 v)
    (h : DataW.Trod enc Tryd.prog w 0 (fun _ => true) true 33 v d p) (hlt : ∀ x ∈ p, x.block < w.heap.size) :
    ∃ (A : Option Addr) (n c : Nat) (l : List Tk), v = .slice A n c ∧ Sl w w.heap.size 4 A n c (tkC l) ∧ ∀ t ∈ l, t.wf := by
  obtain ⟨a0, l0, c0, rfl⟩ := okWide_slice Tryd.underlying33 hval
  obtain ⟨fuel, hf⟩ := h
  obtain ⟨A, n, c, xs, hv, hs, hx⟩ := open_sl (B := w.heap.size) Tryd.underlying33 (show Tryd.prog.cellsOf 55 = 4 by kernel_rfl) (by decide) hf hlt
  obtain ⟨l, rfl, hb⟩ := toks_of n xs hs.len fun i hi => by
    obtain ⟨f, y, _, hy, _⟩ := hx i hi
    obtain ⟨ys, f2, _, _, hl, hxl, hg⟩ := DataW.trod_struct Tryd.underlying55 hy
    obtain ⟨c0, c1, c2, c3, hcs⟩ := four_of (hl.trans (by kernel_rfl))
    obtain ⟨y0, y1, y2, y3, rfl⟩ := four_of (hxl.trans (by rfl))
    rw [hcs] at hg
    have h0 := hg 0 _ rfl
    have h1 := hg 1 _ rfl
    have h2 := hg 2 _ rfl
    have h3 := hg 3 _ rfl
    have g0 : DataW.trod enc Tryd.prog w 0 (fun _ => true) true f2 3 [c0] = some y0 := by rw [show Tryd.prog.cellsOf _ = 1 from by kernel_rfl] at h0; exact h0
    have g1 : DataW.trod enc Tryd.prog w 0 (fun _ => true) true f2 9 [c1] = some y1 := by rw [show Tryd.prog.cellsOf _ = 1 from by kernel_rfl] at h1; exact h1
    have g2 : DataW.trod enc Tryd.prog w 0 (fun _ => true) true f2 3 [c2] = some y2 := by rw [show Tryd.prog.cellsOf _ = 1 from by kernel_rfl] at h2; exact h2
    have g3 : DataW.trod enc Tryd.prog w 0 (fun _ => true) true f2 3 [c3] = some y3 := by rw [show Tryd.prog.cellsOf _ = 1 from by kernel_rfl] at h3; exact h3
    obtain ⟨k, e0, _, w0⟩ := DataW.trod_int Tryd.underlying3 g0
    obtain ⟨s, e1, _, w1⟩ := DataW.trod_string Tryd.underlying9 g1
    obtain ⟨m, e2, _, w2⟩ := DataW.trod_int Tryd.underlying3 g2
    obtain ⟨x, e3, _, w3⟩ := DataW.trod_int Tryd.underlying3 g3
    simp only [List.cons.injEq, and_true] at e0 e1 e2 e3
    exact ⟨⟨k, s, m, x⟩, by rw [hcs, e0, e1, e2, e3], bounds_i64 w0, w1, bounds_i64 w2, bounds_i64 w3⟩
  exact ⟨A, n, c, l, hv, hs, hb⟩
end Go.Proofs.YticejlknbfhndaaDoor
