/- The law on AtPath. (Written by wip/gen/lawtree.py.) -/
import Derived.Test.YtiapkpelgbpfmaaDoorAtPath3
import Derived.Test.YtiapkpelgbpfmaaDoorMarkVal
import Derived.Test.YtiapkpelgbpfmaaDoorOpenVal
set_option linter.unusedVariables false
set_option maxRecDepth 100000
set_option linter.unusedSimpArgs false
namespace Go.Proofs.YtiapkpelgbpfmaaDoor
open Go.ChangeShapes Go.WideShapes Go.ChangeAt Go.RowKit

theorem steps_of : ∀ (n : Nat) (xs : List Value), xs.length = n * 2 → (∀ i, i < n → ∃ (a : Int) (b : Bool), (xs.drop (i * 2)).take 2 = [.int .i64 a, .bool b] ∧ -9223372036854775808 ≤ a ∧ a ≤ 9223372036854775807) →
    ∃ ps : List (Int × Bool), xs = stC ps ∧ ∀ p ∈ ps, -9223372036854775808 ≤ p.1 ∧ p.1 ≤ 9223372036854775807
  | 0, xs, h, _ => ⟨[], List.eq_nil_of_length_eq_zero (by omega), fun p hp => by cases hp⟩
  | n + 1, xs, h, hq => by
    obtain ⟨a, b, hab, hb⟩ := hq 0 (by omega)
    match xs, h with
    | [], h => simp at h
    | [_], h => simp at h; omega
    | x0 :: x1 :: ys, h =>
      obtain ⟨ps, hps, hbd⟩ := steps_of n ys (by simp at h; omega) fun i hi => by
        obtain ⟨a, b, h1, h2⟩ := hq (i + 1) (by omega)
        exact ⟨a, b, by rw [← h1, show (i + 1) * 2 = i * 2 + 1 + 1 by omega]; rfl, h2⟩
      simp at hab
      refine ⟨(a, b) :: ps, by rw [hab.1, hab.2, hps]; rfl, fun p hp => ?_⟩
      rcases List.mem_cons.1 hp with rfl | hp
      · exact hb
      · exact hbd p hp
theorem two_of {α : Type} {cs : List α} (h : cs.length = 2) : ∃ a b, cs = [a, b] := by
  match cs, h with
  | [a, b], _ => exact ⟨a, b, rfl⟩
/-- Steps that came in, opened. -/
theorem open_steps {H : Type} {enc : TypeId × Value → H} {w : World} {r : Reach} {b0 : Nat} {v : Value} {d : DataW H} {p : List MemPlace} (hval : Value.okWide Tryd.prog w r b0 30 v)
    (h : DataW.Trod enc Tryd.prog w 0 (fun _ => true) true 30 v d p) (hlt : ∀ x ∈ p, x.block < w.heap.size) :
    ∃ (A : Option Addr) (n c : Nat) (ps : List (Int × Bool)), v = .slice A n c ∧ Sl w w.heap.size 2 A n c (stC ps) ∧ ∀ p ∈ ps, -9223372036854775808 ≤ p.1 ∧ p.1 ≤ 9223372036854775807 := by
  obtain ⟨a0, l0, c0, rfl⟩ := okWide_slice Tryd.underlying30 hval
  obtain ⟨fuel, hf⟩ := h
  obtain ⟨A, n, c, xs, hv, hs, hx⟩ := open_sl (B := w.heap.size) Tryd.underlying30 (show Tryd.prog.cellsOf 83 = 2 by kernel_rfl) (by decide) hf hlt
  obtain ⟨ps, rfl, hb⟩ := steps_of n xs hs.len fun i hi => by
    obtain ⟨f, y, _, hy, _⟩ := hx i hi
    obtain ⟨ys, f2, _, _, hl, hxl, hg⟩ := DataW.trod_struct Tryd.underlying83 hy
    obtain ⟨c0, c1, hcs⟩ := two_of (hl.trans (by kernel_rfl))
    obtain ⟨y0, y1, rfl⟩ := two_of (hxl.trans (by rfl))
    rw [hcs] at hg
    have h0 := hg 0 _ rfl
    have h1 := hg 1 _ rfl
    have g0 : DataW.trod enc Tryd.prog w 0 (fun _ => true) true f2 3 [c0] = some y0 := by rw [show Tryd.prog.cellsOf _ = 1 from by kernel_rfl] at h0; exact h0
    have g1 : DataW.trod enc Tryd.prog w 0 (fun _ => true) true f2 4 [c1] = some y1 := by rw [show Tryd.prog.cellsOf _ = 1 from by kernel_rfl] at h1; exact h1
    obtain ⟨k, e0, _, w0⟩ := DataW.trod_int Tryd.underlying3 g0
    obtain ⟨b, e1, _⟩ := DataW.trod_bool Tryd.underlying4 g1
    simp only [List.cons.injEq, and_true] at e0 e1
    exact ⟨k, b, by rw [hcs, e0, e1], bounds_i64 w0⟩
  exact ⟨A, n, c, ps, hv, hs, hb⟩
theorem Blk.fr_ {w w' : World} {g : Nat} {T : TypeId} {cs : Array Value} {fp : List Nat} (h : Blk w g T cs) (hf : Fr fp w w') (hn : g ∉ fp) : Blk w' g T cs := (hf.block g h.lt hn).trans h
theorem atPath_sz : ∀ (ps : List (Int × Bool)) (t u : Tr), atPath t ps = some u → u.sz ≤ t.sz
  | [], t, u, h => by simp [atPath] at h; rw [h]; exact Nat.le_refl _
  | p :: ps, t, u, h => by
    cases hst : stepT t p with
    | none => rw [atPath_no hst] at h; cases h
    | some x =>
      rw [atPath_yes hst] at h
      have h1 := atPath_sz ps x u h
      unfold stepT at hst
      split at hst
      · cases hst
      · obtain ⟨hi, rfl⟩ := List.getElem?_eq_some_iff.1 hst
        exact Nat.le_trans h1 (child_sz hi)
end Go.Proofs.YtiapkpelgbpfmaaDoor
