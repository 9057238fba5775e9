/- A tree that came in, opened. -/
import Derived.Test.YtjjcdlghichmdaaVal
import Derived.Test.YtjjcdlghichmdaaOpen
set_option linter.unusedVariables false
set_option maxRecDepth 100000
set_option linter.unusedSimpArgs false
namespace Go.Proofs.Ytjjcdlghichmdaa
open Go.ChangeShapes Go.WideShapes Go.ChangeAt Go.RowKit

theorem lists_of {Q : Nat → Tr → El → Prop} (n : Nat) (h : ∀ i, i < n → ∃ t e, Q i t e) : ∃ (l : List Tr) (es : List El), l.length = n ∧ es.length = n ∧ ∀ (i : Nat) (t : Tr) (e : El), l[i]? = some t → es[i]? = some e → Q i t e := by
  induction n with
  | zero => exact ⟨[], [], rfl, rfl, fun i t e h => by simp at h⟩
  | succ n ih =>
    obtain ⟨l, es, h1, h2, h3⟩ := ih fun i hi => h i (by omega)
    obtain ⟨t, e, hq⟩ := h n (by omega)
    refine ⟨l ++ [t], es ++ [e], by simp [h1], by simp [h2], fun i t2 e2 ht he => ?_⟩
    rcases Nat.lt_or_ge i n with hi | hi
    · rw [List.getElem?_append_left (by omega)] at ht he
      exact h3 i t2 e2 ht he
    · have : i < (l ++ [t]).length := (List.getElem?_eq_some_iff.1 ht).1
      obtain rfl : i = n := by simp [h1] at this; omega
      rw [List.getElem?_append_right (by omega)] at ht he
      simp [h1, h2] at ht he
      subst ht he
      exact hq
theorem five_of {α : Type} {cs : List α} (h : cs.length = 5) : ∃ a b c d e, cs = [a, b, c, d, e] := by
  match cs, h with
  | [a, b, c, d, e], _ => exact ⟨a, b, c, d, e, rfl⟩
theorem drop_get {α : Type} (xs : List α) (i j : Nat) (hj : j < 5) {cs : List α} (h : (xs.drop (i * 5)).take 5 = cs) : xs[i * 5 + j]? = cs[j]? := by
  subst h
  rw [List.getElem?_take, if_pos hj, List.getElem?_drop]
section
variable {H : Type} {enc : TypeId × Value → H} {w : World}
theorem open_five {f : Nat} {cs : List Value} {y : DataW H × List MemPlace} (h : DataW.trod enc Try.prog w 0 (fun _ => true) true f 24 cs = some y) :
    ∃ (k n x : Int) (s : ByteArray) (v : Value) (f2 : Nat) (z : DataW H × List MemPlace), f = f2 + 1 ∧ cs = [.int .i64 k, .int .i64 n, .int .i64 x, .string s, v] ∧
      (Lit.int .i64 k).wf = true ∧ (Lit.int .i64 n).wf = true ∧ (Lit.int .i64 x).wf = true ∧ s.size ≤ maxLen ∧ DataW.trod enc Try.prog w 0 (fun _ => true) true f2 22 [v] = some z ∧ ∀ p ∈ z.2, p ∈ y.2 := by
  obtain ⟨xs, f2, hf, hy, hl, hxl, hg⟩ := DataW.trod_struct Try.underlying24 h
  obtain ⟨c0, c1, c2, c3, c4, rfl⟩ := five_of (hl.trans (by kernel_rfl))
  obtain ⟨y0, y1, y2, y3, y4, rfl⟩ := five_of (hxl.trans (by rfl))
  have h0 := hg 0 _ rfl
  have h1 := hg 1 _ rfl
  have h2 := hg 2 _ rfl
  have h3 := hg 3 _ rfl
  have h4 := hg 4 _ rfl
  have g0 : DataW.trod enc Try.prog w 0 (fun _ => true) true f2 3 [c0] = some y0 := by rw [show Try.prog.cellsOf _ = 1 from by kernel_rfl] at h0; exact h0
  have g1 : DataW.trod enc Try.prog w 0 (fun _ => true) true f2 3 [c1] = some y1 := by rw [show Try.prog.cellsOf _ = 1 from by kernel_rfl] at h1; exact h1
  have g2 : DataW.trod enc Try.prog w 0 (fun _ => true) true f2 3 [c2] = some y2 := by rw [show Try.prog.cellsOf _ = 1 from by kernel_rfl] at h2; exact h2
  have g3 : DataW.trod enc Try.prog w 0 (fun _ => true) true f2 9 [c3] = some y3 := by rw [show Try.prog.cellsOf _ = 1 from by kernel_rfl] at h3; exact h3
  have g4 : DataW.trod enc Try.prog w 0 (fun _ => true) true f2 22 [c4] = some y4 := by rw [show Try.prog.cellsOf _ = 1 from by kernel_rfl] at h4; exact h4
  obtain ⟨k, e0, _, w0⟩ := DataW.trod_int Try.underlying3 g0
  obtain ⟨n, e1, _, w1⟩ := DataW.trod_int Try.underlying3 g1
  obtain ⟨x, e2, _, w2⟩ := DataW.trod_int Try.underlying3 g2
  obtain ⟨s, e3, _, w3⟩ := DataW.trod_string Try.underlying9 g3
  simp only [List.cons.injEq, and_true] at e0 e1 e2 e3
  refine ⟨k, n, x, s, c4, f2, y4, hf, by rw [e0, e1, e2, e3], w0, w1, w2, w3, g4, fun p hp => ?_⟩
  rw [hy]
  exact List.mem_flatMap.2 ⟨y4, by simp, hp⟩
theorem open_ls (B : Nat) : ∀ (fuel : Nat) (v : Value) (x : DataW H × List MemPlace), DataW.trod enc Try.prog w 0 (fun _ => true) true fuel 22 [v] = some x → (∀ p ∈ x.2, p.block < B) →
    ∃ (l : List Tr) (e : El), v = .slice e.A e.n e.c ∧ LsAt w l e ∧ e.lt B ∧ ∀ u ∈ l, u.wf := by
  intro fuel
  induction fuel using Nat.strongRecOn with
  | _ fuel ih =>
    intro v x h hlt
    obtain ⟨A, n, c, xs, rfl, hs, hx⟩ := open_sl (B := B) Try.underlying22 (show Try.prog.cellsOf 24 = 5 by kernel_rfl) (by decide) h hlt
    have hall : ∀ i, i < n → ∃ (t : Tr) (u : El), (xs.drop (i * 5)).take 5 = [.int .i64 t.k, .int .i64 t.n, .int .i64 t.x, .string t.s, .slice u.A u.n u.c] ∧ LsAt w t.l u ∧ u.lt B ∧ t.wf := by
      intro i hi
      obtain ⟨f, y, rfl, hy, hyl⟩ := hx i hi
      obtain ⟨k, n, x, s, v, f2, z, rfl, hcs, wk, wn, wx, ws, hz, hzy⟩ := open_five hy
      obtain ⟨l, u, rfl, hl, hu, hw⟩ := ih f2 (by omega) v z hz fun p hp => hyl p (hzy p hp)
      exact ⟨⟨k, n, x, s, l⟩, u, hcs, hl, hu, (Tr.wf_iff _).2 ⟨bounds_i64 wk, bounds_i64 wn, bounds_i64 wx, ws, hw⟩⟩
    obtain ⟨l, es, h1, h2, h3⟩ := lists_of n hall
    rcases Nat.eq_zero_or_pos n with h0 | h0
    · subst h0
      obtain rfl := List.eq_nil_of_length_eq_zero h1
      exact ⟨[], ⟨A, 0, c, []⟩, rfl, (lsAt_iff _ _).2 ⟨rfl, hs.cap, hs.max, [], rfl, fun _ => rfl, fun h => absurd h (Nat.lt_irrefl 0), (fun j t u h => by simp at h)⟩, (fun g hg => by cases hg), (fun u hu => by cases hu)⟩
    · obtain ⟨g, o, rfl, hg, hc⟩ := hs.at_ h0
      refine ⟨l, ⟨some ⟨g, o, none⟩, n, c, g :: elFp es⟩, rfl, (lsAt_iff _ _).2 ⟨h1, hs.cap, hs.max, es, h2, fun h => absurd h (Nat.ne_of_gt h0), fun _ => ⟨g, o, rfl, rfl, fun j t u hj hu => ?_⟩, fun j t u hj hu => (trAt_ls _ _).2 (h3 j t u hj hu).2.1⟩, fun g2 hg2 => ?_, fun u hu => ?_⟩
      · have hcs := (h3 j t u hj hu).1
        have hget : ∀ r v, r < 5 → [Value.int .i64 t.k, .int .i64 t.n, .int .i64 t.x, .string t.s, .slice u.A u.n u.c][r]? = some v → w.cell? ⟨g, o + j * 5 + r, none⟩ = some v := fun r v hr hv => by
          rw [Nat.add_assoc]
          exact hc (j * 5 + r) v ((drop_get xs j r hr hcs).trans hv)
        exact ⟨hget 0 _ (by decide) rfl, hget 1 _ (by decide) rfl, hget 2 _ (by decide) rfl, hget 3 _ (by decide) rfl, hget 4 _ (by decide) rfl⟩
      · rcases List.mem_cons.1 hg2 with rfl | hg2
        · exact hg
        · obtain ⟨fp, hfp, hgf⟩ := List.mem_flatten.1 hg2
          obtain ⟨u, hu, rfl⟩ := List.mem_map.1 hfp
          obtain ⟨j, hj, rfl⟩ := List.mem_iff_getElem.1 hu
          have hl : j < l.length := by omega
          exact (h3 j _ _ (List.getElem?_eq_getElem hl) (List.getElem?_eq_getElem hj)).2.2.1 g2 hgf
      · obtain ⟨j, hj, rfl⟩ := List.mem_iff_getElem.1 hu
        have hl : j < es.length := by omega
        exact (h3 j _ _ (List.getElem?_eq_getElem hj) (List.getElem?_eq_getElem hl)).2.2.2
/-- A Val, opened. -/
theorem open_val {r : Reach} {b0 : Nat} {v : Value} {d : DataW H} {p : List MemPlace} (hval : Value.okWide Try.prog w r b0 24 v)
    (h : DataW.Trod enc Try.prog w 0 (fun _ => true) true 24 v d p) (hlt : ∀ x ∈ p, x.block < w.heap.size) :
    ∃ (t : Tr) (e : El), v = trV t e ∧ LsAt w t.l e ∧ e.lt w.heap.size ∧ t.wf := by
  obtain ⟨cs, rfl, hsz⟩ := okWide_struct Try.underlying24 hval
  obtain ⟨fuel, hf⟩ := h
  obtain ⟨k, n, x, s, v, f2, z, rfl, hcs, wk, wn, wx, ws, hz, hzy⟩ := open_five hf
  obtain ⟨l, u, rfl, hl, hu, hw⟩ := open_ls w.heap.size f2 v z hz fun p hp => hlt p (hzy p hp)
  refine ⟨⟨k, n, x, s, l⟩, u, ?_, hl, hu, (Tr.wf_iff _).2 ⟨bounds_i64 wk, bounds_i64 wn, bounds_i64 wx, ws, hw⟩⟩
  obtain ⟨cl⟩ := cs
  have : cl = [.int .i64 k, .int .i64 n, .int .i64 x, .string s, .slice u.A u.n u.c] := by simpa [Value.cells] using hcs
  rw [this]
end
end Go.Proofs.Ytjjcdlghichmdaa
