/- The law FnExactTokens. Written by gen/tokens.py. A tree that came in, opened. The law on TokensOf. -/
import Derived.Test.YtgddnpglgakkdaaGreatDoorTo9M32
import Derived.Test.YtgddnpglgakkdaaGreatDoorTo9M46
import Derived.Test.YtgddnpglgakkdaaGreatDoorTo9Val
import Derived.Test.YtgddnpglgakkdaaGreatDoorTo9M25
import Derived.Test.YtgddnpglgakkdaaGreatDoorTo9MarkVal
import Derived.Deep.RegionHeld3
set_option linter.unusedVariables false
set_option maxRecDepth 100000
set_option linter.unusedSimpArgs false
namespace Go.Proofs.YtgddnpglgakkdaaGreatDoor
open Go.RowKit

theorem KS.frT {w w' : World} {lo n c : Nat} {A : Option Addr} {l : List Tk} {fp : List Nat} (h : KS w lo A n c l) (hf : Fr fp w w') (hn : ∀ g ∈ blkOf A, g ∉ fp) : KS w' lo A n c l := by
  have hlt := h.fromT
  refine ⟨h.1, ?_⟩
  rcases h.2 with h1 | ⟨g, cap, cur, h1, h2, h3, h4⟩
  · exact .inl h1
  · simp only [Value.slice.injEq] at h1
    have hg : g ∈ blkOf A := by rw [h1.1]; simp [blkOf]
    exact .inr ⟨g, cap, cur, by rw [h1.1, h1.2.2], h2, (hf.block g (hlt g hg).2 (hn g hg)).trans h3, h4⟩
set_option maxHeartbeats 2000000 in
theorem law_Tokens (s : ByteArray) (w : World) (hs : s.size ≤ maxLen) (hT : Lib.Utf8Tabs 1 2 w) (hC : Lib.CaseVar 6 Lib.caseA w) (hE : ErrT w) :
    Calls Tryz.prog 6 #[.string s] w fun e w' => e = .returned (.bool true) ∧ Below w.heap.size w w' := by
  by_cases hb : (s.size : Int) > 1048576
  · go_enter Tryz.func6, Tryz.ntmps6
    go_wp2_with fail
    go_ret
    exact ⟨rfl, Below.refl _ _⟩
  have hS := fun w1 => s_Tokens s w1 (by omega)
  have hI := fun w1 (hb : Below w.heap.size w w1) => i_Tokens s w1 (by omega) (Utf8Tabs_below hT hb) (Lib.CaseVar_below hC hb) (hE.below hb)
  have hlen := toksL_len (l := s.data.toList) (by rw [blen_of]; omega)
  unfold TokensAt at hS hI
  obtain ⟨⟨T, co⟩, hr⟩ : ∃ r, toksL s.data.toList = r := ⟨_, rfl⟩
  rw [hr] at hS hI hlen
  rw [blen_of] at hlen
  simp only [] at hS hI hlen
  clear hr hs
  go_enter Tryz.func6, Tryz.ntmps6
  go_wp2_with fail
  refine (hS _).mono ?_; rintro e w1 ⟨A1, n1, c1, rfl, h1, hb1⟩
  go_wp2_with fail
  refine (hI _ hb1).mono ?_; rintro e w2 ⟨A2, n2, c2, rfl, h2, hb2⟩
  have lo2 := fun g hg => (h2.fromT g hg).1
  have hi1 := fun g hg => (h1.fromT g hg).2
  have e2 := h2.lenT
  replace h1 := h1.belowT hb2
  have K2 := hb1.up hb2
  go_wp2_with fail
  refine (l_eqTokenS T _ _ _ _ _ _ _ h2.sl h1.sl).mono ?_; rintro e w3 ⟨rfl, hb3⟩
  replace h1 := h1.belowT hb3
  replace h2 := h2.belowT hb3
  have K3 := K2.up hb3
  go_wp2_with fail
  refine (l_markToks A2 n2 c2 T 1 _ _ h2 (by omega) (Nat.le_refl _) (by decide)).mono ?_; rintro e w4 ⟨rfl, h4, hf4⟩
  have n12 : ∀ g ∈ blkOf A1, g ∉ blkOf A2 := fun g hg h5 => by have := hi1 g hg; have := lo2 g h5; omega
  replace h1 := h1.frT hf4 n12
  have z1 := hb1.size
  have K4 := K3.trans (hf4.below (B := w.heap.size) (fun g hg => by have := lo2 g hg; omega) K3.size)
  clear h2 hf4
  go_wp2_with fail
  refine (l_heldToks A2 n2 c2 1 _ h4.sl (by omega) (Nat.le_refl _) (by decide)).mono ?_; rintro e w5 ⟨rfl, hb5⟩
  replace h1 := h1.belowT hb5
  replace h4 := h4.belowT hb5
  have K5 := K4.up hb5
  have hng : ¬ ((1 + 4 * n2 : Nat) : Int) < 0 := by omega
  go_wp2_with fail
  refine (hI _ K5).mono ?_; rintro e w6 ⟨A3, n3, c3, rfl, h3, hb6⟩
  replace h1 := h1.belowT hb6
  replace h4 := h4.belowT hb6
  have K6 := K5.up hb6
  go_wp2_with fail
  refine (l_eqTokenS T _ _ _ _ _ _ _ h3.sl h1.sl).mono ?_; rintro e w7 ⟨rfl, hb7⟩
  replace h4 := h4.belowT hb7
  have K7 := K6.up hb7
  go_wp2_with fail
  refine (l_heldToks A2 n2 c2 1 _ h4.sl (by omega) (Nat.le_refl _) (by decide)).mono ?_; rintro e w8 ⟨rfl, hb8⟩
  go_wp2_with fail
  go_ret
  exact ⟨rfl, K7.up hb8⟩
end Go.Proofs.YtgddnpglgakkdaaGreatDoor

namespace Go.Proofs.YtgddnpglgakkdaaGreatDoor
open Go.ChangeShapes Go.WideShapes Go.ChangeAt Go.RowKit

theorem lists_of {Q : Nat → Tr → El → Prop} (n : Nat) (h : ∀ i, i < n → ∃ t e, Q i t e) : ∃ (l : List Tr) (es : List El), l.length = n ∧ es.length = n ∧ ∀ (i : Nat) (t : Tr) (e : El), l[i]? = some t → es[i]? = some e → Q i t e := by
  induction n with
  | zero => exact ⟨[], [], rfl, rfl, fun i t e h => by simp at h⟩
  | succ n ih =>
    obtain ⟨l, es, h1, h2, h3⟩ := ih fun i hi => h i (by omega)
    obtain ⟨t, e, hq⟩ := h n (by omega)
    refine ⟨l ++ [t], es ++ [e], by simp [h1], by simp [h2], fun i t2 e2 ht he => ?_⟩
    rcases Nat.lt_or_ge i n with hi | hi
    · rw [List.getElem?_append_left (by omega)] at ht he
      exact h3 i t2 e2 ht he
    · have : i < (l ++ [t]).length := (List.getElem?_eq_some_iff.1 ht).1
      obtain rfl : i = n := by simp [h1] at this; omega
      rw [List.getElem?_append_right (by omega)] at ht he
      simp [h1, h2] at ht he
      subst ht he
      exact hq
theorem five_of {α : Type} {cs : List α} (h : cs.length = 5) : ∃ a b c d e, cs = [a, b, c, d, e] := by
  match cs, h with
  | [a, b, c, d, e], _ => exact ⟨a, b, c, d, e, rfl⟩
theorem drop_get {α : Type} (xs : List α) (i j : Nat) (hj : j < 5) {cs : List α} (h : (xs.drop (i * 5)).take 5 = cs) : xs[i * 5 + j]? = cs[j]? := by
  subst h
  rw [List.getElem?_take, if_pos hj, List.getElem?_drop]
section
variable {H : Type} {enc : TypeId × Value → H} {w : World}
theorem open_five {f : Nat} {cs : List Value} {y : DataW H × List MemPlace} (h : DataW.trod enc Tryz.prog w 0 (fun _ => true) true f 27 cs = some y) :
    ∃ (k n x : Int) (s : ByteArray) (v : Value) (f2 : Nat) (z : DataW H × List MemPlace), f = f2 + 1 ∧ cs = [.int .i64 k, .int .i64 n, .int .i64 x, .string s, v] ∧
      (Lit.int .i64 k).wf = true ∧ (Lit.int .i64 n).wf = true ∧ (Lit.int .i64 x).wf = true ∧ s.size ≤ maxLen ∧ DataW.trod enc Tryz.prog w 0 (fun _ => true) true f2 25 [v] = some z ∧ ∀ p ∈ z.2, p ∈ y.2 := by
  obtain ⟨xs, f2, hf, hy, hl, hxl, hg⟩ := DataW.trod_struct Tryz.underlying27 h
  obtain ⟨c0, c1, c2, c3, c4, rfl⟩ := five_of (hl.trans (by kernel_rfl))
  obtain ⟨y0, y1, y2, y3, y4, rfl⟩ := five_of (hxl.trans (by rfl))
  have h0 := hg 0 _ rfl
  have h1 := hg 1 _ rfl
  have h2 := hg 2 _ rfl
  have h3 := hg 3 _ rfl
  have h4 := hg 4 _ rfl
  have g0 : DataW.trod enc Tryz.prog w 0 (fun _ => true) true f2 3 [c0] = some y0 := by rw [show Tryz.prog.cellsOf _ = 1 from by kernel_rfl] at h0; exact h0
  have g1 : DataW.trod enc Tryz.prog w 0 (fun _ => true) true f2 3 [c1] = some y1 := by rw [show Tryz.prog.cellsOf _ = 1 from by kernel_rfl] at h1; exact h1
  have g2 : DataW.trod enc Tryz.prog w 0 (fun _ => true) true f2 3 [c2] = some y2 := by rw [show Tryz.prog.cellsOf _ = 1 from by kernel_rfl] at h2; exact h2
  have g3 : DataW.trod enc Tryz.prog w 0 (fun _ => true) true f2 9 [c3] = some y3 := by rw [show Tryz.prog.cellsOf _ = 1 from by kernel_rfl] at h3; exact h3
  have g4 : DataW.trod enc Tryz.prog w 0 (fun _ => true) true f2 25 [c4] = some y4 := by rw [show Tryz.prog.cellsOf _ = 1 from by kernel_rfl] at h4; exact h4
  obtain ⟨k, e0, _, w0⟩ := DataW.trod_int Tryz.underlying3 g0
  obtain ⟨n, e1, _, w1⟩ := DataW.trod_int Tryz.underlying3 g1
  obtain ⟨x, e2, _, w2⟩ := DataW.trod_int Tryz.underlying3 g2
  obtain ⟨s, e3, _, w3⟩ := DataW.trod_string Tryz.underlying9 g3
  simp only [List.cons.injEq, and_true] at e0 e1 e2 e3
  refine ⟨k, n, x, s, c4, f2, y4, hf, by rw [e0, e1, e2, e3], w0, w1, w2, w3, g4, fun p hp => ?_⟩
  rw [hy]
  exact List.mem_flatMap.2 ⟨y4, by simp, hp⟩
theorem open_ls (B : Nat) : ∀ (fuel : Nat) (v : Value) (x : DataW H × List MemPlace), DataW.trod enc Tryz.prog w 0 (fun _ => true) true fuel 25 [v] = some x → (∀ p ∈ x.2, p.block < B) →
    ∃ (l : List Tr) (e : El), v = .slice e.A e.n e.c ∧ LsAt w l e ∧ e.lt B ∧ ∀ u ∈ l, u.wf := by
  intro fuel
  induction fuel using Nat.strongRecOn with
  | _ fuel ih =>
    intro v x h hlt
    obtain ⟨A, n, c, xs, rfl, hs, hx⟩ := open_sl (B := B) Tryz.underlying25 (show Tryz.prog.cellsOf 27 = 5 by kernel_rfl) (by decide) h hlt
    have hall : ∀ i, i < n → ∃ (t : Tr) (u : El), (xs.drop (i * 5)).take 5 = [.int .i64 t.k, .int .i64 t.n, .int .i64 t.x, .string t.s, .slice u.A u.n u.c] ∧ LsAt w t.l u ∧ u.lt B ∧ t.wf := by
      intro i hi
      obtain ⟨f, y, rfl, hy, hyl⟩ := hx i hi
      obtain ⟨k, n, x, s, v, f2, z, rfl, hcs, wk, wn, wx, ws, hz, hzy⟩ := open_five hy
      obtain ⟨l, u, rfl, hl, hu, hw⟩ := ih f2 (by omega) v z hz fun p hp => hyl p (hzy p hp)
      exact ⟨⟨k, n, x, s, l⟩, u, hcs, hl, hu, (Tr.wf_iff _).2 ⟨bounds_i64 wk, bounds_i64 wn, bounds_i64 wx, ws, hw⟩⟩
    obtain ⟨l, es, h1, h2, h3⟩ := lists_of n hall
    rcases Nat.eq_zero_or_pos n with h0 | h0
    · subst h0
      obtain rfl := List.eq_nil_of_length_eq_zero h1
      exact ⟨[], ⟨A, 0, c, []⟩, rfl, (lsAt_iff _ _).2 ⟨rfl, hs.cap, hs.max, [], rfl, fun _ => rfl, fun h => absurd h (Nat.lt_irrefl 0), (fun j t u h => by simp at h)⟩, (fun g hg => by cases hg), (fun u hu => by cases hu)⟩
    · obtain ⟨g, o, rfl, hg, hc⟩ := hs.at_ h0
      refine ⟨l, ⟨some ⟨g, o, none⟩, n, c, g :: elFp es⟩, rfl, (lsAt_iff _ _).2 ⟨h1, hs.cap, hs.max, es, h2, fun h => absurd h (Nat.ne_of_gt h0), fun _ => ⟨g, o, rfl, rfl, fun j t u hj hu => ?_⟩, fun j t u hj hu => (trAt_ls _ _).2 (h3 j t u hj hu).2.1⟩, fun g2 hg2 => ?_, fun u hu => ?_⟩
      · have hcs := (h3 j t u hj hu).1
        have hget : ∀ r v, r < 5 → [Value.int .i64 t.k, .int .i64 t.n, .int .i64 t.x, .string t.s, .slice u.A u.n u.c][r]? = some v → w.cell? ⟨g, o + j * 5 + r, none⟩ = some v := fun r v hr hv => by
          rw [Nat.add_assoc]
          exact hc (j * 5 + r) v ((drop_get xs j r hr hcs).trans hv)
        exact ⟨hget 0 _ (by decide) rfl, hget 1 _ (by decide) rfl, hget 2 _ (by decide) rfl, hget 3 _ (by decide) rfl, hget 4 _ (by decide) rfl⟩
      · rcases List.mem_cons.1 hg2 with rfl | hg2
        · exact hg
        · obtain ⟨fp, hfp, hgf⟩ := List.mem_flatten.1 hg2
          obtain ⟨u, hu, rfl⟩ := List.mem_map.1 hfp
          obtain ⟨j, hj, rfl⟩ := List.mem_iff_getElem.1 hu
          have hl : j < l.length := by omega
          exact (h3 j _ _ (List.getElem?_eq_getElem hl) (List.getElem?_eq_getElem hj)).2.2.1 g2 hgf
      · obtain ⟨j, hj, rfl⟩ := List.mem_iff_getElem.1 hu
        have hl : j < es.length := by omega
        exact (h3 j _ _ (List.getElem?_eq_getElem hj) (List.getElem?_eq_getElem hl)).2.2.2
/-- A Val, opened. -/
theorem open_val {r : Reach} {b0 : Nat} {v : Value} {d : DataW H} {p : List MemPlace} (hval : Value.okWide Tryz.prog w r b0 27 v)
    (h : DataW.Trod enc Tryz.prog w 0 (fun _ => true) true 27 v d p) (hlt : ∀ x ∈ p, x.block < w.heap.size) :
    ∃ (t : Tr) (e : El), v = trV t e ∧ LsAt w t.l e ∧ e.lt w.heap.size ∧ t.wf := by
  obtain ⟨cs, rfl, hsz⟩ := okWide_struct Tryz.underlying27 hval
  obtain ⟨fuel, hf⟩ := h
  obtain ⟨k, n, x, s, v, f2, z, rfl, hcs, wk, wn, wx, ws, hz, hzy⟩ := open_five hf
  obtain ⟨l, u, rfl, hl, hu, hw⟩ := open_ls w.heap.size f2 v z hz fun p hp => hlt p (hzy p hp)
  refine ⟨⟨k, n, x, s, l⟩, u, ?_, hl, hu, (Tr.wf_iff _).2 ⟨bounds_i64 wk, bounds_i64 wn, bounds_i64 wx, ws, hw⟩⟩
  obtain ⟨cl⟩ := cs
  have : cl = [.int .i64 k, .int .i64 n, .int .i64 x, .string s, .slice u.A u.n u.c] := by simpa [Value.cells] using hcs
  rw [this]
end
end Go.Proofs.YtgddnpglgakkdaaGreatDoor

namespace Go.Proofs.YtgddnpglgakkdaaGreatDoor
open Go.RowKit
set_option maxHeartbeats 2000000 in
theorem law_TokensOf (t : Tr) (e : El) (w : World) (hl : LsAt w t.l e) (hel : e.lt w.heap.size) (hwf : t.wf) (hU : Lib.Utf8Tabs 1 2 w) (hC : Lib.CaseVar 6 Lib.caseA w) (hE : ErrT w) (hP : PowT w) :
    Calls Tryz.prog 4 #[trV t e] w fun e' w' => e' = .returned (.bool true) ∧ Below w.heap.size w w' := by
  have hsz := fun w1 (hb : Below w.heap.size w w1) => l_szVal t e 1048576 w1 hwf (hl.below hel hb) (hel.mono hb.size) (by decide) (by decide)
  by_cases hle : t.sz ≤ 1048576
  · have hres : szRes 1048576 t.sz = 1048576 - t.sz := by unfold szRes; rw [if_pos (by omega)]
    rw [hres] at hsz
    have hto := fun w1 (hb : Below w.heap.size w w1) => l_toVal t e w1 (hl.below hel hb) (hel.mono hb.size) hle
    have hcn := cntT_sz t
    have hbl := toksL_len (l := (writeTextS t).data.toList) (by rw [blen_of]; exact writeTextS_size ⟨hwf, hle⟩)
    have hbz := writeTextS_size (t := t) ⟨hwf, hle⟩
    rw [blen_of] at hbl
    have hS := fun u w1 (h1 : LsAt w1 t.l u) (h2 : u.lt w1.heap.size) (hbk : Below w.heap.size w w1) => s_TokensOf t u w1 ⟨hwf, hle⟩ h1 h2 (TabUP.below ⟨hU, hP⟩ hbk)
    have hI := fun u w1 (h1 : LsAt w1 t.l u) (h2 : u.lt w1.heap.size) (hbk : Below w.heap.size w w1) => i_TokensOf t u w1 ⟨hwf, hle⟩ h1 h2 (TabUP.below ⟨hU, hP⟩ hbk) (Lib.CaseVar_below hC hbk) (hE.below hbk)
    obtain ⟨r, hr⟩ : ∃ r, (toksL (writeTextS t).data.toList).1 = r := ⟨_, rfl⟩
    rw [hr] at hS hI hbl
    have hrl : r.length ≤ 1073741824 := by omega
    clear hr hbl hbz hwf hres
    have BV : Blk (w.alloc (.cells (valCells t e) 27)) w.heap.size 27 (valCells t e) := Blk.new w _ _
    have K := Below.one w (.cells (valCells t e) 27)
    go_enter Tryz.func4, Tryz.ntmps4
    obtain ⟨v0, v1, v2, v3, v4⟩ := BV.boxV
    go_wp2_with fail
    clear v0 v1 v2 v3 v4
    refine (hsz _ K).mono ?_; rintro e wz ⟨rfl, hbz⟩
    clear hsz
    replace BV := BV.below hbz BV.lt
    replace K := K.up hbz
    have z_hbz := hbz.size
    obtain ⟨v0, v1, v2, v3, v4⟩ := BV.boxV
    go_wp2_with fail
    clear v0 v1 v2 v3 v4
    refine (hto _ K).mono ?_; rintro e w1 ⟨u1, rfl, l1, o1, hb1⟩
    replace BV := BV.below hb1 BV.lt
    replace K := K.up hb1
    have z_hb1 := hb1.size
    go_wp2_with fail
    refine (hS _ _ l1 (fun g hg => o1.lt hg) K).mono ?_; rintro e wW ⟨AW, nW, cW, rfl, hW, hbW⟩
    replace BV := BV.below hbW BV.lt
    replace K := K.up hbW
    have z_hbW := hbW.size
    have toW0 := fun g hg => (hW.fromT g hg).2
    have ZB := BV.lt
    obtain ⟨v0, v1, v2, v3, v4⟩ := BV.boxV
    go_wp2_with fail
    clear v0 v1 v2 v3 v4
    refine (hto _ K).mono ?_; rintro e wX ⟨uX, rfl, lX, oX, hbX⟩
    replace hW := hW.belowT hbX
    replace BV := BV.below hbX BV.lt
    replace K := K.up hbX
    have z_hbX := hbX.size
    have frX := oX.2
    have hXl := lX
    have hXo := oX
    clear lX oX
    have BX : Blk (wX.alloc (.cells (valCells t uX) 33)) wX.heap.size 33 (valCells t uX) := Blk.new wX _ _
    have hba := Below.one wX (.cells (valCells t uX) 33)
    replace hW := hW.belowT hba
    replace hXl := hXl.below (fun g hg => hXo.lt hg) hba
    replace hXo := hXo.below (fun g hg => hXo.lt hg) hba
    replace BV := BV.below hba BV.lt
    replace K := K.up hba
    have z_hba := hba.size
    have toX := fun g hg => hXo.lt (g := g) hg
    obtain ⟨y0, y1, y2, y3, y4⟩ := BX.boxV
    go_wp2_with fail
    clear y0 y1 y2 y3 y4
    refine (hI _ _ hXl toX K).mono ?_; rintro e wG ⟨AG, nG, cG, rfl, hG, hbG⟩
    replace hW := hW.belowT hbG
    replace hXl := hXl.below (fun g hg => hXo.lt hg) hbG
    replace hXo := hXo.below (fun g hg => hXo.lt hg) hbG
    replace BX := BX.below hbG BX.lt
    replace BV := BV.below hbG BV.lt
    replace K := K.up hbG
    have z_hbG := hbG.size
    have frG := fun g hg => (hG.fromT g hg).1
    have eG := hG.lenT
    go_wp2_with fail
    refine (l_eqTokenS r _ _ _ _ _ _ _ hG.sl hW.sl).mono ?_; rintro e w5 ⟨rfl, hb5⟩
    replace hW := hW.belowT hb5
    replace hG := hG.belowT hb5
    replace hXl := hXl.below (fun g hg => hXo.lt hg) hb5
    replace hXo := hXo.below (fun g hg => hXo.lt hg) hb5
    replace BX := BX.below hb5 BX.lt
    replace BV := BV.below hb5 BV.lt
    replace K := K.up hb5
    have z_hb5 := hb5.size
    have hS0 := fun (w' : World) (hb : Below w5.heap.size w5 w') => (show (BoxV w' wX.heap.size t uX ∧ BoxV w' w.heap.size t e) ∧ Below w5.heap.size w5 w' from ⟨⟨(BX.below hb BX.lt).boxV, (BV.below hb BV.lt).boxV⟩, hb⟩)
    have hS2 := fun (w' w'' : World) (h : (BoxV w' wX.heap.size t uX ∧ BoxV w' w.heap.size t e) ∧ Below w5.heap.size w5 w') (hb : Below w'.heap.size w' w'') => hS0 w'' (h.2.up hb)
    have hT := fun (w' : World) (h : (BoxV w' wX.heap.size t uX ∧ BoxV w' w.heap.size t e) ∧ Below w5.heap.size w5 w') => hto w' (K.up h.2)
    have hEq := fun (w' : World) (h : (BoxV w' wX.heap.size t uX ∧ BoxV w' w.heap.size t e) ∧ Below w5.heap.size w5 w') (z : El) (h1 : LsAt w' t.l z) (h2 : Own w' 0 z.fp) => l_eqVal t uX z w' (hXl.below (fun g hg => hXo.lt hg) h.2) h1 (fun g hg => Nat.lt_of_lt_of_le (hXo.lt hg) h.2.size) (fun g hg => h2.lt hg)
    clear hto
    go_wp2_with fail
    go_region_held3 (fun w' => (BoxV w' wX.heap.size t uX ∧ BoxV w' w.heap.size t e) ∧ Below w5.heap.size w5 w')
      (first | exact hS0 _ (Below.refl _ _).drew | (refine hS2 _ _ ?_ hbq; assumption) | (refine hS2 _ _ ?_ hbr; assumption))
      (first
        | (go_at_call 11; refine (hT _ (by assumption)).mono ?_; rintro e w2 ⟨z, rfl, hz1, hz2, hbq⟩)
        | (go_at_call 14; refine (hEq _ (by assumption) _ hz1 (hz2.mono (Nat.zero_le _))).mono ?_; rintro e w3 ⟨rfl, hbr⟩))
    rename_i hHeld
    have kb6 := hHeld.2
    have hto := fun w1 (hb : Below w.heap.size w w1) => l_toVal t e w1 (hl.below hel hb) (hel.mono hb.size) hle
    rename_i w6 _
    clear hS0 hS2 hT hEq hHeld
    replace hW := hW.belowT kb6
    replace hG := hG.belowT kb6
    replace hXl := hXl.below (fun g hg => hXo.lt hg) kb6
    replace hXo := hXo.below (fun g hg => hXo.lt hg) kb6
    replace BX := BX.below kb6 BX.lt
    replace BV := BV.below kb6 BV.lt
    replace K := K.up kb6
    have z_kb6 := kb6.size
    obtain ⟨v0, v1, v2, v3, v4⟩ := BX.boxV
    go_wp2_with fail
    clear v0 v1 v2 v3 v4
    refine (l_markVal t uX 1 _ _ hXl hXo (Nat.le_refl _) (by omega)).mono ?_; rintro e w8 ⟨rfl, hX8, hX9, hf8⟩
    have kf8 := hf8.below (B := wW.heap.size) (fun g hg => (frX g hg).1) (by omega)
    have z_8 := kf8.size
    replace BV := BV.below kf8 (by omega)
    replace K := K.trans (kf8.mono (by omega))
    replace hW := hW.frT hf8 (fun g hg hg2 => by have := (frX g hg2).1; have := toW0 g hg; omega)
    replace hG := hG.frT hf8 (fun g hg hg2 => by have := toX g hg2; have := frG g hg; omega)
    clear hX8 hX9 hXl hXo BX
    go_wp2_with fail
    refine (l_eqTokenS r _ _ _ _ _ _ _ hG.sl hW.sl).mono ?_; rintro e w9 ⟨rfl, hb9⟩
    replace hW := hW.belowT hb9
    replace hG := hG.belowT hb9
    replace BV := BV.below hb9 BV.lt
    replace K := K.up hb9
    have z_hb9 := hb9.size
    go_wp2_with fail
    refine (l_markToks _ _ _ _ 1 _ _ hG (by omega) (by omega) (by omega)).mono ?_; rintro e w10 ⟨rfl, hG10, hf10⟩
    have kf10 := hf10.below (B := wW.heap.size) (fun g hg => by have := frG g hg; omega) (by omega)
    have z_10 := kf10.size
    replace BV := BV.below kf10 (by omega)
    replace K := K.trans (kf10.mono (by omega))
    replace hW := hW.frT hf10 (fun g hg hg2 => by have := frG g hg2; have := toW0 g hg; omega)
    replace hG := hG10
    clear hG10
    have hng : ¬ ((1 + 4 * nG : Nat) : Int) < 0 := by omega
    go_wp2_with fail
    refine (l_heldToks _ _ _ 1 _ hG.sl (by omega) (by omega) (by omega)).mono ?_; rintro e w11 ⟨rfl, hb11⟩
    replace hW := hW.belowT hb11
    replace hG := hG.belowT hb11
    replace BV := BV.below hb11 BV.lt
    replace K := K.up hb11
    have z_hb11 := hb11.size
    obtain ⟨v0, v1, v2, v3, v4⟩ := BV.boxV
    go_wp2_with fail
    clear v0 v1 v2 v3 v4
    refine (hto _ K).mono ?_; rintro e w12 ⟨u12, rfl, l12, o12, hb12⟩
    replace hW := hW.belowT hb12
    replace hG := hG.belowT hb12
    replace BV := BV.below hb12 BV.lt
    replace K := K.up hb12
    have z_hb12 := hb12.size
    go_wp2_with fail
    refine (hI _ _ l12 (fun g hg => o12.lt hg) K).mono ?_; rintro e wH ⟨AH, nH, cH, rfl, hH, hbH⟩
    replace hW := hW.belowT hbH
    replace hG := hG.belowT hbH
    replace BV := BV.below hbH BV.lt
    replace K := K.up hbH
    have z_hbH := hbH.size
    go_wp2_with fail
    refine (l_eqTokenS r _ _ _ _ _ _ _ hH.sl hW.sl).mono ?_; rintro e w14 ⟨rfl, hb14⟩
    replace hW := hW.belowT hb14
    replace hG := hG.belowT hb14
    replace hH := hH.belowT hb14
    replace BV := BV.below hb14 BV.lt
    replace K := K.up hb14
    have z_hb14 := hb14.size
    go_wp2_with fail
    refine (l_heldToks _ _ _ 1 _ hG.sl (by omega) (by omega) (by omega)).mono ?_; rintro e w15 ⟨rfl, hb15⟩
    go_wp2_with fail
    go_ret
    exact ⟨rfl, K.up hb15⟩
  · have hres : szRes 1048576 t.sz = -1 := by unfold szRes; rw [if_neg (by omega)]
    rw [hres] at hsz
    go_enter Tryz.func4, Tryz.ntmps4
    go_wp2_with (go_at_call 9; refine (hsz _ (by exact Below.one _ _)).mono ?_; rintro r w1 ⟨rfl, hb1⟩)
    go_ret
    exact ⟨rfl, hb1.boxed⟩
end Go.Proofs.YtgddnpglgakkdaaGreatDoor
