/- AllPaths: the program's and the reference's. -/
import Derived.Test.YtpafgmlkbbbmhaaDoorPqM10
import Derived.Deep.RegionHeld3
import Derived.Deep.RegionLaw
import Derived.Deep.QuietTactic
import Derived.BigQuiet
set_option linter.unusedVariables false
set_option maxRecDepth 100000
set_option linter.unusedSimpArgs false
namespace Go.Proofs.YtpafgmlkbbbmhaaDoor
open Go.RowKit

theorem stC_one : ∀ ps : Pth, ∀ x ∈ stC ps, x.oneCell' = true
  | [], x, h => by simp [stC] at h
  | p :: ps, x, h => by
    simp only [stC, List.mem_cons] at h
    rcases h with rfl | rfl | h
    · rfl
    · rfl
    · exact stC_one ps x h
theorem SS.new (w : World) (g : Nat) (hg : w.heap.size = g) : SS (w.alloc (.cells #[] 34)) g (some ⟨g, 0, none⟩) 0 0 [] := by
  subst hg
  exact World.ownsRow_lit w #[] 0 (Nat.le_refl _) (by decide) rfl
theorem lit_step (w : World) (q : Int × Bool) : Sl (w.alloc (.cells #[.int .i64 q.1, .bool q.2] 34)) (w.heap.size + 1) 2 (some ⟨w.heap.size, 0, none⟩) 1 1 (stC [q]) :=
  Sl.lit w 34 #[_, _] 2 1 rfl (by decide) _ (Nat.lt_succ_self _)
/-- append(xs, ys...) where xs is a row of steps of the call's own. -/
theorem app_st {ops : Array Oper} {rest : List Oper} {o : Oper} {a : Act} {Q : Exit → Act → World → Prop} {w : World} (hgd : o.guard = none) (s x : Operand)
    (ho : o.op = .call { callee := .builtin .append, args := #[s, x], argTypes := #[28, 28] })
    {lo : Nat} {A : Option Addr} {n c : Nat} {b : Pth} (hown : SS w lo A n c b) (hs : a.eval s = .slice A n c)
    {B : Nat} {A1 : Option Addr} {m c1 : Nat} {news : Pth} (hr : Sl w B 2 A1 m c1 (stC news)) (hx : a.eval x = .slice A1 m c1)
    (hn : n + m ≤ 1099511627776) (hbase : lo ≤ w.heap.size)
    (h : ∀ A' c' w', SS w' lo A' (n + m) c' (b ++ news) → Below lo w w' → wpList Tryd.prog ops Q rest (a.put o.dst (.slice A' (n + m) c')) w') : wpList Tryd.prog ops Q (o :: rest) a w := by
  obtain ⟨i0, hi, hz0, hz1, hz2⟩ := info_parts info_step
  refine wpList_append_sl _ hgd s x 28 ho lo 34 i0 (.agg #[.int .i64 0, .bool false]) 2 16 Tryd.underlying28 hi hz0 hz1 hz2 rfl (by decide) (.slice A n c) n (stC b) hs hown B A1 m c1 (stC news) hx hr (stC_one _) (by unfold maxLen; omega) (by omega) hbase ?_
  intro A' c' w' h1 h2 _
  rw [← stC_app] at h1
  exact h A' c' w' h1 (below_append (Below.refl _ _) hown (Nat.le_refl _) hbase h2)
theorem app_sts {ops : Array Oper} {o : Oper} {a : Act} {K : Act → World → Prop} {Q : Exit → Act → World → Prop} {E : Prop} {w : World} (hgd : o.guard = none) (s x : Operand)
    (ho : o.op = .call { callee := .builtin .append, args := #[s, x], argTypes := #[28, 28] })
    {lo : Nat} {A : Option Addr} {n c : Nat} {b : Pth} (hown : SS w lo A n c b) (hs : a.eval s = .slice A n c)
    {B : Nat} {A1 : Option Addr} {m c1 : Nat} {news : Pth} (hr : Sl w B 2 A1 m c1 (stC news)) (hx : a.eval x = .slice A1 m c1)
    (hn : n + m ≤ 1099511627776) (hbase : lo ≤ w.heap.size)
    (h : ∀ A' c' w', SS w' lo A' (n + m) c' (b ++ news) → Below lo w w' → K (a.put o.dst (.slice A' (n + m) c')) w') : if Region.wanted o (yielded ops a.tmps) = true then Oper.wp Tryd.prog o a w K Q else E := by
  obtain ⟨i0, hi, hz0, hz1, hz2⟩ := info_parts info_step
  refine step_append_sl _ hgd s x 28 ho lo 34 i0 (.agg #[.int .i64 0, .bool false]) 2 16 Tryd.underlying28 hi hz0 hz1 hz2 rfl (by decide) (.slice A n c) n (stC b) hs hown B A1 m c1 (stC news) hx hr (stC_one _) (by unfold maxLen; omega) (by omega) hbase ?_
  intro A' c' w' h1 h2 _
  rw [← stC_app] at h1
  exact h A' c' w' h1 (below_append (Below.refl _ _) hown (Nat.le_refl _) hbase h2)
/-- append(rows, paths...), the paths' steps being of the call's own. -/
theorem app_path {ops : Array Oper} {rest : List Oper} {o : Oper} {a : Act} {Q : Exit → Act → World → Prop} {w : World} (hgd : o.guard = none) (s x : Operand)
    (ho : o.op = .call { callee := .builtin .append, args := #[s, x], argTypes := #[41, 41] })
    {lo : Nat} {A : Option Addr} {n c : Nat} {L L2 : List Pth} {rs rs2 : List Pl} (hown : PR w lo A n c L rs) (hs : a.eval s = .slice A n c)
    {B : Nat} {A1 : Option Addr} {m c1 : Nat} (hr : Sl w B 1 A1 m c1 (plCells rs2)) (hx : a.eval x = .slice A1 m c1)
    (h2 : ∀ (j : Nat) (p : Pth) (r : Pl), L2[j]? = some p → rs2[j]? = some r → SS w lo r.A r.n r.c p) (hl2 : L2.length = rs2.length) (hn2 : (plFp rs2).Nodup) (hd : ∀ g ∈ plFp rs2, g ∉ blkOf A ∧ g ∉ plFp rs)
    (hn : n + m ≤ 1099511627776) (hbase : lo ≤ w.heap.size)
    (h : ∀ A' c' w', PR w' lo A' (n + m) c' (L ++ L2) (rs ++ rs2) → Gr A A' w w' → wpList Tryd.prog ops Q rest (a.put o.dst (.slice A' (n + m) c')) w') : wpList Tryd.prog ops Q (o :: rest) a w := by
  obtain ⟨i0, hi, hz0, hz1, hz2⟩ := info_parts info_path
  have hm : rs2.length = m := by have := hr.len; simp [plCells] at this; omega
  refine wpList_append_sl _ hgd s x 41 ho lo 47 i0 (.agg #[.slice none 0 0]) 1 24 Tryd.underlying41 hi hz0 hz1 hz2 rfl (by decide) (.slice A n c) n (plCells rs) hs hown.row B A1 m c1 (plCells rs2) hx hr (plCells_one _) (by unfold maxLen; omega) (by omega) hbase ?_
  intro A' c' w' h3 h4 h5
  have hg := gr_of (n' := n + m) (c' := c') h4 h5
  exact h A' c' w' (PR.app (w1 := w) hown h3 hg h2 hl2 hn2 hd (by omega)) hg
theorem app_paths {ops : Array Oper} {o : Oper} {a : Act} {K : Act → World → Prop} {Q : Exit → Act → World → Prop} {E : Prop} {w : World} (hgd : o.guard = none) (s x : Operand)
    (ho : o.op = .call { callee := .builtin .append, args := #[s, x], argTypes := #[41, 41] })
    {lo : Nat} {A : Option Addr} {n c : Nat} {L L2 : List Pth} {rs rs2 : List Pl} (hown : PR w lo A n c L rs) (hs : a.eval s = .slice A n c)
    {B : Nat} {A1 : Option Addr} {m c1 : Nat} (hr : Sl w B 1 A1 m c1 (plCells rs2)) (hx : a.eval x = .slice A1 m c1)
    (h2 : ∀ (j : Nat) (p : Pth) (r : Pl), L2[j]? = some p → rs2[j]? = some r → SS w lo r.A r.n r.c p) (hl2 : L2.length = rs2.length) (hn2 : (plFp rs2).Nodup) (hd : ∀ g ∈ plFp rs2, g ∉ blkOf A ∧ g ∉ plFp rs)
    (hn : n + m ≤ 1099511627776) (hbase : lo ≤ w.heap.size)
    (h : ∀ A' c' w', PR w' lo A' (n + m) c' (L ++ L2) (rs ++ rs2) → Gr A A' w w' → K (a.put o.dst (.slice A' (n + m) c')) w') : if Region.wanted o (yielded ops a.tmps) = true then Oper.wp Tryd.prog o a w K Q else E := by
  obtain ⟨i0, hi, hz0, hz1, hz2⟩ := info_parts info_path
  have hm : rs2.length = m := by have := hr.len; simp [plCells] at this; omega
  refine step_append_sl _ hgd s x 41 ho lo 47 i0 (.agg #[.slice none 0 0]) 1 24 Tryd.underlying41 hi hz0 hz1 hz2 rfl (by decide) (.slice A n c) n (plCells rs) hs hown.row B A1 m c1 (plCells rs2) hx hr (plCells_one _) (by unfold maxLen; omega) (by omega) hbase ?_
  intro A' c' w' h3 h4 h5
  have hg := gr_of (n' := n + m) (c' := c') h4 h5
  exact h A' c' w' (PR.app (w1 := w) hown h3 hg h2 hl2 hn2 hd (by omega)) hg
theorem g_CloneStep (A : Option Addr) (n c : Nat) (p : Pth) (w : World) (h : Sl w w.heap.size 2 A n c (stC p)) (hn : n ≤ 1099511627776) :
    Calls Tryd.prog 45 #[.slice A n c] w fun r w' => ∃ A' c', r = .returned (.slice A' n c') ∧ SS w' w.heap.size A' n c' p ∧ Below w.heap.size w w' := by
  have hl := h.stlen
  have hnil := fun w => Lib.run_eql_slice_nil (P := Tryd.prog) w 28 34 A n c 0 0 Tryd.underlying28
  rcases A with _ | ad
  · have h0 : n = 0 := by
      rcases Nat.eq_zero_or_pos n with h0 | h0
      · exact h0
      · obtain ⟨g, o, e, _⟩ := h.at_ h0; cases e
    subst h0
    obtain rfl := List.eq_nil_of_length_eq_zero hl
    go_enter Tryd.func45, Tryd.ntmps45
    go_wp2_with fail
    go_ret
    exact ⟨none, 0, rfl, World.ownsRow_nil _ _ _ _, Below.refl _ _⟩
  · go_enter Tryd.func45, Tryd.ntmps45
    go_wp2_with (at_builtin; refine app_st rfl _ _ rfl (SS.new w _ rfl) rfl (h.below (Below.one w _)) rfl (by omega) (by simp) ?_; intro A' c' w1 h1 hb1)
    rw [Nat.zero_add, List.nil_append] at h1
    go_ret
    exact ⟨A', c', rfl, h1, (Below.one w _).trans hb1⟩
theorem i_stepTo (t : Tr) (e : El) (j : Nat) (w : World) (hj : j ≤ 1099511627776) :
    Calls Tryd.prog 46 #[trV t e, .int .i64 j] w fun r w' => r = .returned (.agg #[.int .i64 (stepTo t.k j).1, .bool (stepTo t.k j).2]) ∧ Below w.heap.size w w' := by
  by_cases hk : t.k = 10
  · have hq : (t.k == 10) = true := by simp [hk]
    have hd : decide ((j : Int) % 2 = 0) = decide (j % 2 = 0) := by rw [decide_eq_decide]; omega
    go_enter Tryd.func46, Tryd.ntmps46
    go_wp2_with fail
    refine bodyPost_ret (v := .agg #[.int .i64 ((j : Int) / 2), .bool ((j : Int) % 2 == 0)]) (by simp [results, Tryd.results46, go_sem]) rfl ⟨?_, Below.two w _ _⟩
    simp only [stepTo, hk, if_true]
    congr 4
    rw [← hd]; rfl
  · have hq : (t.k == 10) = false := by simp [hk]
    go_enter Tryd.func46, Tryd.ntmps46
    go_wp2_with fail
    refine bodyPost_ret (v := .agg #[.int .i64 j, .bool false]) (by simp [results, Tryd.results46, go_sem]) rfl ⟨?_, Below.two w _ _⟩
    simp only [stepTo, hk, if_false]
theorem Gr.under {A A' : Option Addr} {w w1 w' : World} (h : Gr A A' w1 w') (hb : Below w.heap.size w w1) (hA : ∀ g ∈ blkOf A, g < w.heap.size) : Gr A A' w w' :=
  ⟨(Fr.of_below hb).trans h.fr, fun g hg => (h.own g hg).imp id (fun h2 => Nat.le_trans hb.size h2)⟩
theorem Fr.bel {fp : List Nat} {w w1 w2 : World} {B : Nat} (h : Fr fp w w1) (hb : Below B w1 w2) (hB : w.heap.size ≤ B) : Fr fp w w2 :=
  ⟨hb.os.trans h.os, hb.tape.trans h.tape, hb.output.trans h.output, Nat.le_trans h.size hb.size, fun k hk hn => (hb.block k (Nat.lt_of_lt_of_le hk hB)).trans (h.block k hk hn)⟩
/-- What paths gives: L in a row of the call's own. -/
def PaOut (w w' : World) (lo : Nat) (Ao : Option Addr) (L : List Pth) (r : Ending) : Prop := ∃ A' n' c' rs', r = .returned (.slice A' n' c') ∧ PR w' lo A' n' c' L rs' ∧ Gr Ao A' w w'
def PaSays (t : Tr) : Prop := ∀ (e : El) (w : World) (p : Pth) (A : Option Addr) (n c lo : Nat) (Ao : Option Addr) (no co : Nat) (L : List Pth) (rs : List Pl), LsAt w t.l e → e.lt w.heap.size → Sl w w.heap.size 2 A n c (stC p) → PR w lo Ao no co L rs → lo ≤ w.heap.size →
  (∀ g ∈ e.fp, g ∉ blkOf Ao) → (∀ g ∈ blkOf A, g ∉ blkOf Ao) → no + t.sz ≤ 1073741824 → n + t.sz ≤ 1073741824 →
  Calls Tryd.prog 33 #[trV t e, .slice A n c, .slice Ao no co] w fun r w' => PaOut w w' lo Ao (L ++ pathsT t p) r
set_option maxHeartbeats 3000000 in
theorem i_paths (t : Tr) : PaSays t := by
  refine Tr.ind (P := PaSays) (fun t ih => ?_) t
  intro e w p A n c lo Ao no co L rs hl hel hA hPR hlo hd1 hd2 hs1 hs2
  have hsz := t.sz_eq
  have hen : t.l.length = e.n := hl.len
  have hszl := szT_le t.l 0
  have hnp := hA.stlen
  obtain ⟨eA, en, ec, efp⟩ := e
  have hen : t.l.length = en := hen
  have hb0 := Below.one w (.cells (valCells t ⟨eA, en, ec, efp⟩) 26)
  have hPR0 := hPR.below hb0
  have hAlt : ∀ g ∈ blkOf Ao, g < w.heap.size := fun g hg => (row_lt hPR.row hg).2
  have BX := Blk.new w 26 (valCells t ⟨eA, en, ec, efp⟩)
  go_enter Tryd.func33, Tryd.ntmps33
  go_wp2_with (first
    | (go_at_call 45; refine (g_CloneStep A n c p _ (by exact (hA.below hb0).more hb0.size) (by omega)).mono ?_; rintro r w1 ⟨A1, c1, rfl, hS1, hb1⟩)
    | (at_builtin; refine app_path (L2 := [p]) (rs2 := [⟨A1, n, c1⟩]) rfl _ _ rfl ((hPR0.below hb1).below (Below.one w1 _)) rfl (Sl.lit w1 47 #[.slice A1 n c1] 1 1 rfl (by decide) _ (Nat.lt_succ_self _)) rfl ?h2 rfl ?hn2 ?hd (by omega) ?hb ?_; rotate_right; intro A2 c2 w2 h2 hg2; have hga := Gr.under hg2 (hb1.up (Below.one w1 _)) (fun g hg => by have := hAlt g hg; simp; omega); have B2 := hga.blk BX (fun hx => by have := hAlt _ hx; omega); obtain ⟨k0, k1, k2, k3, k4⟩ := B2.boxV))
  case h2 =>
    intro j q r a b
    match j, a, b with
    | 0, a, b =>
      simp only [List.getElem?_cons_zero, Option.some.injEq] at a b
      subst a b
      exact (hS1.mono (by simp; omega)).below (Below.one w1 _)
    | j + 1, a, b => simp at a
  case hn2 =>
    rcases A1 with _ | a1 <;> simp [plFp, blkOf]
  case hd =>
    intro g hg
    have hg1 : g ∈ blkOf A1 := by simpa [plFp] using hg
    have := (hS1.lt hg1).1
    simp at this
    exact ⟨fun h => by have := hAlt g h; omega, fun h => by have := (hPR.kid h).2; omega⟩
  case hb => have := hb1.size; simp at this ⊢; omega
  clear hg2 hb1 hS1 k0 k1 k2 k3 k4 B2
  go_loopg [2, 18] en (fun f y z wr => ∃ (j nj cj : Nat) (Aj : Option Addr) (rsj : List Pl), j + f = en ∧ y = .slice Aj nj cj ∧ z = .int .i64 j ∧ PR wr lo Aj nj cj (L ++ (p :: pathsK t p j)) rsj ∧ Gr Ao Aj (w.alloc (.cells (valCells t ⟨eA, en, ec, efp⟩) 26)) wr)
  case atStart => exact ⟨0, _, _, _, _, by omega, rfl, rfl, h2, hga⟩
  case round =>
    obtain ⟨j, nj, cj, Aj, rsj, hjf, rfl, rfl, hR, hG⟩ := hrel
    clear h2 hga
    have hA1 : ∀ g ∈ blkOf Aj, g ∈ blkOf Ao ∨ w.heap.size < g := fun g hg => (hG.own g hg).imp id (fun h => by simp at h; omega)
    have BXr := hG.blk BX (fun hx => by have := hAlt _ hx; omega)
    have hz : w.heap.size + 1 ≤ wr.heap.size := BXr.lt
    have hfr : Fr (blkOf Ao) w wr := (Fr.of_below hb0).trans hG.fr
    obtain ⟨k0, k1, k2, k3, k4⟩ := BXr.boxV
    have hnj := hR.len
    have hpk := (pathsK_bd t p j (by omega)).1
    rw [List.length_append, List.length_cons] at hnj
    have hLno := hPR.len
    by_cases hlt : j < en
    · obtain ⟨f, rfl⟩ : ∃ f, gk = f + 1 := ⟨gk - 1, by omega⟩
      obtain ⟨g, o, u, hj, hAe, hgm, ⟨c0, c1, c2, c3, c4⟩, hch, hsub⟩ := (hl.fr hfr hel hd1).elem hlt
      have hAe : eA = some ⟨g, o, none⟩ := hAe
      subst hAe
      have hz1 := szT_succ hj
      have hz2 := szT_le t.l (j + 1)
      have hul : u.lt w.heap.size := fun x hx => hel x (hsub x hx)
      have hA' := hA.heap_ (w' := wr) (fun k hk hlt2 => hfr.block k hlt2 (hd2 k hk))
      have hAj : ∀ g ∈ blkOf Aj, g < wr.heap.size := fun g hg => (row_lt hR.row hg).2
      have hbw := Below.one wr (.cells (valCells t.l[j] u) 26)
      obtain ⟨wb, hwb⟩ : ∃ wb, wr.alloc (.cells (valCells t.l[j] u) 26) = wb := ⟨_, rfl⟩
      have hzb : wb.heap.size = wr.heap.size + 1 := by rw [← hwb]; simp
      have BY : Blk wb wr.heap.size 26 (valCells t.l[j] u) := by rw [← hwb]; exact Blk.new wr _ _
      rw [hwb] at hbw
      have BXb := BXr.below hbw BXr.lt
      have hRb := hR.below hbw
      have hAb : Sl wb w.heap.size 2 A n c (stC p) := hA'.below (hbw.mono (by omega))
      have hchb := hch.below (hul.mono (by omega)) hbw
      have n1 : w.heap.size ∉ blkOf Aj := fun hx => by rcases hA1 _ hx with h | h; have := hAlt _ h; omega; omega
      have n2 : wr.heap.size ∉ blkOf Aj := fun hx => by have := hAj _ hx; omega
      have n3 : ∀ g ∈ blkOf A, g < w.heap.size → g ∉ blkOf Aj := fun g hg hlt3 hx => by rcases hA1 _ hx with h | h; exact hd2 g hg h; omega
      have n4 : ∀ g ∈ u.fp, g ∉ blkOf Aj := fun g hg hx => by have := hul g hg; rcases hA1 _ hx with h | h; exact hd1 g (hsub g hg) h; omega
      have hS0 := fun (w' : World) (hf : Fr (blkOf Aj) wb w') => (show (BoxV w' w.heap.size t ⟨some ⟨g, o, none⟩, en, ec, efp⟩ ∧ BoxV w' wr.heap.size t.l[j] u) ∧ Fr (blkOf Aj) wb w' from ⟨⟨(show Blk w' w.heap.size 26 _ from (hf.block _ BXb.lt n1).trans BXb).boxV, (show Blk w' wr.heap.size 26 _ from (hf.block _ BY.lt n2).trans BY).boxV⟩, hf⟩)
      have hS2 := fun (w' w'' : World) (h : (BoxV w' w.heap.size t ⟨some ⟨g, o, none⟩, en, ec, efp⟩ ∧ BoxV w' wr.heap.size t.l[j] u) ∧ Fr (blkOf Aj) wb w') (hb : Below w'.heap.size w' w'') => hS0 w'' (h.2.bel hb h.2.size)
      have hS3 := fun (w' w'' : World) (lo' : Nat) (h : (BoxV w' w.heap.size t ⟨some ⟨g, o, none⟩, en, ec, efp⟩ ∧ BoxV w' wr.heap.size t.l[j] u) ∧ Fr (blkOf Aj) wb w') (hb : Below lo' w' w'') (hl : wb.heap.size ≤ lo') => hS0 w'' (h.2.bel hb hl)
      have hS4 := fun (w' w'' : World) (A6 : Option Addr) (h : (BoxV w' w.heap.size t ⟨some ⟨g, o, none⟩, en, ec, efp⟩ ∧ BoxV w' wr.heap.size t.l[j] u) ∧ Fr (blkOf Aj) wb w') (hg : Gr Aj A6 w' w'') => hS0 w'' (h.2.trans hg.fr)
      have hCl := fun (w' : World) (h : (BoxV w' w.heap.size t ⟨some ⟨g, o, none⟩, en, ec, efp⟩ ∧ BoxV w' wr.heap.size t.l[j] u) ∧ Fr (blkOf Aj) wb w') => g_CloneStep A n c p w' ((hAb.heap_ (w' := w') (fun k hk hlt2 => h.2.block k (by omega) (n3 k hk hlt2))).more (by have := h.2.size; omega)) (by omega)
      have hSt := fun (w' : World) => i_stepTo t ⟨some ⟨g, o, none⟩, en, ec, efp⟩ j w' (by omega)
      have hPa := fun (w' : World) (h : Below wb.heap.size wb w') (Ad : Option Addr) (cd lo' : Nat) (hSd : SS w' lo' Ad (n + 1) cd (p ++ [stepTo t.k j])) (hlo' : wb.heap.size ≤ lo') => ih t.l[j] (List.getElem_mem hj) u w' (p ++ [stepTo t.k j]) Ad (n + 1) cd lo Aj nj cj (L ++ (p :: pathsK t p j)) rsj (hchb.below (hul.mono (by omega)) h) (hul.mono (by have := h.size; omega)) hSd.sl (hRb.below h) (by have := h.size; omega) n4 (fun x hx hx2 => by have := (hSd.lt hx).1; have := hAj x hx2; omega) (by omega) (by omega)
      have HJ := Lib.hid hjf
      clear ih hch hchb hR hRb hA hA' hAb hPR hPR0 hl hb0 hjf hnp BX BXr BXb BY
      go_wp2_with fail
      clear hwb c0 c1 c2 c3 c4 k0 k1 k2 k3 k4
      go_region_held3 (fun w' => (BoxV w' w.heap.size t ⟨some ⟨g, o, none⟩, en, ec, efp⟩ ∧ BoxV w' wr.heap.size t.l[j] u) ∧ Fr (blkOf Aj) wb w')
        (first | exact hS0 _ (Fr.refl _ _).drew | exact hS0 _ (Fr.of_below kc) | exact hS0 _ (Fr.of_below ks) | exact hS0 _ (Fr.of_below (ks.up (Below.one _ _))) | exact hS0 _ (Fr.of_below kd) | exact hS0 _ ((Fr.of_below kd).trans hG6.fr))
        (first
          | (go_at_call 45; refine (hCl _ (by assumption)).mono ?_; rintro r wc ⟨Ac, cc, rfl, hSc, hbc⟩; have kc : Below wb.heap.size wb wc := (Below.refl _ _).drew.up hbc)
          | (go_at_call 46; refine (hSt _).mono ?_; rintro r ws ⟨rfl, hbs⟩; have ks : Below wb.heap.size wb ws := kc.up hbs; have hSs := (hSc.below hbs).below (Below.one ws (.cells #[.int .i64 (stepTo t.k j).1, .bool (stepTo t.k j).2] 34)); have hls := ks.size)
          | (go_at_call 33; refine (hPa _ kd _ _ _ hSd (Nat.le_refl _)).mono ?_; rintro r we ⟨A6, n6, c6, rs6, rfl, hR6, hG6⟩)
          | (refine app_sts (by rfl) _ _ (by rfl) hSs (by rfl) (lit_step ws (stepTo t.k j)) (by rfl) (by omega) (by simp; omega) ?_; intro Ad cd wd hSd hbd; have kd : Below wb.heap.size wb wd := (ks.up (Below.one _ _)).trans (hbd.mono (by simp))))
      have hGf := hG.trans (Gr.under hG6 (hbw.up kd) hAj)
      have hRf : PR we lo A6 n6 c6 (L ++ (p :: pathsK t p (j + 1))) rs6 := by
        rw [pathsK_succ hj]
        simpa using hR6
      clear hG6 hR6 hG hSd kd hbd hSs hls ks hbs kc hbc hSc hCl hSt hPa hS0 hS2 hS3 hS4
      go_wp2_with fail
      go_roundg f
      case measure => omega
      case rel => exact ⟨j + 1, n6, c6, A6, rs6, by have := HJ.out; omega, rfl, by go_num, hRf, hGf⟩
    · obtain rfl : j = en := by omega
      clear ih
      go_wp2_with fail
      go_ret
      exact ⟨Aj, nj, cj, rsj, rfl, by rw [pathsT_eq, hen]; exact hR, Gr.under hG hb0 hAlt⟩
/-- What AllPaths gives: rows in new memory. -/
def ApOut (w w' : World) (L : List Pth) (r : Ending) : Prop := ∃ A' n' c' rs', r = .returned (.slice A' n' c') ∧ PR w' w.heap.size A' n' c' L rs' ∧ Below w.heap.size w w'
theorem i_AllPaths (t : Tr) (e : El) (w : World) (hl : LsAt w t.l e) (hel : e.lt w.heap.size) (hm : t.sz ≤ 1048576) :
    Calls Tryd.prog 15 #[trV t e] w fun r w' => ApOut w w' (pathsT t []) r := by
  have hb0 := Below.one w (.cells (valCells t e) 26)
  have BX := Blk.new w 26 (valCells t e)
  have hc := i_paths t e (w.alloc (.cells (valCells t e) 26)) [] none 0 0 w.heap.size none 0 0 [] [] (hl.below hel hb0) (hel.mono hb0.size) ⟨rfl, Nat.le_refl _, by decide, fun h => absurd h (Nat.lt_irrefl 0)⟩ (PR.nil_ _ _) hb0.size (fun _ _ h => by simp [blkOf] at h) (fun _ h => by simp [blkOf] at h) (by omega) (by omega)
  obtain ⟨k0, k1, k2, k3, k4⟩ := BX.boxV
  go_enter Tryd.func15, Tryd.ntmps15
  go_wp2_with (go_at_call 33; refine hc.mono ?_; rintro r w1 ⟨A1, n1, c1, rs1, rfl, hR1, hG1⟩)
  go_ret
  exact ⟨A1, n1, c1, rs1, rfl, by simpa using hR1, hb0.trans (hG1.fr.below (fun g hg => by simp [blkOf] at hg) (by simp))⟩
end Go.Proofs.YtpafgmlkbbbmhaaDoor
