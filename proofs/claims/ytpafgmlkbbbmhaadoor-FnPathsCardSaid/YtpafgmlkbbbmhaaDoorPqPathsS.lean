/- AllPaths: the reference's. -/
import Derived.Test.YtpafgmlkbbbmhaaDoorPqPathsI
set_option linter.unusedVariables false
set_option maxRecDepth 100000
set_option linter.unusedSimpArgs false
namespace Go.Proofs.YtpafgmlkbbbmhaaDoor
open Go.RowKit

theorem app_stsg {ops : Array Oper} {o : Oper} {a : Act} {K : Act → World → Prop} {Q : Exit → Act → World → Prop} {E : Prop} {w : World} (hgd : o.guard = none) (s x : Operand)
    (ho : o.op = .call { callee := .builtin .append, args := #[s, x], argTypes := #[28, 28] })
    {lo : Nat} {A : Option Addr} {n c : Nat} {b : Pth} (hown : SS w lo A n c b) (hs : a.eval s = .slice A n c)
    {B : Nat} {A1 : Option Addr} {m c1 : Nat} {news : Pth} (hr : Sl w B 2 A1 m c1 (stC news)) (hx : a.eval x = .slice A1 m c1)
    (hn : n + m ≤ 1099511627776) (hbase : lo ≤ w.heap.size)
    (h : ∀ A' c' w', SS w' lo A' (n + m) c' (b ++ news) → Gr A A' w w' → K (a.put o.dst (.slice A' (n + m) c')) w') : if Region.wanted o (yielded ops a.tmps) = true then Oper.wp Tryd.prog o a w K Q else E := by
  obtain ⟨i0, hi, hz0, hz1, hz2⟩ := info_parts info_step
  refine step_append_sl _ hgd s x 28 ho lo 34 i0 (.agg #[.int .i64 0, .bool false]) 2 16 Tryd.underlying28 hi hz0 hz1 hz2 rfl (by decide) (.slice A n c) n (stC b) hs hown B A1 m c1 (stC news) hx hr (stC_one _) (by unfold maxLen; omega) (by omega) hbase ?_
  intro A' c' w' h1 h2 h3
  rw [← stC_app] at h1
  exact h A' c' w' h1 (gr_of h2 h3)
theorem app_stsg0 {ops : Array Oper} {o : Oper} {a : Act} {K : Act → World → Prop} {Q : Exit → Act → World → Prop} {E : Prop} {w : World} (hgd : o.guard = none) (s x : Operand)
    (ho : o.op = .call { callee := .builtin .append, args := #[s, x], argTypes := #[28, 28] })
    {lo : Nat} {A : Option Addr} {c : Nat} (hown : SS w lo A 0 c []) (hs : a.eval s = .slice A 0 c)
    {B : Nat} {A1 : Option Addr} {m c1 : Nat} {news : Pth} (hr : Sl w B 2 A1 m c1 (stC news)) (hx : a.eval x = .slice A1 m c1)
    (hn : m ≤ 1099511627776) (hbase : lo ≤ w.heap.size)
    (h : ∀ A' c' w', SS w' lo A' m c' news → Gr A A' w w' → K (a.put o.dst (.slice A' m c')) w') : if Region.wanted o (yielded ops a.tmps) = true then Oper.wp Tryd.prog o a w K Q else E :=
  app_stsg hgd s x ho hown hs hr hx (by omega) hbase fun A' c' w' h1 h2 => by
    rw [Nat.zero_add, List.nil_append] at h1
    rw [Nat.zero_add]
    exact h A' c' w' h1 h2
theorem lit_step' (w : World) (q : Int × Bool) (g : Nat) (hg : w.heap.size = g) : Sl (w.alloc (.cells #[.int .i64 q.1, .bool q.2] 34)) (g + 1) 2 (some ⟨g, 0, none⟩) 1 1 (stC [q]) := by
  subst hg; exact lit_step w q
set_option maxHeartbeats 2000000 in
theorem s_l8Steps (A : Option Addr) (n c : Nat) (p : Pth) (q : Int × Bool) (w : World) (h : Sl w w.heap.size 2 A n c (stC p)) (hn : n ≤ 1073741824) :
    Calls Tryd.prog 47 #[.slice A n c, .agg #[.int .i64 q.1, .bool q.2]] w fun r w' => ∃ A' c', r = .returned (.slice A' (n + 1) c') ∧ SS w' w.heap.size A' (n + 1) c' (p ++ [q]) ∧ Below w.heap.size w w' := by
  have BX := Blk.new w 34 #[.int .i64 q.1, .bool q.2]
  have hb0 := Below.one w (.cells #[.int .i64 q.1, .bool q.2] 34)
  have hS0 := fun (w' : World) (hb : Below (w.heap.size + 1) (w.alloc (.cells #[.int .i64 q.1, .bool q.2] 34)) w') => (show (w'.cell? ⟨w.heap.size, 0, none⟩ = some (.int .i64 q.1) ∧ w'.cell? ⟨w.heap.size, 1, none⟩ = some (.bool q.2)) ∧ Below (w.heap.size + 1) (w.alloc (.cells #[.int .i64 q.1, .bool q.2] 34)) w' from ⟨⟨(BX.below hb (by simp)).cell 0, (BX.below hb (by simp)).cell 1⟩, hb⟩)
  have hz : (w.alloc (.cells #[.int .i64 q.1, .bool q.2] 34)).heap.size = w.heap.size + 1 := by simp
  have hA := fun (w' : World) (hb : Below (w.heap.size + 1) (w.alloc (.cells #[.int .i64 q.1, .bool q.2] 34)) w') => h.below (hb0.trans (hb.mono (Nat.le_succ _)))
  go_enter Tryd.func47, Tryd.ntmps47
  go_wp2_with fail
  obtain ⟨wb, hwb⟩ : ∃ wb, w.alloc (.cells #[.int .i64 q.1, .bool q.2] 34) = wb := ⟨_, rfl⟩
  rw [hwb] at BX hb0 hS0 hz hA ⊢
  clear hwb
  have hd : Below (w.heap.size + 1) wb wb.drew := (Below.refl _ _).drew
  have hz1 : w.heap.size + 1 ≤ wb.drew.heap.size := Nat.le_of_eq hz.symm
  have ka := fun o => hd.alloc hz1 o
  have kb := fun o o2 => (hd.alloc hz1 o).alloc (Nat.le_trans hz1 (Below.one _ _).size) o2
  have HZ := Lib.hid hz
  have hz2 : w.heap.size + 1 ≤ wb.heap.size := Nat.le_of_eq hz.symm
  have hz3 : wb.heap.size ≤ w.heap.size + 1 := Nat.le_of_eq hz
  clear hz
  go_region_held3 (fun w' => (w'.cell? ⟨w.heap.size, 0, none⟩ = some (.int .i64 q.1) ∧ w'.cell? ⟨w.heap.size, 1, none⟩ = some (.bool q.2)) ∧ Below (w.heap.size + 1) wb w')
    (first | exact hS0 _ hd | exact hS0 _ (ka _) | exact hS0 _ (kb _ _) | exact hS0 _ k1 | exact hS0 _ (k1.alloc z1 _) | exact hS0 _ k2)
    (first
      | (refine app_stsg0 (by rfl) _ _ (by rfl) (by first | exact SS.new wb.drew wb.heap.size rfl | exact (SS.new wb.drew wb.heap.size rfl).below (Below.one _ _) | exact SS.new (wb.drew.alloc _) (wb.heap.size + 1) (by simp)) (by rfl) (hA _ (by first | exact ka _ | exact kb _ _)) (by rfl) (by omega) (by simp <;> omega) ?_; intro A1 c1 w1 h1 hg1; have k1 : Below (w.heap.size + 1) wb w1 := Below.trans (by first | exact ka _ | exact kb _ _) (hg1.fr.below (B := w.heap.size + 1) (fun x hx => by simp [blkOf] at hx; first | omega | (subst hx; simp; omega)) (by simp; omega)); have z1 : w.heap.size + 1 ≤ w1.heap.size := Nat.le_trans hz2 k1.size)
      | (refine app_stsg (by rfl) _ _ (by rfl) (by first | exact h1 | exact h1.below (Below.one w1 _)) (by rfl) (by first | exact lit_step w1 q | exact (lit_step' (wb.drew.alloc _) q (wb.heap.size + 1) (by simp)).heap_ (fun k hk _ => hg1.fr.block k (by simp [blkOf] at hk; subst hk; simp) (by simp [blkOf] at hk ⊢; omega)) | exact ((lit_step' wb.drew q wb.heap.size rfl).alloc (by simp) _).heap_ (fun k hk _ => hg1.fr.block k (by simp [blkOf] at hk; subst hk; simp <;> omega) (by simp [blkOf] at hk ⊢; omega))) (by rfl) (by omega) (by have := hg1.size; first | omega | (simp at this ⊢; omega)) ?_; intro A2 c2 w2 h2 hg2; have k2 : Below (w.heap.size + 1) wb w2 := Below.trans (by first | exact k1 | exact k1.alloc z1 _) (hg2.fr.below (B := w.heap.size + 1) (fun x hx => by have := (h1.lt hx).1; first | omega | (simp at this; omega)) (by first | omega | (simp; omega)))))
  all_goals
    clear hS0 hA ka kb
    go_wp2_with fail
    go_ret
    exact ⟨A2, c2, rfl, h2.mono (by omega), hb0.trans (k2.mono (Nat.le_succ _))⟩
abbrev RowP (w' : World) (g o : Nat) (t : Tr) (e : El) : Prop :=
  w'.cell? ⟨g, o, none⟩ = some (.int .i64 t.k) ∧ w'.cell? ⟨g, o + 1, none⟩ = some (.int .i64 t.n) ∧ w'.cell? ⟨g, o + 2, none⟩ = some (.int .i64 t.x) ∧ w'.cell? ⟨g, o + 3, none⟩ = some (.string t.s) ∧ w'.cell? ⟨g, o + 4, none⟩ = some (.slice e.A e.n e.c)
theorem app_st0 {ops : Array Oper} {rest : List Oper} {o : Oper} {a : Act} {Q : Exit → Act → World → Prop} {w : World} (hgd : o.guard = none) (s x : Operand)
    (ho : o.op = .call { callee := .builtin .append, args := #[s, x], argTypes := #[28, 28] })
    {lo : Nat} {A : Option Addr} {c : Nat} (hown : SS w lo A 0 c []) (hs : a.eval s = .slice A 0 c)
    {B : Nat} {A1 : Option Addr} {m c1 : Nat} {news : Pth} (hr : Sl w B 2 A1 m c1 (stC news)) (hx : a.eval x = .slice A1 m c1)
    (hn : m ≤ 1099511627776) (hbase : lo ≤ w.heap.size)
    (h : ∀ A' c' w', SS w' lo A' m c' news → Below lo w w' → wpList Tryd.prog ops Q rest (a.put o.dst (.slice A' m c')) w') : wpList Tryd.prog ops Q (o :: rest) a w :=
  app_st hgd s x ho hown hs hr hx (by omega) hbase fun A' c' w' h1 h2 => by
    rw [Nat.zero_add, List.nil_append] at h1
    rw [Nat.zero_add]
    exact h A' c' w' h1 h2
theorem PR.lit {w : World} {lo n c : Nat} {A : Option Addr} {p : Pth} (h : SS w lo A n c p) (hlo : lo ≤ w.heap.size) : PR (w.alloc (.cells #[.slice A n c] 47)) lo (some ⟨w.heap.size, 0, none⟩) 1 1 [p] [⟨A, n, c⟩] := by
  have h1 := h.below (Below.one w (.cells #[.slice A n c] 47))
  refine ⟨own_mono (World.ownsRow_lit w #[.slice A n c] 1 (Nat.le_refl _) (by decide) rfl) hlo, rfl, rfl, fun j q r a b => ?_, ?_, fun g hg hg2 => ?_⟩
  · match j, a, b with
    | 0, a, b =>
      simp only [List.getElem?_cons_zero, Option.some.injEq] at a b
      subst a b
      exact h1
    | j + 1, a, b => simp at a
  · rcases A with _ | a1 <;> simp [plFp, blkOf]
  · have hg3 : g ∈ blkOf A := by simpa [plFp] using hg2
    have := (h.lt hg3).2
    simp [blkOf] at hg
    omega
theorem cells5_eq {w w' : World} {g o : Nat} {t : Tr} {e : El} (h : Cells5 w g o t e) (hc : ∀ o2, w'.cell? ⟨g, o2, none⟩ = w.cell? ⟨g, o2, none⟩) : Cells5 w' g o t e := by
  obtain ⟨c0, c1, c2, c3, c4⟩ := h
  exact ⟨(hc _).trans c0, (hc _).trans c1, (hc _).trans c2, (hc _).trans c3, (hc _).trans c4⟩
def SpSays (t : Tr) : Prop := ∀ (e : El) (w : World) (p : Pth) (A : Option Addr) (n c : Nat), LsAt w t.l e → e.lt w.heap.size → Sl w w.heap.size 2 A n c (stC p) → t.sz ≤ 1048576 → n + t.sz ≤ 1073741824 →
  Calls Tryd.prog 34 #[trV t e, .slice A n c] w fun r w' => ApOut w w' (pathsT t p) r
set_option maxHeartbeats 3000000 in
theorem s_l8Paths (t : Tr) : SpSays t := by
  refine Tr.ind (P := SpSays) (fun t ih => ?_) t
  intro e w p A n c hl hel hA hs1 hs2
  have hsz := t.sz_eq
  have hen : t.l.length = e.n := hl.len
  have hszl := szT_le t.l 0
  have hnp := hA.stlen
  obtain ⟨eA, en, ec, efp⟩ := e
  have hen : t.l.length = en := hen
  have hb0 := Below.one w (.cells (valCells t ⟨eA, en, ec, efp⟩) 26)
  have BX := Blk.new w 26 (valCells t ⟨eA, en, ec, efp⟩)
  go_enter Tryd.func34, Tryd.ntmps34
  go_wp2_with (at_builtin; refine app_st0 rfl _ _ rfl (SS.new (w.alloc (.cells (valCells t ⟨eA, en, ec, efp⟩) 26)) (w.heap.size + 1) (by simp)) rfl (hA.below (Below.two w _ _)) rfl (by omega) (by simp) ?_; intro A1 c1 w1 h1 hb1)
  have k1 : Below (w.heap.size + 1) (w.alloc (.cells (valCells t ⟨eA, en, ec, efp⟩) 26)) w1 := ((Below.one _ _).mono (by simp)).trans hb1
  have hz1 : w.heap.size + 1 ≤ w1.heap.size := by have := k1.size; simp at this; omega
  have hR1 := PR.lit h1 hz1
  have k2 := k1.alloc hz1 (.cells #[.slice A1 n c1] 47)
  clear h1 hb1
  go_loopg [5, 6] en (fun f y z wr => ∃ (j nj cj : Nat) (Aj : Option Addr) (rsj : List Pl), j + f = en ∧ y = .slice Aj nj cj ∧ z = .int .i64 j ∧ PR wr (w.heap.size + 1) Aj nj cj (p :: pathsK t p j) rsj ∧ Below (w.heap.size + 1) (w.alloc (.cells (valCells t ⟨eA, en, ec, efp⟩) 26)) wr)
  case atStart => exact ⟨0, _, _, _, _, by omega, rfl, rfl, hR1, k2⟩
  case round =>
    obtain ⟨j, nj, cj, Aj, rsj, hjf, rfl, rfl, hR, hK⟩ := hrel
    clear hR1 k1 k2
    have BXr := BX.below hK (by simp)
    have hz : w.heap.size + 1 ≤ wr.heap.size := BXr.lt
    have hkw : Below w.heap.size w wr := hb0.trans (hK.mono (Nat.le_succ _))
    obtain ⟨k0, k1, k2, k3, k4⟩ := BXr.boxV
    have hnj := hR.len
    have hpk := (pathsK_bd t p j (by omega)).1
    rw [List.length_cons] at hnj
    by_cases hlt : j < en
    · obtain ⟨f, rfl⟩ : ∃ f, gk = f + 1 := ⟨gk - 1, by omega⟩
      obtain ⟨g, o, u, hj, hAe, hgm, hc5, hch, hsub⟩ := (hl.below hel hkw).elem hlt
      have hAe : eA = some ⟨g, o, none⟩ := hAe
      subst hAe
      have hz1 := szT_succ hj
      have hz2 := szT_le t.l (j + 1)
      have hul : u.lt w.heap.size := fun x hx => hel x (hsub x hx)
      have hg := hel g hgm
      have hzl : w.heap.size < wr.heap.size := hz
      have hgl : g < wr.heap.size := by omega
      obtain ⟨q, hq0⟩ : ∃ q, stepTo t.k j = q := ⟨_, rfl⟩
      have hAj : ∀ g ∈ blkOf Aj, g < wr.heap.size := fun g hg => (row_lt hR.row hg).2
      have hbw := Below.one wr (.cells #[.int .i64 q.1, .bool q.2] 34)
      obtain ⟨wb, hwb⟩ : ∃ wb, wr.alloc (.cells #[.int .i64 q.1, .bool q.2] 34) = wb := ⟨_, rfl⟩
      have hzb : wr.heap.size + 1 ≤ wb.heap.size := by rw [← hwb]; simp
      have BQ : Blk wb wr.heap.size 34 #[.int .i64 q.1, .bool q.2] := by rw [← hwb]; exact Blk.new wr _ _
      rw [hwb] at hbw
      have BXb := BXr.below hbw BXr.lt
      have hRb := hR.below hbw
      have hKb := hK.trans (hbw.mono hz)
      have hAb : Sl wb w.heap.size 2 A n c (stC p) := hA.below (hkw.trans (hbw.mono (by omega)))
      have hchb := hch.below (hul.mono (by omega)) hbw
      have hcb : Cells5 wb g (o + j * 5) t.l[j] u := cells5_eq hc5 fun i => hbw.cell (p := ⟨g, _, none⟩) hgl
      have hgb : g < wb.heap.size := by omega
      have hS0 := fun (w' : World) (hb : Below wb.heap.size wb w') => (show (BoxV w' w.heap.size t ⟨some ⟨g, o, none⟩, en, ec, efp⟩ ∧ RowP w' g (o + j * 5) t.l[j] u ∧ w'.cell? ⟨wr.heap.size, 0, none⟩ = some (.int .i64 q.1) ∧ w'.cell? ⟨wr.heap.size, 1, none⟩ = some (.bool q.2)) ∧ (wb.heap.size ≤ w'.heap.size) from ⟨⟨(BXb.below hb BXb.lt).boxV, cells5_eq hcb fun i => hb.cell (p := ⟨g, i, none⟩) hgb, (BQ.below hb BQ.lt).cell 0, (BQ.below hb BQ.lt).cell 1⟩, hb.size⟩)
      have hS1 := fun (w' : World) (hb : Fr (blkOf Aj) wb w') (n1 : w.heap.size ∉ blkOf Aj) (n2 : g ∉ blkOf Aj) (n3 : wr.heap.size ∉ blkOf Aj) => (show (BoxV w' w.heap.size t ⟨some ⟨g, o, none⟩, en, ec, efp⟩ ∧ RowP w' g (o + j * 5) t.l[j] u ∧ w'.cell? ⟨wr.heap.size, 0, none⟩ = some (.int .i64 q.1) ∧ w'.cell? ⟨wr.heap.size, 1, none⟩ = some (.bool q.2)) ∧ (wb.heap.size ≤ w'.heap.size) from
        ⟨⟨(show Blk w' w.heap.size 26 _ from (hb.block _ BXb.lt n1).trans BXb).boxV, cells5_eq hcb fun i => World.cell?_of_block (a := ⟨g, i, none⟩) (hb.block g hgb n2), (show Blk w' wr.heap.size 34 _ from (hb.block _ BQ.lt n3).trans BQ).cell 0, (show Blk w' wr.heap.size 34 _ from (hb.block _ BQ.lt n3).trans BQ).cell 1⟩, hb.size⟩)
      have n1 : w.heap.size ∉ blkOf Aj := fun hx => by have := (row_lt hR.row hx).1; omega
      have n2 : g ∉ blkOf Aj := fun hx => by have := (row_lt hR.row hx).1; omega
      have n3 : wr.heap.size ∉ blkOf Aj := fun hx => by have := hAj _ hx; omega
      have hSt := s_l8Steps A n c p q wb.drew ((hAb.below (show Below w.heap.size wb wb.drew from (Below.refl _ _).drew)).more (by show w.heap.size ≤ wb.heap.size; omega)) (by omega)
      have hPa := fun (w' : World) (h : Below wb.heap.size wb w') (Ad : Option Addr) (cd lo' : Nat) (hSd : SS w' lo' Ad (n + 1) cd (p ++ [q])) => ih t.l[j] (List.getElem_mem hj) u w' (p ++ [q]) Ad (n + 1) cd (hchb.below (hul.mono (by omega)) h) (hul.mono (by have := h.size; omega)) hSd.sl (by omega) (by omega)
      have hpk2 := (pathsT_bd t.l[j] (p ++ [q])).1
      have HJ := Lib.hid hjf
      have HQ0 := Lib.hid hq0
      have m1 : (0 : Int) ≤ (j : Int) := by omega
      have m2 : (j : Int) < (en : Int) := by omega
      clear ih hch hchb hR hA hAb hl hb0 hjf hnp BX BXr BXb BQ hc5 hcb hK hkw
      by_cases hk : t.k = 10
      · have hq : (t.k == 10) = true := by simp [hk]
        have hst : q = (((j / 2 : Nat) : Int), decide (j % 2 = 0)) := by rw [← hq0]; simp [stepTo, hk]
        have hq1 : q.1 = (j : Int) / 2 := by rw [hst]; simp
        have hq2 : q.2 = ((j : Int) % 2 == 0) := by
          rw [hst]
          show decide (j % 2 = 0) = ((j : Int) % 2 == 0)
          rw [Bool.eq_iff_iff]; simp; omega
        rw [hq1, hq2] at hwb
        have HWB := Lib.hid hwb
        clear hk hst hq1 hq2 hwb hq0
        go_wp2_with fail
        rw [HWB.out]
        clear k0 k1 k2 k3 k4 HWB
        go_region_held3 (fun w' => (BoxV w' w.heap.size t ⟨some ⟨g, o, none⟩, en, ec, efp⟩ ∧ RowP w' g (o + j * 5) t.l[j] u ∧ w'.cell? ⟨wr.heap.size, 0, none⟩ = some (.int .i64 q.1) ∧ w'.cell? ⟨wr.heap.size, 1, none⟩ = some (.bool q.2)) ∧ (wb.heap.size ≤ w'.heap.size))
          (first | exact hS0 _ (Below.refl _ _).drew | exact hS0 _ kd | exact hS0 _ ke | exact hS1 _ ((Fr.of_below ke).trans hG6.fr) n1 n2 n3)
          (first
            | (go_at_call 47; refine hSt.mono ?_; rintro r wd ⟨Ad, cd, rfl, hSd, hbd⟩; have kd : Below wb.heap.size wb wd := (Below.refl _ _).drew.up hbd)
            | (go_at_call 34; refine (hPa _ kd _ _ _ hSd).mono ?_; rintro r we ⟨A2, n2', c2, rs2, rfl, hR2, hbe⟩; have ke : Below wb.heap.size wb we := kd.up hbe; have hzd := kd.size; have hl2 := hR2.len)
            | (refine app_paths (by rfl) _ _ (by rfl) (hRb.below ke) (by rfl) hR2.sl (by rfl) (fun j' p' r' a b => (hR2.each j' p' r' a b).mono (by omega)) (by rw [hR2.len, hR2.rlen]) hR2.nodup (fun g hg => ⟨fun h => by have := (hR2.kid hg).1; have := hAj g h; omega, fun h => by have := (hR2.kid hg).1; have := (hRb.kid h).2; omega⟩) (by omega) (by have := ke.size; omega) ?_; intro A6 c6 w6 hR6 hG6))
        have hKf := hKb.trans ((ke.mono (by omega)).trans (hG6.fr.below (B := w.heap.size + 1) (fun x hx => (row_lt hRb.row hx).1) (by have := ke.size; omega)))
        clear hG6 hS0 hS1 hPa hSt
        go_wp2_with fail
        go_roundg f
        case measure => omega
        case rel => exact ⟨j + 1, _, _, _, _, by have := HJ.out; omega, rfl, by go_num, by rw [pathsK_succ hj, HQ0.out]; simpa using hR6, hKf⟩
      · have hq : (t.k == 10) = false := by simp [hk]
        have hst : q = ((j : Int), false) := by rw [← hq0]; simp [stepTo, hk]
        have hq1 : q.1 = (j : Int) := by rw [hst]
        have hq2 : q.2 = false := by rw [hst]
        rw [hq1, hq2] at hwb
        have HWB := Lib.hid hwb
        clear hk hst hq1 hq2 hwb hq0
        go_wp2_with fail
        rw [HWB.out]
        clear k0 k1 k2 k3 k4 HWB
        go_region_held3 (fun w' => (BoxV w' w.heap.size t ⟨some ⟨g, o, none⟩, en, ec, efp⟩ ∧ RowP w' g (o + j * 5) t.l[j] u ∧ w'.cell? ⟨wr.heap.size, 0, none⟩ = some (.int .i64 q.1) ∧ w'.cell? ⟨wr.heap.size, 1, none⟩ = some (.bool q.2)) ∧ (wb.heap.size ≤ w'.heap.size))
          (first | exact hS0 _ (Below.refl _ _).drew | exact hS0 _ kd | exact hS0 _ ke | exact hS1 _ ((Fr.of_below ke).trans hG6.fr) n1 n2 n3)
          (first
            | (go_at_call 47; refine hSt.mono ?_; rintro r wd ⟨Ad, cd, rfl, hSd, hbd⟩; have kd : Below wb.heap.size wb wd := (Below.refl _ _).drew.up hbd)
            | (go_at_call 34; refine (hPa _ kd _ _ _ hSd).mono ?_; rintro r we ⟨A2, n2', c2, rs2, rfl, hR2, hbe⟩; have ke : Below wb.heap.size wb we := kd.up hbe; have hzd := kd.size; have hl2 := hR2.len)
            | (refine app_paths (by rfl) _ _ (by rfl) (hRb.below ke) (by rfl) hR2.sl (by rfl) (fun j' p' r' a b => (hR2.each j' p' r' a b).mono (by omega)) (by rw [hR2.len, hR2.rlen]) hR2.nodup (fun g hg => ⟨fun h => by have := (hR2.kid hg).1; have := hAj g h; omega, fun h => by have := (hR2.kid hg).1; have := (hRb.kid h).2; omega⟩) (by omega) (by have := ke.size; omega) ?_; intro A6 c6 w6 hR6 hG6))
        have hKf := hKb.trans ((ke.mono (by omega)).trans (hG6.fr.below (B := w.heap.size + 1) (fun x hx => (row_lt hRb.row hx).1) (by have := ke.size; omega)))
        clear hG6 hS0 hS1 hPa hSt
        go_wp2_with fail
        go_roundg f
        case measure => omega
        case rel => exact ⟨j + 1, _, _, _, _, by have := HJ.out; omega, rfl, by go_num, by rw [pathsK_succ hj, HQ0.out]; simpa using hR6, hKf⟩
    · obtain rfl : j = en := by omega
      clear ih
      go_wp2_with fail
      go_ret
      exact ⟨Aj, nj, cj, rsj, rfl, by rw [pathsT_eq, hen]; exact hR.mono (Nat.le_succ _), hkw⟩
theorem s_AllPaths (t : Tr) (e : El) (w : World) (hl : LsAt w t.l e) (hel : e.lt w.heap.size) (hm : t.sz ≤ 1048576) :
    Calls Tryd.prog 16 #[trV t e] w fun r w' => ApOut w w' (pathsT t []) r := by
  have hb0 := Below.two w (.cells (valCells t e) 26) (.cells #[] 34)
  have BX := Blk.new w 26 (valCells t e)
  have hc := s_l8Paths t e ((w.alloc (.cells (valCells t e) 26)).alloc (.cells #[] 34)) [] (some ⟨w.heap.size + 1, 0, none⟩) 0 0 (hl.below hel hb0) (hel.mono hb0.size) ⟨rfl, Nat.le_refl _, by decide, fun h => absurd h (Nat.lt_irrefl 0)⟩ hm (by omega)
  obtain ⟨k0, k1, k2, k3, k4⟩ := BX.boxV
  go_enter Tryd.func16, Tryd.ntmps16
  go_wp2_with (go_at_call 34; refine hc.mono ?_; rintro r w1 ⟨A1, n1, c1, rs1, rfl, hR1, hb1⟩)
  go_ret
  exact ⟨A1, n1, c1, rs1, rfl, hR1.mono hb0.size, hb0.up hb1⟩
end Go.Proofs.YtpafgmlkbbbmhaaDoor
