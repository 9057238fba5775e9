/- Rows of trees: nothing else changes; what is new lies apart. append(row, tree) inside a region that draws its order: app_val's step. Trees drawn (1): names; rows of one tree. Written by gen/markdraws.py. -/
import Derived.Test.YtpafgmlkbbbmhaaDoorPqM9
import Derived.Test.YtpafgmlkbbbmhaaDoorPqMarkDraws
set_option linter.unusedVariables false
set_option maxRecDepth 100000
set_option linter.unusedSimpArgs false
namespace Go.Proofs.YtpafgmlkbbbmhaaDoor
open Go.RowKit

theorem RV.frg {w w' : World} {lo n c g : Nat} {A : Option Addr} {l : List Tr} {es : List El} (h : RV w lo A n c l es) (hf : Fr [g] w w') (hg : g < lo) : RV w' lo A n c l es :=
  h.fr hf (fun x hx => by have := (row_lt h.row hx).1; simp; omega) (fun x hx => by have := (h.own.2 x hx).1; simp; omega)
theorem RV.newOwn {w w5 : World} {lo n c : Nat} {A : Option Addr} {l : List Tr} {es : List El} {fp : List Nat} (h : RV w lo A n c l es) (ho : Own w5 w.heap.size fp) : ∀ x ∈ fp, x ∉ blkOf A ∧ x ∉ elFp es :=
  fun x hx => ⟨fun h1 => by have := (row_lt h.row h1).2; have := (ho.2 x hx).1; omega, fun h1 => by have := h.own.lt h1; have := (ho.2 x hx).1; omega⟩
end Go.Proofs.YtpafgmlkbbbmhaaDoor

namespace Go.Proofs.YtpafgmlkbbbmhaaDoor
open Go.RowKit

/-- append(row, t), t's list being of the call's own. -/
theorem step_val {ops : Array Oper} {o : Oper} {a : Act} {K : Act → World → Prop} {Q : Exit → Act → World → Prop} {E : Prop} {w : World} (hgd : o.guard = none) (s x : Operand)
    (ho : o.op = .call { callee := .builtin .append, args := #[s, x], argTypes := #[24, 24] })
    {lo : Nat} {A : Option Addr} {n c : Nat} {l : List Tr} {es : List El} {t : Tr} {u : El} (h : RV w lo A n c l es) (hs : a.eval s = .slice A n c)
    {gx : Nat} (hgx : w.heap.size = gx) (hx : a.eval x = .slice (some ⟨gx, 0, none⟩) 1 1) (hl : LsAt w t.l u) (hu : Own w lo u.fp) (hd : ∀ g ∈ u.fp, g ∉ blkOf A ∧ g ∉ elFp es) (hn : n + 1 ≤ 1099511627776) (hbase : lo ≤ w.heap.size)
    (hK : ∀ A' c' w', RV w' lo A' (n + 1) c' (l ++ [t]) (es ++ [u]) → Below lo w w' → Gr A A' (w.alloc (.cells #[.int .i64 t.k, .int .i64 t.n, .int .i64 t.x, .string t.s, .slice u.A u.n u.c] 26)) w' → K (a.put o.dst (.slice A' (n + 1) c')) w') :
    if Region.wanted o (yielded ops a.tmps) = true then Oper.wp Tryd.prog o a (w.alloc (.cells #[.int .i64 t.k, .int .i64 t.n, .int .i64 t.x, .string t.s, .slice u.A u.n u.c] 26)) K Q else E := by
  subst hgx
  obtain ⟨i0, hi, hz0, hz1, hz2⟩ := info_parts info_val
  have hb1 := Below.one w (.cells #[.int .i64 t.k, .int .i64 t.n, .int .i64 t.x, .string t.s, .slice u.A u.n u.c] 26)
  have h1 := h.below hb1
  have hsl := Sl.lit w 26 #[.int .i64 t.k, .int .i64 t.n, .int .i64 t.x, .string t.s, .slice u.A u.n u.c] 5 1 rfl (by decide) (w.heap.size + 1) (Nat.lt_succ_self _)
  refine step_append_sl _ hgd s x 24 ho lo 26 i0 (.agg #[.int .i64 0, .int .i64 0, .int .i64 0, .string ByteArray.empty, .slice none 0 0]) 5 64 Tryd.underlying24 hi hz0 hz1 hz2 rfl (by decide) (.slice A n c) n (cellsOf l es) hs h1.row _ _ 1 1 _ hx hsl (fun v hv => ?_) (by unfold maxLen; omega) (by omega) (by simp; omega) ?_
  · simp only [List.mem_cons, List.not_mem_nil, or_false] at hv
    rcases hv with rfl | rfl | rfl | rfl | rfl <;> rfl
  intro A' c' w' h2 h3 h4
  have hg := gr_of (n' := n + 1) (c' := c') h3 h4
  have hkl : ∀ g ∈ elFp es, g ∉ blkOf A := fun g hg2 hgA => h1.apart g hgA hg2
  have hbel : Below lo w w' := (hb1.mono hbase).trans (hg.fr.below (fun g hg2 => (row_lt h1.row hg2).1) (Nat.le_trans hbase hb1.size))
  refine hK A' c' w' ⟨?_, by simp [h.len], by simp [h.eslen], fun j t2 u2 a b => ?_, ?_, fun g hgA hg2 => ?_⟩ hbel hg
  · rw [cellsOf_snoc l es t u (by rw [h.len, h.eslen])]; exact h2
  · rcases Nat.lt_or_ge j n with hj | hj
    · rw [List.getElem?_append_left (by rw [h.len]; exact hj)] at a
      rw [List.getElem?_append_left (by rw [h.eslen]; exact hj)] at b
      exact (h1.kids j t2 u2 a b).fr hg.fr (fun g hg2 => h1.own.lt (elFp_mem b hg2)) (fun g hg2 => hkl g (elFp_mem b hg2))
    · have hj2 : j = n := by have := (List.getElem?_eq_some_iff.1 a).1; simp [h.len] at this; omega
      subst hj2
      rw [List.getElem?_append_right (by rw [h.len]; exact Nat.le_refl _), h.len, Nat.sub_self] at a
      rw [List.getElem?_append_right (by rw [h.eslen]; exact Nat.le_refl _), h.eslen, Nat.sub_self] at b
      simp only [List.getElem?_cons_zero, Option.some.injEq] at a b
      subst a b
      exact (hl.below (fun g hg2 => hu.lt hg2) hb1).fr hg.fr (fun g hg2 => Nat.lt_of_lt_of_le (hu.lt hg2) hb1.size) (fun g hg2 => (hd g hg2).1)
  · rw [elFp_snoc]
    exact ((h1.own.fr hg.fr hkl).app ((hu.below (fun g hg2 => hu.lt hg2) hb1).fr hg.fr (fun g hg2 => (hd g hg2).1)) fun g hg2 hg3 => (hd g hg3).2 hg2)
  · rw [elFp_snoc] at hg2
    rcases hg.own g hgA with h5 | h5
    · rcases List.mem_append.1 hg2 with h6 | h6
      · exact h1.apart g h5 h6
      · exact (hd g h6).1 h5
    · have h7 : w.heap.size < g := by simp at h5; omega
      rcases List.mem_append.1 hg2 with h6 | h6
      · have := h.own.lt h6; omega
      · have := hu.lt h6; omega
end Go.Proofs.YtpafgmlkbbbmhaaDoor

namespace Go.Proofs.YtpafgmlkbbbmhaaDoor
open Go.RowKit

set_option maxHeartbeats 4000000 in
theorem s_l6Name (B g n c : Nat) (A : Option Addr) (b : List UInt8) (w : World) (h : Cur w B g A n c b) :
    Calls Tryd.prog 59 #[.pointer (some ⟨g, 0, none⟩)] w fun r w' => ∃ u : Tr, r = .returned (trV u ⟨none, 0, 0, []⟩) ∧ LeafOk u ∧ Cur w' B g A n c b ∧ Fr [g] w w' := by
  have hgl := h.lt
  have hgn : w.heap.size ≠ g := by omega
  have hC0 := h.below (Below.one w (.cells #[.int .i64 0, .int .i64 0, .int .i64 0, .string ⟨#[]⟩, .slice none 0 0] 26))
  have hF0 : Fr [g] w (w.alloc (.cells #[.int .i64 0, .int .i64 0, .int .i64 0, .string ⟨#[]⟩, .slice none 0 0] 26)) := Fr.of_below (Below.one _ _)
  have hB0 := Blk.new w 26 #[.int .i64 0, .int .i64 0, .int .i64 0, .string ⟨#[]⟩, .slice none 0 0]
  go_enter Tryd.func59, Tryd.ntmps59
  go_upto_region 1 with fail
  generalize (w.alloc (.cells #[.int .i64 0, .int .i64 0, .int .i64 0, .string ⟨#[]⟩, .slice none 0 0] 26)) = w0 at hC0 hF0 hB0 ⊢
  go_wp2_with fail
  refine (s_l1Once B g n c A b 6 _ hC0 (by decide)).mono ?_; rintro r w1 ⟨x1, rfl, hC1, hf1⟩
  have hB1 := hB0.fr_' hf1 (by simpa using hgn)
  have hF1 := hF0.trans hf1
  cases x1 with
  | true =>
    go_wp2_with fail
    refine (s_l1Below B g n c A b 4 _ hC1 (by decide)).mono ?_; rintro r w2 ⟨z2, rfl, hz2, hC2, hf2⟩
    obtain ⟨y2, v2⟩ := hz2.2 (by decide)
    clear hz2
    have hB2 := hB1.fr_' hf2 (by simpa using hgn)
    have hF2 := hF1.trans hf2
    go_wp2_with fail
    refine (s_IntVal z2 _).mono ?_; rintro r w3 ⟨rfl, hb3⟩
    have hB3 := hB2.below hb3 hB2.lt
    have hC3 := hC2.below hb3
    have hF3 := hF2.onBelow (hb3.mono hF2.size)
    have hu := leafOk_ (k := 3) (n := z2) (s := ⟨#[]⟩) (by omega) (x := 0) (by decide) (by decide) (by decide)
    generalize leafTr 3 z2 0 ⟨#[]⟩ = u at hu ⊢
    obtain ⟨x0, x1, x2, x3, x4, ⟨s0, t0⟩, ⟨s1, t1⟩, ⟨s2, t2⟩, ⟨s3, t3⟩, s4, t4⟩ := hB3.five (o := 0) (by simp) (.int .i64 u.k) (.int .i64 u.n) (.int .i64 u.x) (.string u.s)
    have hE := leaf_put hB3 hC3 hF3 (Nat.le_refl _) hgl u ⟨none, 0, 0, []⟩
    go_wp2_with fail
    exact bodyPost_ret (results_blk Tryd.results59 Tryd.isAgg26 (by exact Tryd.sizeOf26) rfl hE.1) rfl ⟨u, rfl, hu, hE.2.1, hE.2.2⟩
  | false =>
    go_wp2_with fail
    refine (s_l1Str _ _ n c A b (some ⟨w1.heap.size, 0, none⟩) 6 6 [⟨#[97]⟩, ⟨#[98]⟩, ⟨#[99]⟩, ⟨#[]⟩, ⟨#[107, 101, 121]⟩, ⟨#[195, 169]⟩] _ (hC1.below (Below.one _ _)) (by exact strs_lit _ 0 [⟨#[97]⟩, ⟨#[98]⟩, ⟨#[99]⟩, ⟨#[]⟩, ⟨#[107, 101, 121]⟩, ⟨#[195, 169]⟩] _ rfl (by exact Nat.le_of_ble_eq_true rfl)) (lit_ne hC1.lt) (by decide)).mono ?_; rintro r w2 ⟨st, rfl, hst, hC2, hf2⟩
    have hsd : st.size ≤ 1000 := by
      simp only [List.mem_cons, List.mem_nil_iff, or_false] at hst
      rcases hst with rfl | rfl | rfl | rfl | rfl | rfl <;> decide
    have hB2 := (hB1.alloc (.cells #[.string ⟨#[97]⟩, .string ⟨#[98]⟩, .string ⟨#[99]⟩, .string ⟨#[]⟩, .string ⟨#[107, 101, 121]⟩, .string ⟨#[195, 169]⟩] 9)).fr_' hf2 (by simpa using hgn)
    have hF2 := (hF1.trans (Fr.of_below (Below.one w1 (.cells #[.string ⟨#[97]⟩, .string ⟨#[98]⟩, .string ⟨#[99]⟩, .string ⟨#[]⟩, .string ⟨#[107, 101, 121]⟩, .string ⟨#[195, 169]⟩] 9)))).trans hf2
    go_wp2_with fail
    refine (s_TextVal st _).mono ?_; rintro r w3 ⟨rfl, hb3⟩
    have hB3 := hB2.below hb3 hB2.lt
    have hC3 := hC2.below hb3
    have hF3 := hF2.onBelow (hb3.mono hF2.size)
    have hu := leafOk_ (k := 7) (n := 0) (x := 0) (s := st) (by decide) (by decide) hsd (by decide)
    generalize leafTr 7 0 0 st = u at hu ⊢
    obtain ⟨x0, x1, x2, x3, x4, ⟨s0, t0⟩, ⟨s1, t1⟩, ⟨s2, t2⟩, ⟨s3, t3⟩, s4, t4⟩ := hB3.five (o := 0) (by simp) (.int .i64 u.k) (.int .i64 u.n) (.int .i64 u.x) (.string u.s)
    have hE := leaf_put hB3 hC3 hF3 (Nat.le_refl _) hgl u ⟨none, 0, 0, []⟩
    go_wp2_with fail
    exact bodyPost_ret (results_blk Tryd.results59 Tryd.isAgg26 (by exact Tryd.sizeOf26) rfl hE.1) rfl ⟨u, rfl, hu, hE.2.1, hE.2.2⟩
/-- A row of one tree. -/
theorem RV.lit1 {w : World} {lo : Nat} {t : Tr} {u : El} (hl : LsAt w t.l u) (ho : Own w lo u.fp) (hlo : lo ≤ w.heap.size) :
    RV (w.alloc (.cells #[.int .i64 t.k, .int .i64 t.n, .int .i64 t.x, .string t.s, .slice u.A u.n u.c] 26)) lo (some ⟨w.heap.size, 0, none⟩) 1 1 [t] [u] := by
  have hb := Below.one w (.cells #[.int .i64 t.k, .int .i64 t.n, .int .i64 t.x, .string t.s, .slice u.A u.n u.c] 26)
  have e : elFp [u] = u.fp := by simp [elFp]
  refine ⟨World.ownsRow_lit w #[.int .i64 t.k, .int .i64 t.n, .int .i64 t.x, .string t.s, .slice u.A u.n u.c] 1 hlo (by decide) rfl, rfl, rfl, fun j t2 u2 a b => ?_, ?_, fun g hg => ?_⟩
  · cases j with
    | zero => simp at a b; subst a b; exact hl.below (fun g hg => ho.lt hg) hb
    | succ j => simp at a
  · rw [e]; exact ho.below (fun g hg => ho.lt hg) hb
  · rw [e]; intro hg2
    have := ho.lt hg2
    simp [blkOf] at hg; omega
theorem fr_put5 {w : World} {g : Nat} {t : Tr} {e : El} : Fr [g] w (set5 w g 0 t e) :=
  (((((Fr.refl [g] w).setCell (p := ⟨g, 0, none⟩) (by simp) _).setCell (p := ⟨g, 0 + 1, none⟩) (by simp) _).setCell (p := ⟨g, 0 + 2, none⟩) (by simp) _).setCell (p := ⟨g, 0 + 3, none⟩) (by simp) _).setCell (p := ⟨g, 0 + 4, none⟩) (by simp) _
/-- A tree drawn: small at every node. -/
def drT : Nat → Tr → Prop
  | 0, t => LeafOk t
  | d + 1, t => (-9223372036854775808 ≤ t.n ∧ t.n ≤ 9223372036854775807) ∧ (-9223372036854775808 ≤ t.x ∧ t.x ≤ 9223372036854775807) ∧ t.s.size ≤ 1000 ∧ (1 ≤ t.k ∧ t.k ≤ 11) ∧ t.l.length ≤ 6 ∧ ∀ x ∈ t.l, drT d x
theorem drT_leaf {u : Tr} (h : LeafOk u) : ∀ d, drT d u
  | 0 => h
  | d + 1 => ⟨h.2.1, h.2.2.1, h.2.2.2.1, ⟨h.2.2.2.2.1, by have := h.2.2.2.2.2; omega⟩, by rw [h.1]; decide, by rw [h.1]; intro x hx; cases hx⟩
/-- The list is a row of the call's own. -/
def RowOf (w : World) (lo : Nat) (e : El) (l : List Tr) : Prop := ∃ es, RV w lo e.A e.n e.c l es
theorem RowOf.nil_ (w : World) (lo : Nat) : RowOf w lo ⟨none, 0, 0, []⟩ [] := ⟨[], RV.nil_ _ _⟩
/-- What drawing a tree gives. -/
def TreeDrawn (d : Nat) (w w' : World) (B g n c : Nat) (A : Option Addr) (b : List UInt8) (r : Ending) : Prop :=
  ∃ (t : Tr) (e : El), r = .returned (trV t e) ∧ LsAt w' t.l e ∧ Own w' w.heap.size e.fp ∧ drT d t ∧ RowOf w' w.heap.size e t.l ∧ Cur w' B g A n c b ∧ Fr [g] w w'
end Go.Proofs.YtpafgmlkbbbmhaaDoor
