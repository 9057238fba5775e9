/- Rows of trees: nothing else changes; what is new lies apart. Trees drawn (1): names; rows of one tree. Written by gen/markdraws.py. append(row, t1, t2) of two trees without lists inside a region that draws its order; a name drawn, with its kind. -/
import Derived.Test.YtmnlkedacnemcaaGreatDoorTwM7
import Derived.Test.YtmnlkedacnemcaaGreatDoorTwMarkDraws
import Derived.Test.YtmnlkedacnemcaaGreatDoorTwM19
import Derived.Test.YtmnlkedacnemcaaGreatDoorTwM18
import Derived.Test.YtmnlkedacnemcaaGreatDoorTwM28
set_option linter.unusedVariables false
set_option maxRecDepth 100000
set_option linter.unusedSimpArgs false
namespace Go.Proofs.YtmnlkedacnemcaaGreatDoor
open Go.RowKit

theorem RV.frg {w w' : World} {lo n c g : Nat} {A : Option Addr} {l : List Tr} {es : List El} (h : RV w lo A n c l es) (hf : Fr [g] w w') (hg : g < lo) : RV w' lo A n c l es :=
  h.fr hf (fun x hx => by have := (row_lt h.row hx).1; simp; omega) (fun x hx => by have := (h.own.2 x hx).1; simp; omega)
theorem RV.newOwn {w w5 : World} {lo n c : Nat} {A : Option Addr} {l : List Tr} {es : List El} {fp : List Nat} (h : RV w lo A n c l es) (ho : Own w5 w.heap.size fp) : ∀ x ∈ fp, x ∉ blkOf A ∧ x ∉ elFp es :=
  fun x hx => ⟨fun h1 => by have := (row_lt h.row h1).2; have := (ho.2 x hx).1; omega, fun h1 => by have := h.own.lt h1; have := (ho.2 x hx).1; omega⟩
end Go.Proofs.YtmnlkedacnemcaaGreatDoor

namespace Go.Proofs.YtmnlkedacnemcaaGreatDoor
open Go.RowKit

set_option maxHeartbeats 4000000 in
theorem s_l6Name (B g n c : Nat) (A : Option Addr) (b : List UInt8) (w : World) (h : Cur w B g A n c b) :
    Calls Tryz.prog 33 #[.pointer (some ⟨g, 0, none⟩)] w fun r w' => ∃ u : Tr, r = .returned (trV u ⟨none, 0, 0, []⟩) ∧ LeafOk u ∧ Cur w' B g A n c b ∧ Fr [g] w w' := by
  have hgl := h.lt
  have hgn : w.heap.size ≠ g := by omega
  have hC0 := h.below (Below.one w (.cells #[.int .i64 0, .int .i64 0, .int .i64 0, .string ⟨#[]⟩, .slice none 0 0] 26))
  have hF0 : Fr [g] w (w.alloc (.cells #[.int .i64 0, .int .i64 0, .int .i64 0, .string ⟨#[]⟩, .slice none 0 0] 26)) := Fr.of_below (Below.one _ _)
  have hB0 := Blk.new w 26 #[.int .i64 0, .int .i64 0, .int .i64 0, .string ⟨#[]⟩, .slice none 0 0]
  go_enter Tryz.func33, Tryz.ntmps33
  go_upto_region 1 with fail
  generalize (w.alloc (.cells #[.int .i64 0, .int .i64 0, .int .i64 0, .string ⟨#[]⟩, .slice none 0 0] 26)) = w0 at hC0 hF0 hB0 ⊢
  go_wp2_with fail
  refine (s_l1Once B g n c A b 6 _ hC0 (by decide)).mono ?_; rintro r w1 ⟨x1, rfl, hC1, hf1⟩
  have hB1 := hB0.fr_' hf1 (by simpa using hgn)
  have hF1 := hF0.trans hf1
  cases x1 with
  | true =>
    go_wp2_with fail
    refine (s_l1Below B g n c A b 4 _ hC1 (by decide)).mono ?_; rintro r w2 ⟨z2, rfl, hz2, hC2, hf2⟩
    obtain ⟨y2, v2⟩ := hz2.2 (by decide)
    clear hz2
    have hB2 := hB1.fr_' hf2 (by simpa using hgn)
    have hF2 := hF1.trans hf2
    go_wp2_with fail
    refine (s_IntVal z2 _).mono ?_; rintro r w3 ⟨rfl, hb3⟩
    have hB3 := hB2.below hb3 hB2.lt
    have hC3 := hC2.below hb3
    have hF3 := hF2.onBelow (hb3.mono hF2.size)
    have hu := leafOk_ (k := 3) (n := z2) (s := ⟨#[]⟩) (by omega) (x := 0) (by decide) (by decide) (by decide)
    generalize leafTr 3 z2 0 ⟨#[]⟩ = u at hu ⊢
    obtain ⟨x0, x1, x2, x3, x4, ⟨s0, t0⟩, ⟨s1, t1⟩, ⟨s2, t2⟩, ⟨s3, t3⟩, s4, t4⟩ := hB3.five (o := 0) (by simp) (.int .i64 u.k) (.int .i64 u.n) (.int .i64 u.x) (.string u.s)
    have hE := leaf_put hB3 hC3 hF3 (Nat.le_refl _) hgl u ⟨none, 0, 0, []⟩
    go_wp2_with fail
    exact bodyPost_ret (results_blk Tryz.results33 Tryz.isAgg26 (by exact Tryz.sizeOf26) rfl hE.1) rfl ⟨u, rfl, hu, hE.2.1, hE.2.2⟩
  | false =>
    go_wp2_with fail
    refine (s_l1Str _ _ n c A b (some ⟨w1.heap.size, 0, none⟩) 6 6 [⟨#[97]⟩, ⟨#[98]⟩, ⟨#[99]⟩, ⟨#[]⟩, ⟨#[107, 101, 121]⟩, ⟨#[195, 169]⟩] _ (hC1.below (Below.one _ _)) (by exact strs_lit _ 0 [⟨#[97]⟩, ⟨#[98]⟩, ⟨#[99]⟩, ⟨#[]⟩, ⟨#[107, 101, 121]⟩, ⟨#[195, 169]⟩] _ rfl (by exact Nat.le_of_ble_eq_true rfl)) (lit_ne hC1.lt) (by decide)).mono ?_; rintro r w2 ⟨st, rfl, hst, hC2, hf2⟩
    have hsd : st.size ≤ 1000 := by
      simp only [List.mem_cons, List.mem_nil_iff, or_false] at hst
      rcases hst with rfl | rfl | rfl | rfl | rfl | rfl <;> decide
    have hB2 := (hB1.alloc (.cells #[.string ⟨#[97]⟩, .string ⟨#[98]⟩, .string ⟨#[99]⟩, .string ⟨#[]⟩, .string ⟨#[107, 101, 121]⟩, .string ⟨#[195, 169]⟩] 9)).fr_' hf2 (by simpa using hgn)
    have hF2 := (hF1.trans (Fr.of_below (Below.one w1 (.cells #[.string ⟨#[97]⟩, .string ⟨#[98]⟩, .string ⟨#[99]⟩, .string ⟨#[]⟩, .string ⟨#[107, 101, 121]⟩, .string ⟨#[195, 169]⟩] 9)))).trans hf2
    go_wp2_with fail
    refine (s_TextVal st _).mono ?_; rintro r w3 ⟨rfl, hb3⟩
    have hB3 := hB2.below hb3 hB2.lt
    have hC3 := hC2.below hb3
    have hF3 := hF2.onBelow (hb3.mono hF2.size)
    have hu := leafOk_ (k := 7) (n := 0) (x := 0) (s := st) (by decide) (by decide) hsd (by decide)
    generalize leafTr 7 0 0 st = u at hu ⊢
    obtain ⟨x0, x1, x2, x3, x4, ⟨s0, t0⟩, ⟨s1, t1⟩, ⟨s2, t2⟩, ⟨s3, t3⟩, s4, t4⟩ := hB3.five (o := 0) (by simp) (.int .i64 u.k) (.int .i64 u.n) (.int .i64 u.x) (.string u.s)
    have hE := leaf_put hB3 hC3 hF3 (Nat.le_refl _) hgl u ⟨none, 0, 0, []⟩
    go_wp2_with fail
    exact bodyPost_ret (results_blk Tryz.results33 Tryz.isAgg26 (by exact Tryz.sizeOf26) rfl hE.1) rfl ⟨u, rfl, hu, hE.2.1, hE.2.2⟩
/-- A row of one tree. -/
theorem RV.lit1 {w : World} {lo : Nat} {t : Tr} {u : El} (hl : LsAt w t.l u) (ho : Own w lo u.fp) (hlo : lo ≤ w.heap.size) :
    RV (w.alloc (.cells #[.int .i64 t.k, .int .i64 t.n, .int .i64 t.x, .string t.s, .slice u.A u.n u.c] 26)) lo (some ⟨w.heap.size, 0, none⟩) 1 1 [t] [u] := by
  have hb := Below.one w (.cells #[.int .i64 t.k, .int .i64 t.n, .int .i64 t.x, .string t.s, .slice u.A u.n u.c] 26)
  have e : elFp [u] = u.fp := by simp [elFp]
  refine ⟨World.ownsRow_lit w #[.int .i64 t.k, .int .i64 t.n, .int .i64 t.x, .string t.s, .slice u.A u.n u.c] 1 hlo (by decide) rfl, rfl, rfl, fun j t2 u2 a b => ?_, ?_, fun g hg => ?_⟩
  · cases j with
    | zero => simp at a b; subst a b; exact hl.below (fun g hg => ho.lt hg) hb
    | succ j => simp at a
  · rw [e]; exact ho.below (fun g hg => ho.lt hg) hb
  · rw [e]; intro hg2
    have := ho.lt hg2
    simp [blkOf] at hg; omega
theorem fr_put5 {w : World} {g : Nat} {t : Tr} {e : El} : Fr [g] w (set5 w g 0 t e) :=
  (((((Fr.refl [g] w).setCell (p := ⟨g, 0, none⟩) (by simp) _).setCell (p := ⟨g, 0 + 1, none⟩) (by simp) _).setCell (p := ⟨g, 0 + 2, none⟩) (by simp) _).setCell (p := ⟨g, 0 + 3, none⟩) (by simp) _).setCell (p := ⟨g, 0 + 4, none⟩) (by simp) _
/-- A tree drawn: small at every node. -/
def drT : Nat → Tr → Prop
  | 0, t => LeafOk t
  | d + 1, t => (-9223372036854775808 ≤ t.n ∧ t.n ≤ 9223372036854775807) ∧ (-9223372036854775808 ≤ t.x ∧ t.x ≤ 9223372036854775807) ∧ t.s.size ≤ 1000 ∧ (1 ≤ t.k ∧ t.k ≤ 11) ∧ t.l.length ≤ 6 ∧ ∀ x ∈ t.l, drT d x
theorem drT_leaf {u : Tr} (h : LeafOk u) : ∀ d, drT d u
  | 0 => h
  | d + 1 => ⟨h.2.1, h.2.2.1, h.2.2.2.1, ⟨h.2.2.2.2.1, by have := h.2.2.2.2.2; omega⟩, by rw [h.1]; decide, by rw [h.1]; intro x hx; cases hx⟩
/-- The list is a row of the call's own. -/
def RowOf (w : World) (lo : Nat) (e : El) (l : List Tr) : Prop := ∃ es, RV w lo e.A e.n e.c l es
theorem RowOf.nil_ (w : World) (lo : Nat) : RowOf w lo ⟨none, 0, 0, []⟩ [] := ⟨[], RV.nil_ _ _⟩
/-- What drawing a tree gives. -/
def TreeDrawn (d : Nat) (w w' : World) (B g n c : Nat) (A : Option Addr) (b : List UInt8) (r : Ending) : Prop :=
  ∃ (t : Tr) (e : El), r = .returned (trV t e) ∧ LsAt w' t.l e ∧ Own w' w.heap.size e.fp ∧ drT d t ∧ RowOf w' w.heap.size e t.l ∧ Cur w' B g A n c b ∧ Fr [g] w w'
end Go.Proofs.YtmnlkedacnemcaaGreatDoor

namespace Go.Proofs.YtmnlkedacnemcaaGreatDoor
open Go.RowKit

/-- The empty list. -/
abbrev nE : El := ⟨none, 0, 0, []⟩
theorem elFp_n2 (es : List El) : elFp (es ++ [nE, nE]) = elFp es := by simp [elFp, nE]
theorem cellsOf_two {l : List Tr} {es : List El} (t1 t2 : Tr) (h : l.length = es.length) : cellsOf (l ++ [t1, t2]) (es ++ [nE, nE]) = cellsOf l es ++ cellsX [(t1, nE), (t2, nE)] := by
  have h1 := cellsOf_snoc l es t1 nE h
  have h2 := cellsOf_snoc (l ++ [t1]) (es ++ [nE]) t2 nE (by simp [h])
  rw [List.append_assoc, List.append_assoc] at h2
  simp only [List.cons_append, List.nil_append] at h2
  rw [h2, h1, List.append_assoc]
  rfl
/-- A row that two trees without lists were put to. -/
theorem RV.app2 {w w' : World} {lo n c c' : Nat} {A A' : Option Addr} {l : List Tr} {es : List El} {t1 t2 : Tr} (h : RV w lo A n c l es) (h1 : t1.l = []) (h2 : t2.l = [])
    (hr : w'.ownsRow lo 26 5 (.slice A' (n + 2) c') (n + 2) (cellsOf l es ++ cellsX [(t1, nE), (t2, nE)])) (hg : Gr A A' w w') : RV w' lo A' (n + 2) c' (l ++ [t1, t2]) (es ++ [nE, nE]) := by
  have hkl : ∀ g ∈ elFp es, g ∉ blkOf A := fun g hg2 hgA => h.apart g hgA hg2
  refine ⟨?_, by simp [h.len], by simp [h.eslen], fun j t u a b => ?_, ?_, fun g hgA hg2 => ?_⟩
  · rw [cellsOf_two t1 t2 (by rw [h.len, h.eslen])]; exact hr
  · rcases Nat.lt_or_ge j n with hj | hj
    · rw [List.getElem?_append_left (by rw [h.len]; exact hj)] at a
      rw [List.getElem?_append_left (by rw [h.eslen]; exact hj)] at b
      exact (h.kids j t u a b).fr hg.fr (fun g hg2 => h.own.lt (elFp_mem b hg2)) (fun g hg2 => hkl g (elFp_mem b hg2))
    · rw [List.getElem?_append_right (by rw [h.len]; exact hj), h.len] at a
      rw [List.getElem?_append_right (by rw [h.eslen]; exact hj), h.eslen] at b
      have ha : t.l = [] := by
        rcases hd : j - n with _ | _ | k
        · rw [hd] at a; simp at a; rw [← a]; exact h1
        · rw [hd] at a; simp at a; rw [← a]; exact h2
        · rw [hd] at a; simp at a
      have hb : u = nE := by
        rcases hd : j - n with _ | _ | k
        · rw [hd] at b; simp at b; exact b.symm
        · rw [hd] at b; simp at b; exact b.symm
        · rw [hd] at b; simp at b
      rw [ha, hb]
      exact LsAt.nil_ _ _
  · rw [elFp_n2]
    exact h.own.fr hg.fr hkl
  · rw [elFp_n2] at hg2
    rcases hg.own g hgA with h5 | h5
    · exact h.apart g h5 hg2
    · have := h.own.lt hg2; omega
/-- append(row, t1, t2), both without lists. -/
theorem step_val2 {ops : Array Oper} {d : Option Tmp} {ty : TypeId} {pos : String} {af : Array Edge} {s x : Tmp} {a : Act} {K : Act → World → Prop} {Q : Exit → Act → World → Prop} {E : Prop} {w : World}
    {lo : Nat} {A : Option Addr} {n c : Nat} {l : List Tr} {es : List El} {t1 t2 : Tr} (h : RV w lo A n c l es) (hs : a.tmps[s]?.getD undef = .slice A n c)
    {gx : Nat} (hgx : w.heap.size = gx) (hx : a.tmps[x]?.getD undef = .slice (some ⟨gx, 0, none⟩) 2 2) (h1 : t1.l = []) (h2 : t2.l = []) (hn : n + 2 ≤ 1099511627776) (hbase : lo ≤ w.heap.size)
    (hK : ∀ A' c' w', RV w' lo A' (n + 2) c' (l ++ [t1, t2]) (es ++ [nE, nE]) → Below lo w w' → K (a.put d (.slice A' (n + 2) c')) w') :
    if Region.wanted { dst := d, op := .call { callee := .builtin .append, args := #[.tmp s, .tmp x], argTypes := #[24, 24] }, type := ty, pos := pos, after := af, guard := none } (yielded ops a.tmps) = true then Oper.wp Tryz.prog { dst := d, op := .call { callee := .builtin .append, args := #[.tmp s, .tmp x], argTypes := #[24, 24] }, type := ty, pos := pos, after := af, guard := none } a (w.alloc (.cells #[.int .i64 t1.k, .int .i64 t1.n, .int .i64 t1.x, .string t1.s, .slice none 0 0, .int .i64 t2.k, .int .i64 t2.n, .int .i64 t2.x, .string t2.s, .slice none 0 0] 26)) K Q else E := by
  subst hgx
  have hb1 := Below.one w (.cells #[.int .i64 t1.k, .int .i64 t1.n, .int .i64 t1.x, .string t1.s, .slice none 0 0, .int .i64 t2.k, .int .i64 t2.n, .int .i64 t2.x, .string t2.s, .slice none 0 0] 26)
  have h3 := h.below hb1
  have hz := hb1.size
  refine step_appr (cs := cellsOf l es) (news := cellsX [(t1, nE), (t2, nE)]) hs hx h3.row (sl_lit (a := (t1, nE)) (b := (t2, nE)) (Blk.new w 26 _)) (cellsX_one _) hn (by omega) ?_
  intro A' c' w' h6 hg
  exact hK A' c' w' (h3.app2 h1 h2 h6 hg) ((hb1.mono hbase).trans (hg.fr.below (fun g hg2 => (row_lt h3.row hg2).1) (Nat.le_trans hbase hz)))
/-- A name: a number or a text. -/
def NameOk (u : Tr) : Prop := LeafOk u ∧ (u.k = 3 ∨ u.k = 7)
/-- A map of names as it is drawn: or a list, or a name too many. -/
def NmT (t : Tr) : Prop := t.n = 0 ∧ t.x = 0 ∧ t.s = ⟨#[]⟩ ∧ (t.k = 10 ∨ t.k = 9) ∧ t.l.length ≤ 9 ∧ ∀ u ∈ t.l, NameOk u
theorem NameOk.int {n : Int} (h : 0 ≤ n ∧ n ≤ 100) : NameOk (leafTr 3 n 0 ⟨#[]⟩) := ⟨leafOk_ (by omega) (by decide) (by decide) (by decide), .inl rfl⟩
/-- A literal of one tree without a list. -/
theorem step_build1 {ops : Array Oper} {d : Option Tmp} {ty : TypeId} {pos : String} {af : Array Edge} {x : Tmp} {a : Act} {K : Act → World → Prop} {Q : Exit → Act → World → Prop} {E : Prop} {w : World} {t : Tr} {e : El}
    (hx : a.tmps[x]?.getD undef = .agg #[.int .i64 t.k, .int .i64 t.n, .int .i64 t.x, .string t.s, .slice e.A e.n e.c])
    (hK : K (a.put d (.slice (some ⟨w.heap.size, 0, none⟩) 1 1)) (w.alloc (.cells #[.int .i64 t.k, .int .i64 t.n, .int .i64 t.x, .string t.s, .slice e.A e.n e.c] 26))) :
    if Region.wanted { dst := d, op := .buildSlice 24 1 #[(0, .tmp x)], type := ty, pos := pos, after := af, guard := none } (yielded ops a.tmps) = true then Oper.wp Tryz.prog { dst := d, op := .buildSlice 24 1 #[(0, .tmp x)], type := ty, pos := pos, after := af, guard := none } a w K Q else E := by
  rw [if_pos (by simp [Region.wanted])]
  go_simp
  exact hK
/-- append(row, t), t without a list, inside a region walked by hand. -/
theorem step_val1 {ops : Array Oper} {d : Option Tmp} {ty : TypeId} {pos : String} {af : Array Edge} {s x : Tmp} {a : Act} {K : Act → World → Prop} {Q : Exit → Act → World → Prop} {E : Prop} {w : World}
    {lo : Nat} {A : Option Addr} {n c : Nat} {l : List Tr} {es : List El} {t : Tr} (h : RV w lo A n c l es) (hs : a.tmps[s]?.getD undef = .slice A n c)
    {gx : Nat} (hgx : w.heap.size = gx) (hx : a.tmps[x]?.getD undef = .slice (some ⟨gx, 0, none⟩) 1 1) (h1 : t.l = []) (hn : n + 1 ≤ 1099511627776) (hbase : lo ≤ w.heap.size)
    (hK : ∀ A' c' w', RV w' lo A' (n + 1) c' (l ++ [t]) (es ++ [nE]) → Below lo w w' → K (a.put d (.slice A' (n + 1) c')) w') :
    if Region.wanted { dst := d, op := .call { callee := .builtin .append, args := #[.tmp s, .tmp x], argTypes := #[24, 24] }, type := ty, pos := pos, after := af, guard := none } (yielded ops a.tmps) = true then Oper.wp Tryz.prog { dst := d, op := .call { callee := .builtin .append, args := #[.tmp s, .tmp x], argTypes := #[24, 24] }, type := ty, pos := pos, after := af, guard := none } a (w.alloc (.cells #[.int .i64 t.k, .int .i64 t.n, .int .i64 t.x, .string t.s, .slice none 0 0] 26)) K Q else E :=
  step_val (t := t) (u := nE) rfl (.tmp s) (.tmp x) rfl h (by simpa [Act.eval] using hs) hgx (by simpa [Act.eval] using hx) (by rw [h1]; exact LsAt.nil_ _ _) (Own.nil_ _ _) (by simp [nE]) hn hbase fun A' c' w' h6 hb6 _ => hK A' c' w' h6 hb6
set_option maxHeartbeats 4000000 in
theorem s_l6NameK (B g n c : Nat) (A : Option Addr) (b : List UInt8) (w : World) (h : Cur w B g A n c b) :
    Calls Tryz.prog 33 #[.pointer (some ⟨g, 0, none⟩)] w fun r w' => ∃ u : Tr, r = .returned (trV u ⟨none, 0, 0, []⟩) ∧ NameOk u ∧ Cur w' B g A n c b ∧ Fr [g] w w' := by
  have hgl := h.lt
  have hgn : w.heap.size ≠ g := by omega
  have hC0 := h.below (Below.one w (.cells #[.int .i64 0, .int .i64 0, .int .i64 0, .string ⟨#[]⟩, .slice none 0 0] 26))
  have hF0 : Fr [g] w (w.alloc (.cells #[.int .i64 0, .int .i64 0, .int .i64 0, .string ⟨#[]⟩, .slice none 0 0] 26)) := Fr.of_below (Below.one _ _)
  have hB0 := Blk.new w 26 #[.int .i64 0, .int .i64 0, .int .i64 0, .string ⟨#[]⟩, .slice none 0 0]
  go_enter Tryz.func33, Tryz.ntmps33
  go_upto_region 1 with fail
  generalize (w.alloc (.cells #[.int .i64 0, .int .i64 0, .int .i64 0, .string ⟨#[]⟩, .slice none 0 0] 26)) = w0 at hC0 hF0 hB0 ⊢
  go_wp2_with fail
  refine (s_l1Once B g n c A b 6 _ hC0 (by decide)).mono ?_; rintro r w1 ⟨x1, rfl, hC1, hf1⟩
  have hB1 := hB0.fr_' hf1 (by simpa using hgn)
  have hF1 := hF0.trans hf1
  cases x1 with
  | true =>
    go_wp2_with fail
    refine (s_l1Below B g n c A b 4 _ hC1 (by decide)).mono ?_; rintro r w2 ⟨z2, rfl, hz2, hC2, hf2⟩
    obtain ⟨y2, v2⟩ := hz2.2 (by decide)
    clear hz2
    have hB2 := hB1.fr_' hf2 (by simpa using hgn)
    have hF2 := hF1.trans hf2
    go_wp2_with fail
    refine (s_IntVal z2 _).mono ?_; rintro r w3 ⟨rfl, hb3⟩
    have hB3 := hB2.below hb3 hB2.lt
    have hC3 := hC2.below hb3
    have hF3 := hF2.onBelow (hb3.mono hF2.size)
    have hu : NameOk (leafTr 3 z2 0 ⟨#[]⟩) := ⟨leafOk_ (k := 3) (n := z2) (s := ⟨#[]⟩) (by omega) (x := 0) (by decide) (by decide) (by decide), .inl rfl⟩
    generalize leafTr 3 z2 0 ⟨#[]⟩ = u at hu ⊢
    obtain ⟨x0, x1, x2, x3, x4, ⟨s0, t0⟩, ⟨s1, t1⟩, ⟨s2, t2⟩, ⟨s3, t3⟩, s4, t4⟩ := hB3.five (o := 0) (by simp) (.int .i64 u.k) (.int .i64 u.n) (.int .i64 u.x) (.string u.s)
    have hE := leaf_put hB3 hC3 hF3 (Nat.le_refl _) hgl u ⟨none, 0, 0, []⟩
    go_wp2_with fail
    exact bodyPost_ret (results_blk Tryz.results33 Tryz.isAgg26 (by exact Tryz.sizeOf26) rfl hE.1) rfl ⟨u, rfl, hu, hE.2.1, hE.2.2⟩
  | false =>
    go_wp2_with fail
    refine (s_l1Str _ _ n c A b (some ⟨w1.heap.size, 0, none⟩) 6 6 [⟨#[97]⟩, ⟨#[98]⟩, ⟨#[99]⟩, ⟨#[]⟩, ⟨#[107, 101, 121]⟩, ⟨#[195, 169]⟩] _ (hC1.below (Below.one _ _)) (by exact strs_lit _ 0 [⟨#[97]⟩, ⟨#[98]⟩, ⟨#[99]⟩, ⟨#[]⟩, ⟨#[107, 101, 121]⟩, ⟨#[195, 169]⟩] _ rfl (by exact Nat.le_of_ble_eq_true rfl)) (lit_ne hC1.lt) (by decide)).mono ?_; rintro r w2 ⟨st, rfl, hst, hC2, hf2⟩
    have hsd : st.size ≤ 1000 := by
      simp only [List.mem_cons, List.mem_nil_iff, or_false] at hst
      rcases hst with rfl | rfl | rfl | rfl | rfl | rfl <;> decide
    have hB2 := (hB1.alloc (.cells #[.string ⟨#[97]⟩, .string ⟨#[98]⟩, .string ⟨#[99]⟩, .string ⟨#[]⟩, .string ⟨#[107, 101, 121]⟩, .string ⟨#[195, 169]⟩] 9)).fr_' hf2 (by simpa using hgn)
    have hF2 := (hF1.trans (Fr.of_below (Below.one w1 (.cells #[.string ⟨#[97]⟩, .string ⟨#[98]⟩, .string ⟨#[99]⟩, .string ⟨#[]⟩, .string ⟨#[107, 101, 121]⟩, .string ⟨#[195, 169]⟩] 9)))).trans hf2
    go_wp2_with fail
    refine (s_TextVal st _).mono ?_; rintro r w3 ⟨rfl, hb3⟩
    have hB3 := hB2.below hb3 hB2.lt
    have hC3 := hC2.below hb3
    have hF3 := hF2.onBelow (hb3.mono hF2.size)
    have hu : NameOk (leafTr 7 0 0 st) := ⟨leafOk_ (k := 7) (n := 0) (x := 0) (s := st) (by decide) (by decide) hsd (by decide), .inr rfl⟩
    generalize leafTr 7 0 0 st = u at hu ⊢
    obtain ⟨x0, x1, x2, x3, x4, ⟨s0, t0⟩, ⟨s1, t1⟩, ⟨s2, t2⟩, ⟨s3, t3⟩, s4, t4⟩ := hB3.five (o := 0) (by simp) (.int .i64 u.k) (.int .i64 u.n) (.int .i64 u.x) (.string u.s)
    have hE := leaf_put hB3 hC3 hF3 (Nat.le_refl _) hgl u ⟨none, 0, 0, []⟩
    go_wp2_with fail
    exact bodyPost_ret (results_blk Tryz.results33 Tryz.isAgg26 (by exact Tryz.sizeOf26) rfl hE.1) rfl ⟨u, rfl, hu, hE.2.1, hE.2.2⟩
end Go.Proofs.YtmnlkedacnemcaaGreatDoor
