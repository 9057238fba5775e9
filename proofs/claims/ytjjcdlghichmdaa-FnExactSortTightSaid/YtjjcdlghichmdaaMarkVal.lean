/- The laws' marks on trees: markVal, heldVal. -/
import Derived.Test.YtjjcdlghichmdaaMarkText
import Derived.Test.YtjjcdlghichmdaaTreeSet
import Derived.Test.YtjjcdlghichmdaaVal
import Derived.Deep.RegionHeld3
set_option linter.unusedVariables false
set_option maxRecDepth 100000
set_option linter.unusedSimpArgs false
namespace Go.Proofs.Ytjjcdlghichmdaa
open Go.RowKit

def cntGo : List (Nat × (Nat → List Tr)) → Nat
  | [] => 0
  | (c, _) :: r => 4 + c + cntGo r
def mkGo : List (Nat × (Nat → List Tr)) → Nat → List Tr
  | [], _ => []
  | (c, f) :: r, k => ⟨k, k + 1, k + 2, mkT (k + 3), f (k + 4)⟩ :: mkGo r (k + 4 + c)
noncomputable def Tr.mk_ : Tr → Nat × (Nat → List Tr) := Tr.fold fun _ _ _ _ _ ih => (cntGo ih, mkGo ih)
/-- How many marks a list of trees takes. -/
noncomputable def cntL (l : List Tr) : Nat := cntGo (l.map Tr.mk_)
/-- The list that the marks from k on leave. -/
noncomputable def mkL (l : List Tr) (k : Nat) : List Tr := mkGo (l.map Tr.mk_) k
theorem Tr.mk_eq (t : Tr) : t.mk_ = (cntL t.l, mkL t.l) := by
  obtain ⟨k, n, x, s, l⟩ := t
  exact Tr.fold_mk _ _ _ _ _ _
/-- The marks of the first j trees. -/
noncomputable def cntT (l : List Tr) (j : Nat) : Nat := cntL (l.take j)
theorem cntGo_app (a b : List (Nat × (Nat → List Tr))) : cntGo (a ++ b) = cntGo a + cntGo b := by
  induction a with
  | nil => simp [cntGo]
  | cons x a ih => obtain ⟨c, f⟩ := x; simp only [List.cons_append, cntGo, ih]; omega
theorem cntT_zero (l : List Tr) : cntT l 0 = 0 := rfl
theorem cntT_succ {l : List Tr} {j : Nat} (h : j < l.length) : cntT l (j + 1) = cntT l j + 4 + cntL l[j].l := by
  unfold cntT
  rw [List.take_succ_eq_append_getElem h]
  unfold cntL
  rw [List.map_append, cntGo_app, List.map_singleton, Tr.mk_eq]
  simp only [cntGo, cntL]
  omega
theorem cntT_all {l : List Tr} {j : Nat} (h : l.length ≤ j) : cntT l j = cntL l := by unfold cntT; rw [List.take_of_length_le h]
theorem cntT_le (l : List Tr) (j : Nat) : cntT l j ≤ cntL l := by
  unfold cntT
  conv => rhs; rw [← List.take_append_drop j l]
  unfold cntL
  rw [List.map_append, cntGo_app]; omega
theorem mkL_len (l : List Tr) (k : Nat) : (mkL l k).length = l.length := by
  unfold mkL
  induction l generalizing k with
  | nil => rfl
  | cons t l ih => rw [List.map_cons, Tr.mk_eq]; simp only [mkGo, List.length_cons, ih]
theorem mkL_get {l : List Tr} {j : Nat} (k : Nat) (h : j < l.length) : (mkL l k)[j]'(by rw [mkL_len]; exact h) = ⟨(k + cntT l j : Nat), (k + cntT l j : Nat) + 1, (k + cntT l j : Nat) + 2, mkT (k + cntT l j + 3), mkL l[j].l (k + cntT l j + 4)⟩ := by
  induction l generalizing k j with
  | nil => cases h
  | cons t l ih =>
    cases j with
    | zero => simp [mkL, Tr.mk_eq, mkGo, cntT_zero]
    | succ j =>
      have h2 : j < l.length := by simpa using h
      have e : (mkL (t :: l) k)[j + 1]'(by rw [mkL_len]; exact h) = (mkL l (k + 4 + cntL t.l))[j]'(by rw [mkL_len]; exact h2) := by
        simp [mkL, Tr.mk_eq, mkGo]
      have e2 : cntT (t :: l) (j + 1) = 4 + cntL t.l + cntT l j := by
        unfold cntT
        rw [List.take_succ_cons]
        simp only [cntL, List.map_cons, cntGo]
        rw [Tr.mk_eq]
        simp only [cntL]
      rw [e, ih _ h2, e2]
      have e3 : k + (4 + cntL t.l + cntT l j) = k + 4 + cntL t.l + cntT l j := by omega
      rw [e3]
      simp
/-- The list when the first j trees bear marks. -/
noncomputable def mkP (l : List Tr) (k j : Nat) : List Tr := (mkL l k).take j ++ l.drop j
theorem mkP_zero (l : List Tr) (k : Nat) : mkP l k 0 = l := by simp [mkP]
theorem mkP_all {l : List Tr} {k j : Nat} (h : l.length ≤ j) : mkP l k j = mkL l k := by
  unfold mkP
  rw [List.take_of_length_le (by rw [mkL_len]; exact h), List.drop_eq_nil_of_le h, List.append_nil]
theorem mkP_get {l : List Tr} {k j : Nat} (h : j < l.length) : (mkP l k j)[j]? = some l[j] := by
  unfold mkP
  rw [List.getElem?_append_right (by simp [mkL_len]; omega), List.length_take, mkL_len, Nat.min_eq_left (by omega), Nat.sub_self, List.getElem?_drop, Nat.add_zero]
  exact List.getElem?_eq_getElem h
theorem mkP_succ {l : List Tr} {k j : Nat} (h : j < l.length) : (mkP l k j).set j ⟨(k + cntT l j : Nat), (k + cntT l j : Nat) + 1, (k + cntT l j : Nat) + 2, mkT (k + cntT l j + 3), mkL l[j].l (k + cntT l j + 4)⟩ = mkP l k (j + 1) := by
  rw [← mkL_get k h]
  exact set_take_step l (mkL l k) j (mkL_len l k) h (by rw [mkL_len]; exact h)
theorem mkP_len (l : List Tr) (k j : Nat) : (mkP l k j).length = l.length := by
  unfold mkP; rw [List.length_append, List.length_take, mkL_len, List.length_drop]; omega
theorem Blk.size_of {w : World} {g i : Nat} {T : TypeId} {cs : Array Value} {x : Value} (h : Blk w g T cs) (hc : w.cell? ⟨g, i, none⟩ = some x) : i < cs.size := by
  rw [h.cell] at hc
  exact (Array.getElem?_eq_some_iff.1 hc).1
def MkSays (t : Tr) : Prop := ∀ (e : El) (k lo : Nat) (w : World), LsAt w t.l e → Own w lo e.fp → 1 ≤ k → k + cntL t.l ≤ 1152921504606846976 →
  Calls Try.prog 19 #[.slice e.A e.n e.c, .int .i64 k] w fun r w' => r = .returned (.int .i64 (k + cntL t.l : Nat)) ∧ LsAt w' (mkL t.l k) e ∧ Own w' lo e.fp ∧ Fr e.fp w w'
/-- One tree's marks are set. -/
theorem mark_step {w w3 w4 w6 : World} {l : List Tr} {e : El} {g o j k lo : Nat} {es : List El} {u : El} (h : LsV w (mkP l k j) e g o es) (hown : Own w lo e.fp) (hj : j < l.length) (hu : es[j]? = some u) (h3 : w3 = ((w.setCell ⟨g, o + j * 5, none⟩ (.int .i64 (k + cntT l j : Nat))).setCell ⟨g, o + j * 5 + 1, none⟩ (.int .i64 ((k + cntT l j : Nat) + 1))).setCell ⟨g, o + j * 5 + 2, none⟩ (.int .i64 ((k + cntT l j : Nat) + 2)))
    (h4 : Below w3.heap.size w3 w4) (h6 : LsAt w6 (mkL l[j].l (k + cntT l j + 4)) u) (hf : Fr u.fp (w4.setCell ⟨g, o + j * 5 + 3, none⟩ (.string (mkT (k + cntT l j + 3)))) w6) (ho6 : Own w6 lo u.fp) :
    LsAt w6 (mkP l k (j + 1)) e ∧ Own w6 lo e.fp ∧ Fr e.fp w w6 := by
  have hn : 0 < e.n := by have := h.len; rw [mkP_len] at this; omega
  have hlt : ∀ x ∈ e.fp, x < w.heap.size := fun x hx => hown.lt hx
  have hg : g ∈ e.fp := by rw [h.fp]; exact List.mem_cons_self
  obtain ⟨a1, a2, a3⟩ := h.apart hown.1
  have hz3 : w3.heap.size = w.heap.size := by rw [h3]; simp only [size_setCell]
  have hf3 : Fr [g] w w3 := by
    rw [h3]
    exact (((Fr.refl [g] w).setCell (p := ⟨g, _, none⟩) (by simp) _).setCell (p := ⟨g, _, none⟩) (by simp) _).setCell (p := ⟨g, _, none⟩) (by simp) _
  have hf5 : Fr [g] w (w4.setCell ⟨g, o + j * 5 + 3, none⟩ (.string (mkT (k + cntT l j + 3)))) := (hf3.trans (Fr.of_below h4)).setCell (p := ⟨g, _, none⟩) (by simp) _
  obtain ⟨hgl, T, cs, hB⟩ := hown.2 g hg
  obtain ⟨c0, c1, c2, c3, c4⟩ := h.cells j _ u (mkP_get hj) hu
  have hs := hB.size_of c4
  have hB3 : ∃ cs3 : Array Value, cs3 = ((cs.setIfInBounds (o + j * 5) (.int .i64 (k + cntT l j : Nat))).setIfInBounds (o + j * 5 + 1) (.int .i64 ((k + cntT l j : Nat) + 1))).setIfInBounds (o + j * 5 + 2) (.int .i64 ((k + cntT l j : Nat) + 2)) ∧ Blk w3 g T cs3 := ⟨_, rfl, by rw [h3]; exact ((hB.set_ _ _).set_ _ _).set_ _ _⟩
  obtain ⟨cs3, hcs3, hB3⟩ := hB3
  have hB5 := (hB3.below h4 hB3.lt).set_ (o + j * 5 + 3) (.string (mkT (k + cntT l j + 3)))
  have hgu := (a2 j u hu).1
  have hB6 := (hf.block g (by rw [size_setCell]; have := h4.size; have := hB.lt; omega) hgu).trans hB5
  have hB6 : Blk w6 g T (cs3.setIfInBounds (o + j * 5 + 3) (.string (mkT (k + cntT l j + 3)))) := hB6
  have hsub : ∀ x ∈ u.fp, x ∈ e.fp := fun x hx => by rw [h.fp]; exact List.mem_cons_of_mem _ (elFp_mem hu hx)
  have hfr : Fr e.fp w w6 := (hf5.mono (fun x hx => by rw [List.mem_singleton] at hx; subst hx; exact hg)).trans (hf.mono hsub)
  have hput := h.put (w' := w6) (j := j) (by have := h.len; rw [mkP_len] at this; omega) (t' := ⟨(k + cntT l j : Nat), (k + cntT l j : Nat) + 1, (k + cntT l j : Nat) + 2, mkT (k + cntT l j + 3), mkL l[j].l (k + cntT l j + 4)⟩) (u' := u)
    ⟨by rw [hB6.cell, hcs3]; simp [Array.getElem?_setIfInBounds]; omega, by rw [hB6.cell, hcs3]; simp [Array.getElem?_setIfInBounds]; omega, by rw [hB6.cell, hcs3]; simp [Array.getElem?_setIfInBounds]; omega, by rw [hB6.cell, hcs3]; simp [Array.getElem?_setIfInBounds]; omega, by
      rw [hB6.cell, hcs3]; simp [Array.getElem?_setIfInBounds]; rw [← hB.cell]; exact c4⟩ h6
    (fun o2 ho2 => by
      rw [hB6.cell, hcs3, hB.cell]
      rw [Array.getElem?_setIfInBounds_ne (by omega), Array.getElem?_setIfInBounds_ne (by omega), Array.getElem?_setIfInBounds_ne (by omega), Array.getElem?_setIfInBounds_ne (by omega)])
    (fun i v hi hv g2 hg2 o2 => by
      have hgv := (a2 i v hv).1
      have hne : g2 ≠ g := fun e => hgv (e ▸ hg2)
      have hnu : g2 ∉ u.fp := a3 i j v u hi hv hu g2 hg2
      have hl2 : g2 < w.heap.size := hlt g2 (by rw [h.fp]; exact List.mem_cons_of_mem _ (elFp_mem hv hg2))
      refine World.cell?_of_block (w := w) (w' := w6) (a := ⟨g2, o2, none⟩) ?_
      exact (hf.block g2 (Nat.lt_of_lt_of_le hl2 hf5.size) hnu).trans (hf5.block g2 hl2 (by simpa using hne)))
  rw [mkP_succ hj] at hput
  have he : es.set j u = es := by
    refine List.ext_getElem? fun i => ?_
    rw [List.getElem?_set]
    split
    · rename_i e; subst e; rw [hu]; split
      · rfl
      · rename_i e2; exact absurd (List.getElem?_eq_some_iff.1 hu).1 e2
    · rfl
  rw [he, ← h.fp] at hput
  refine ⟨hput.close hn, ⟨hown.1, fun x hx => ?_⟩, hfr⟩
  by_cases hxu : x ∈ u.fp
  · exact ho6.2 x hxu
  · by_cases hxg : x = g
    · subst hxg
      exact ⟨hgl, T, _, hB6⟩
    · obtain ⟨b1, T2, cs2, b2⟩ := hown.2 x hx
      exact ⟨b1, T2, cs2, ((hf.block x (Nat.lt_of_lt_of_le b2.lt hf5.size) hxu).trans (hf5.block x b2.lt (by simpa using hxg))).trans b2⟩
set_option maxHeartbeats 1600000 in
theorem l_markValS (t : Tr) : MkSays t := by
  refine Tr.ind (P := MkSays) (fun t ih => ?_) t
  intro e k lo w h hown hk1 hk
  obtain ⟨_, _, _, _, l⟩ := t
  simp only at ih h hk ⊢
  obtain ⟨A, n, c, fp⟩ := e
  have hn : l.length = n := h.len
  have hc : n ≤ 9223372036854775807 := by have := ((lsAt_iff _ _).1 h).2.1; have := ((lsAt_iff _ _).1 h).2.2.1; unfold maxLen at *; simp at *; omega
  go_enter Try.func19, Try.ntmps19
  go_wp2_with fail
  go_loopg [1, 5] n (fun f x i wr => ∃ j : Nat, j + f = n ∧ x = .int .i64 (k + cntT l j : Nat) ∧ i = .int .i64 j ∧ LsAt wr (mkP l k j) ⟨A, n, c, fp⟩ ∧ Own wr lo fp ∧ Fr fp w wr)
  case atStart => exact ⟨0, by omega, rfl, rfl, by rw [mkP_zero]; exact h, hown, Fr.refl _ _⟩
  case round =>
    obtain ⟨j, hjf, rfl, rfl, hls, how, hfr⟩ := hrel
    by_cases hlt : j < n
    · obtain ⟨f, rfl⟩ : ∃ f, gk = f + 1 := ⟨gk - 1, by omega⟩
      obtain ⟨g, o, es, hV⟩ := hls.open_ (by simp; omega)
      have hA : A = some ⟨g, o, none⟩ := hV.adr
      subst hA
      have hl : j < l.length := by omega
      obtain ⟨u, hu⟩ : ∃ u, es[j]? = some u := ⟨_, List.getElem?_eq_getElem (by have := hV.eslen; simp at this; omega)⟩
      obtain ⟨-, T, cs, hB⟩ := how.2 g (by have := hV.fp; simp at this; rw [this]; exact List.mem_cons_self)
      obtain ⟨c0, c1, c2, c3, c4⟩ := hV.cells j _ u (mkP_get hl) hu
      have hs := hB.size_of c4
      have hkid := hV.kids j _ u (mkP_get hl) hu
      have hap := hV.apart how.1
      have hgu := (hap.2.1 j u hu).1
      have hsub : ∀ x ∈ u.fp, x ∈ fp := fun x hx => by have := hV.fp; simp at this; rw [this]; exact List.mem_cons_of_mem _ (elFp_mem hu hx)
      have hou := how.sub (hap.2.1 j u hu).2 hsub
      have hst := fun w3 w4 w6 h3 h4 h6 hf ho6 => mark_step (w3 := w3) (w4 := w4) (w6 := w6) hV how hl hu h3 h4 h6 hf ho6
      have hih := ih l[j] (List.getElem_mem hl)
      have hq1 := cntT_succ hl
      have hq2 := cntT_le l (j + 1)
      obtain ⟨q, hq⟩ : ∃ q : Nat, k + cntT l j = q := ⟨_, rfl⟩
      have hq3 : (k : Int) + cntT l j = q := by omega
      rw [hq] at hst ⊢
      have hz := hB.lt
      obtain ⟨x0, x1, x2, x3, x4, ⟨p0, q0⟩, ⟨p1, q1⟩, ⟨p2, q2⟩, -⟩ := hB.five (o := o + j * 5) (by omega) (.int .i64 q) (.int .i64 (q + 1)) (.int .i64 (q + 2)) (.string ByteArray.empty)
      have hB3 := ((hB.set_ (o + j * 5) (.int .i64 q)).set_ (o + j * 5 + 1) (.int .i64 (q + 1))).set_ (o + j * 5 + 2) (.int .i64 (q + 2))
      clear ih hown h hV how hap hls c0 c1 c2 c3
      go_wp2_with fail
      rw [show (q : Int) + 1 + 1 + 1 = ((q + 3 : Nat) : Int) by omega, show (q : Int) + 1 + 1 = q + 2 by omega]
      refine (l_markText (q + 3) _ (by omega) (by omega)).mono ?_; rintro r w4 ⟨rfl, hb4⟩
      have hB4 := hB3.below hb4 hB3.lt
      obtain ⟨y3, p3⟩ : ∃ y3, w4.cell? ⟨g, o + j * 5 + 3, none⟩ = some y3 := ⟨_, (hB4.cell _).trans (Array.getElem?_eq_getElem (by simp; omega))⟩
      have q3 := hB4.frozen (o + j * 5 + 3)
      have p4 : (w4.setCell ⟨g, o + j * 5 + 3, none⟩ (.string (mkT (q + 3)))).cell? ⟨g, o + j * 5 + 4, none⟩ = some (.slice u.A u.n u.c) := by
        rw [(hB4.set_ _ _).cell, ← c4, hB.cell]
        rw [Array.getElem?_setIfInBounds_ne (by omega), Array.getElem?_setIfInBounds_ne (by omega), Array.getElem?_setIfInBounds_ne (by omega), Array.getElem?_setIfInBounds_ne (by omega)]
      have hf5 : Fr [g] wr (w4.setCell ⟨g, o + j * 5 + 3, none⟩ (.string (mkT (q + 3)))) :=
        ((((Fr.refl [g] wr).setCell (p := ⟨g, _, none⟩) (by simp) _).setCell (p := ⟨g, _, none⟩) (by simp) _).setCell (p := ⟨g, _, none⟩) (by simp) _ |>.trans (Fr.of_below hb4)).setCell (p := ⟨g, _, none⟩) (by simp) _
      have hgd : ∀ x ∈ u.fp, x ∉ [g] := fun x hx hx2 => by rw [List.mem_singleton] at hx2; exact hgu (hx2 ▸ hx)
      have hl5 := hkid.fr hf5 (fun x hx => hou.lt hx) hgd
      have ho5 := hou.fr hf5 hgd
      have hst2 := fun w6 => hst _ w4 w6 rfl hb4
      clear hst p0 q0 p1 q1 p2 q2 hb4 hB4 hB3 hB hf5 hkid hou c4
      go_wp2_with fail
      rw [show (q : Int) + 3 + 1 = ((q + 4 : Nat) : Int) by omega]
      refine (hih u (q + 4) lo _ hl5 ho5 (by omega) (by omega)).mono ?_; rintro r w6 ⟨rfl, hl6, ho6, hf6⟩
      obtain ⟨r1, r2, r3⟩ := hst2 w6 hl6 hf6 ho6
      clear hst2 p3 q3 p4 hl5 ho5 hl6 ho6 hf6
      go_wp2_with fail
      go_roundg f
      case measure => omega
      case rel => exact ⟨j + 1, by omega, by go_num, by go_num, r1, r2, hfr.trans r3⟩
    · have hj : j = n := by omega
      subst hj
      go_wp2_with fail
      go_ret
      rw [mkP_all (by omega)] at hls
      exact ⟨ret_int (by rw [cntT_all (by omega)]), hls, how, hfr⟩
theorem l_markVal (t : Tr) (e : El) (k lo : Nat) (w : World) (h : LsAt w t.l e) (hown : Own w lo e.fp) (hk1 : 1 ≤ k) (hk : k + cntL t.l ≤ 1152921504606846976) :
    Calls Try.prog 9 #[trV t e, .int .i64 k] w fun r w' => r = .returned (.int .i64 (k + cntL t.l : Nat)) ∧ LsAt w' (mkL t.l k) e ∧ Own w' lo e.fp ∧ Fr e.fp w w' := by
  have hb := fun o => Below.one w o
  have hM := fun o => l_markValS t e k lo (w.alloc o) (h.below (fun x hx => hown.lt hx) (hb o)) (hown.below (fun x hx => hown.lt hx) (hb o)) hk1 hk
  go_enter Try.func9, Try.ntmps9
  go_wp2_with (go_at_call 19; refine (hM _).mono ?_; rintro r w1 ⟨rfl, h1, h2, h3⟩)
  go_ret
  exact ⟨rfl, h1, h2, (Fr.of_below (hb _)).trans h3⟩
theorem cntGo_le (l : List Tr) (h : ∀ u ∈ l, cntL u.l ≤ 4 * u.sz) : cntL l ≤ 4 * szL l := by
  unfold szL cntL
  induction l with
  | nil => simp [cntGo]
  | cons t l ih =>
    have h1 := h t List.mem_cons_self
    have h2 := ih fun u hu => h u (List.mem_cons_of_mem _ hu)
    rw [List.map_cons, Tr.mk_eq]
    simp only [cntGo, List.length_cons, List.map_cons, List.sum_cons]
    omega
theorem cntT_sz (t : Tr) : cntL t.l ≤ 4 * t.sz := by
  refine Tr.ind (P := fun t => cntL t.l ≤ 4 * t.sz) (fun t ih => ?_) t
  rw [t.sz_eq]
  have := cntGo_le t.l ih
  omega
/-- The cells of a boxed tree. -/
abbrev BoxV (w' : World) (g : Nat) (t : Tr) (e : El) : Prop :=
  w'.cell? ⟨g, 0, none⟩ = some (.int .i64 t.k) ∧ w'.cell? ⟨g, 1, none⟩ = some (.int .i64 t.n) ∧ w'.cell? ⟨g, 2, none⟩ = some (.int .i64 t.x) ∧ w'.cell? ⟨g, 3, none⟩ = some (.string t.s) ∧ w'.cell? ⟨g, 4, none⟩ = some (.slice e.A e.n e.c)
abbrev valCells (t : Tr) (e : El) : Array Value := #[.int .i64 t.k, .int .i64 t.n, .int .i64 t.x, .string t.s, .slice e.A e.n e.c]
theorem Blk.boxV {w : World} {g : Nat} {T : TypeId} {t : Tr} {e : El} (h : Blk w g T (valCells t e)) : BoxV w g t e := ⟨h.cell 0, h.cell 1, h.cell 2, h.cell 3, h.cell 4⟩
abbrev Box1 (w0 : World) (p : Addr) (a : Value) (w' : World) : Prop := w'.cell? p = some a ∧ Below w0.heap.size w0 w'
/-- What mkT makes is compared by its text. -/
def HdSays (t : Tr) : Prop := ∀ (e : El) (k : Nat) (w : World), LsAt w (mkL t.l k) e → e.lt w.heap.size → 1 ≤ k → k + cntL t.l ≤ 1152921504606846976 →
  Calls Try.prog 20 #[.slice e.A e.n e.c, .int .i64 k] w fun r w' => r = .returned (.int .i64 (k + cntL t.l : Nat)) ∧ Below w.heap.size w w'
set_option maxHeartbeats 1600000 in
theorem l_heldValS (t : Tr) : HdSays t := by
  refine Tr.ind (P := HdSays) (fun t ih => ?_) t
  intro e k w h hlt0 hk1 hk
  obtain ⟨_, _, _, _, l⟩ := t
  simp only at ih h hk ⊢
  obtain ⟨A, n, c, fp⟩ := e
  have hn : l.length = n := by have := h.len; rw [mkL_len] at this; exact this
  have hc : n ≤ 9223372036854775807 := by have := ((lsAt_iff _ _).1 h).2.1; have := ((lsAt_iff _ _).1 h).2.2.1; unfold maxLen at *; simp at *; omega
  go_enter Try.func20, Try.ntmps20
  go_wp2_with fail
  go_loopg [1, 5] n (fun f x i wr => ∃ j : Nat, j + f = n ∧ x = .int .i64 (k + cntT l j : Nat) ∧ i = .int .i64 j ∧ Below w.heap.size w wr)
  case atStart => exact ⟨0, by omega, rfl, rfl, Below.refl _ _⟩
  case round =>
    obtain ⟨j, hjf, rfl, rfl, hb⟩ := hrel
    by_cases hlt : j < n
    · obtain ⟨f, rfl⟩ : ∃ f, gk = f + 1 := ⟨gk - 1, by omega⟩
      obtain ⟨g, o, u, hl', hA, hg, hx, hch, hsub⟩ := (h.below hlt0 hb).elem hlt
      have hA : A = some ⟨g, o, none⟩ := hA
      subst hA
      have hl : j < l.length := by omega
      rw [mkL_get k hl] at hx hch
      have hih := ih l[j] (List.getElem_mem hl)
      have hq1 := cntT_succ hl
      have hq2 := cntT_le l (j + 1)
      obtain ⟨q, hq⟩ : ∃ q : Nat, k + cntT l j = q := ⟨_, rfl⟩
      have hq3 : (k : Int) + cntT l j = q := by omega
      rw [hq] at hx hch ⊢
      simp only at hx hch
      have hgw : g < w.heap.size := hlt0 g hg
      have hul : u.lt w.heap.size := fun x hx => hlt0 x (hsub x hx)
      obtain ⟨c0, c1, c2, c3, c4⟩ := hx
      clear ih h
      have hgr : g < wr.heap.size := Nat.lt_of_lt_of_le hgw hb.size
      have hS0 := fun (w' : World) (hb' : Below wr.heap.size wr w') => (show Box1 wr ⟨g, o + j * 5 + 3, none⟩ (.string (mkT (q + 3))) w' from ⟨(hb'.cell (p := ⟨g, o + j * 5 + 3, none⟩) hgr).trans c3, hb'⟩)
      have hS2 := fun (w' w'' : World) (h' : Box1 wr ⟨g, o + j * 5 + 3, none⟩ (.string (mkT (q + 3))) w') (hb' : Below w'.heap.size w' w'') => hS0 w'' (h'.2.up hb')
      have hT := fun w' => l_markText (q + 3) w' (by omega) (by omega)
      go_wp2_with fail
      rw [show (q : Int) + 1 + 1 + 1 = ((q + 3 : Nat) : Int) by omega, show (q : Int) + 1 + 1 = q + 2 by omega]
      go_region_held3 (fun w' => Box1 wr ⟨g, o + j * 5 + 3, none⟩ (.string (mkT (q + 3))) w')
        (first | exact hS0 _ (Below.refl _ _).drew | (refine hS2 _ _ ?_ hb4; assumption))
        (first | (go_at_call 27; refine (hT _).mono ?_; rintro r w4 ⟨rfl, hb4⟩))
      rename_i hHeld
      have hb5 := hHeld.2
      have p4 := (hb5.cell (p := ⟨g, o + j * 5 + 4, none⟩) hgr).trans c4
      have hl5 := hch.below (hul.mono hb.size) hb5
      have hb6 := hb.up hb5
      have hul5 := hul.mono hb6.size
      clear hHeld hS0 hS2 hT c0 c1 c2 c3 c4 hch hb hb5
      go_wp2_with fail
      rw [show (q : Int) + 3 + 1 = ((q + 4 : Nat) : Int) by omega]
      refine (hih u (q + 4) _ hl5 hul5 (by omega) (by omega)).mono ?_; rintro r w6 ⟨rfl, hb7⟩
      go_wp2_with fail
      go_roundg f
      case measure => omega
      case rel => exact ⟨j + 1, by omega, by go_num, by go_num, hb6.up hb7⟩
    · have hj : j = n := by omega
      subst hj
      go_wp2_with fail
      go_ret
      exact ⟨ret_int (by rw [cntT_all (by omega)]), hb⟩
theorem l_heldVal (t : Tr) (e : El) (k : Nat) (w : World) (h : LsAt w (mkL t.l k) e) (hlt : e.lt w.heap.size) (hk1 : 1 ≤ k) (hk : k + cntL t.l ≤ 1152921504606846976) :
    Calls Try.prog 10 #[trV t e, .int .i64 k] w fun r w' => r = .returned (.int .i64 (k + cntL t.l : Nat)) ∧ Below w.heap.size w w' := by
  have hb := fun o => Below.one w o
  have hM := fun o => l_heldValS t e k (w.alloc o) (h.below hlt (hb o)) (hlt.mono (hb o).size) hk1 hk
  go_enter Try.func10, Try.ntmps10
  go_wp2_with (go_at_call 20; refine (hM _).mono ?_; rintro r w1 ⟨rfl, h1⟩)
  go_ret
  exact ⟨rfl, (hb _).up h1⟩
end Go.Proofs.Ytjjcdlghichmdaa
