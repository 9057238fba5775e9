/- PackPacked: impl and spec. -/
import Derived.Test.YticejlknbfhndaaDoorGr
import Derived.Test.YticejlknbfhndaaDoorPutMark
import Derived.Test.YticejlknbfhndaaDoorMarkFor
import Derived.Deep.LoopGhost
set_option linter.unusedVariables false
set_option maxRecDepth 100000
set_option linter.unusedSimpArgs false
namespace Go.Proofs.YticejlknbfhndaaDoor
open Go.RowKit

def packGo (k n x : Int) (s : ByteArray) (m : Nat) (ih : List (List UInt8)) : List UInt8 :=
  if markOk (markFor k n x s.size m).1 (markFor k n x s.size m).2 = true then
    markB (markFor k n x s.size m).1 (markFor k n x s.size m).2 ++ (if k = 7 ∨ k = 8 then s.data.toList else if k = 9 ∨ k = 10 then ih.flatten else [])
  else []
noncomputable def packT : Tr → List UInt8 := Tr.fold fun k n x s l ih => packGo k n x s l.length ih
noncomputable def packs (l : List Tr) (j : Nat) : List UInt8 := ((l.take j).map packT).flatten
theorem packT_eq (t : Tr) : packT t = packGo t.k t.n t.x t.s t.l.length (t.l.map packT) := by
  obtain ⟨k, n, x, s, l⟩ := t
  exact Tr.fold_mk _ _ _ _ _ _
theorem packs_zero (l : List Tr) : packs l 0 = [] := rfl
theorem packs_succ {l : List Tr} {j : Nat} (h : j < l.length) : packs l (j + 1) = packs l j ++ packT l[j] := by
  unfold packs
  rw [List.take_succ_eq_append_getElem h, List.map_append, List.flatten_append]; simp
theorem packs_all {l : List Tr} {j : Nat} (h : l.length ≤ j) : packs l j = (l.map packT).flatten := by unfold packs; rw [List.take_of_length_le h]
theorem ba_len (s : ByteArray) : s.data.toList.length = s.size := by simp
theorem flat_len {l : List Tr} (f : Tr → List UInt8) (h : ∀ u ∈ l, (f u).length ≤ 9 + 9 * u.sz) : ((l.map f).flatten).length ≤ 9 * szL l := by
  unfold szL
  induction l with
  | nil => simp
  | cons t l ih =>
    have h1 := h t List.mem_cons_self
    have h2 := ih fun u hu => h u (List.mem_cons_of_mem _ hu)
    simp only [List.map_cons, List.flatten_cons, List.length_append, List.length_cons, List.sum_cons]
    omega
theorem packT_len (t : Tr) : (packT t).length ≤ 9 + 9 * t.sz := by
  refine Tr.ind (P := fun t => (packT t).length ≤ 9 + 9 * t.sz) (fun t ih => ?_) t
  rw [packT_eq, t.sz_eq]
  have h1 := flat_len packT ih
  have h2 := ba_len t.s
  have h3 := markB_len (markFor t.k t.n t.x t.s.size t.l.length).1 (markFor t.k t.n t.x t.s.size t.l.length).2
  unfold packGo
  split
  · rw [List.length_append]
    (repeat' split) <;> (try simp only [List.length_nil]) <;> omega
  · simp
theorem packs_len (l : List Tr) (j : Nat) : (packs l j).length ≤ 9 * szL (l.take j) := flat_len packT fun u _ => packT_len u
theorem szL_take (l : List Tr) (j : Nat) (h : j ≤ l.length) : szL (l.take j) = j + szT l j := by
  unfold szL szT; rw [List.length_take, Nat.min_eq_left h]
theorem markFor_le {k n x : Int} {sl m : Nat} (hn : n ≤ 9223372036854775807) (hs : sl ≤ 9223372036854775807) (hm : m ≤ 9223372036854775807) : (markFor k n x sl m).2 ≤ 9223372036854775807 := by
  unfold markFor
  (repeat' split) <;> (try simp only) <;> try omega
  unfold fltBits
  split
  · rename_i h
    have := fltOk_bounds h
    split <;> omega
  · omega
theorem Blk.cells5v {w : World} {g : Nat} {T : TypeId} {a b c d e : Value} (h : Blk w g T #[a, b, c, d, e]) :
    w.cell? ⟨g, 0, none⟩ = some a ∧ w.cell? ⟨g, 1, none⟩ = some b ∧ w.cell? ⟨g, 2, none⟩ = some c ∧ w.cell? ⟨g, 3, none⟩ = some d ∧ w.cell? ⟨g, 4, none⟩ = some e := ⟨h.cell 0, h.cell 1, h.cell 2, h.cell 3, h.cell 4⟩
def PkSays (t : Tr) : Prop := ∀ (A : Option Addr) (m c : Nat) (b : List UInt8) (e : El) (lo : Nat) (w : World), t.wf → BS w lo A m c b → lo ≤ w.heap.size → LsAt w t.l e → e.lt lo → m + 9 + 9 * t.sz ≤ 17592186044416 →
  Calls Tryd.prog 116 #[.slice A m c, trV t e] w fun r w' => ∃ A' n' c', r = .returned (.slice A' n' c') ∧ BS w' lo A' n' c' (b ++ packT t) ∧ Gr A A' w w'
set_option maxHeartbeats 1600000 in
theorem i_appendPacked (t : Tr) : PkSays t := by
  refine Tr.ind (P := PkSays) (fun t ih => ?_) t
  intro A m c b e lo w hwf hA hlo hl hel hm
  have hw := (Tr.wf_iff t).1 hwf
  obtain ⟨eA, en, ec, efp⟩ := e
  have hen : t.l.length = en := hl.len
  have hsz := t.sz_eq
  have hx : t.x ≤ 9223372036854775807 := hw.2.2.1.2
  have hn9 : en ≤ 9223372036854775807 := by have := szT_le t.l 0; omega
  have hpk := packT_eq t
  unfold packGo at hpk
  obtain ⟨⟨p, q⟩, hp⟩ : ∃ x, markFor t.k t.n t.x t.s.size t.l.length = x := ⟨_, rfl⟩
  rw [hp] at hpk
  have hMF : ∀ w1, Calls Tryd.prog 61 #[.agg #[.int .i64 t.k, .int .i64 t.n, .int .i64 t.x, .string t.s, .slice eA en ec]] w1 fun r w' => r = .returned (.agg #[.int .i64 p, .int .i64 q]) ∧ Below w1.heap.size w1 w' := fun w1 =>
    (i_MarkFor t.k t.n t.x t.s eA en ec w1 hx hn9).mono fun r w' ⟨h1, h2⟩ => ⟨by rw [h1, ← hen, hp], h2⟩
  have hgA : w.heap.size ∉ blkOf A := fun h => Nat.lt_irrefl _ (hA.to_ _ h)
  cases hok : markOk p q
  · rw [hok, if_neg (by decide)] at hpk
    have HP := Lib.hid hpk; clear hpk ih hwf hw
    go_enter Tryd.func116, Tryd.ntmps116
    go_wp2_with (first | (go_at_call 61; refine (hMF _).mono ?_; rintro r w1 ⟨rfl, hb1⟩; have B1 : Blk w1 w.heap.size 29 _ := (Blk.new w _ _).below hb1 (by simp)) | (go_at_call 60; refine (i_MarkOk _ _ _).mono ?_; rintro r w2 ⟨rfl, hb2⟩))
    go_ret
    have hk := Below.up ((Below.one w _).up hb1) ((Below.one _ _).up hb2)
    exact ⟨_, _, _, rfl, by rw [HP.out, List.append_nil]; exact hA.below hk, Gr.of_below hk⟩
  · rw [if_pos (show markOk (p, q).1 (p, q).2 = true from hok)] at hpk
    have hpk : packT t = markB p q ++ (if t.k = 7 ∨ t.k = 8 then t.s.data.toList else if t.k = 9 ∨ t.k = 10 then (t.l.map packT).flatten else []) := hpk
    have hs9 : t.s.size ≤ 9223372036854775807 := hw.2.2.2.1
    have hq9 : q ≤ 9223372036854775807 := by
      have := markFor_le (k := t.k) (n := t.n) (x := t.x) (sl := t.s.size) (m := t.l.length) hw.2.1.2 hs9 (by omega)
      rw [hp] at this; exact this
    have hml := markB_len p q
    by_cases hk7 : t.k = 7 ∨ t.k = 8
    · rw [if_pos hk7] at hpk
      have HP := Lib.hid hpk; clear hpk ih hwf hw hp
      have hk8 : (t.k == 7) = true ∨ ((t.k == 7) = false ∧ (t.k == 8) = true) := by rcases hk7 with h | h <;> simp [h]
      clear hk7
      rcases hk8 with hk8 | ⟨hk8, hk9⟩
      all_goals
        go_enter Tryd.func116, Tryd.ntmps116
        go_wp2_with (first
        | (go_at_call 61; refine (hMF _).mono ?_; rintro r w1 ⟨rfl, hb1⟩; have B1 : Blk w1 w.heap.size 29 _ := (Blk.new w _ _).below hb1 (by simp))
        | (go_at_call 60; refine (i_MarkOk _ _ _).mono ?_; rintro r w2 ⟨rfl, hb2⟩; have B2 := (B1.alloc (.cells #[.int .i64 p, .int .i64 q] 69)).below hb2 (by have := B1.lt; simp; omega); obtain ⟨⟨m0, m1⟩, -⟩ := Blk.box2 ((Blk.new w1 69 #[.int .i64 p, .int .i64 q]).below hb2 (by simp)) (Below.refl _ _))
        | (go_at_call 155; refine (i_PutMark none 0 0 [] _ _ _ 0 (Sl.nil_ _ _ _) (Nat.zero_le _) (by decide) hq9).mono ?_; rintro r w3 ⟨A3, n3, c3, rfl, h3, hb3⟩; rw [List.nil_append] at h3; have hl3 := h3.len; have B3 := B2.below hb3 B2.lt; have k3 : Below w.heap.size w w3 := (Below.up ((Below.one w _).up hb1) ((Below.one _ _).up hb2)).up hb3; clear B1 B2 hb1 hb2 hb3)
        | (at_builtin; refine app_u8g rfl _ _ rfl (hA.below k3) rfl h3.sl rfl (by omega) (Nat.le_trans hlo k3.size) ?_; intro A4 c4 w4 h4 hg4; have B4 := hg4.blk B3 hgA; obtain ⟨v0, v1, v2, v3, v4⟩ := B4.cells5v; have g4 := (Gr.of_below k3).trans hg4; have z4 : lo ≤ w4.heap.size := Nat.le_trans hlo g4.size; clear h3 hg4 k3 B3)
        | (at_builtin; refine app_strg rfl _ _ rfl h4 rfl rfl (by omega) z4 ?_; intro A5 c5 w5 h5 hg5))
        go_ret
        exact ⟨_, _, _, rfl, by rw [HP.out, ← List.append_assoc]; exact h5, g4.trans hg5⟩
    rw [if_neg hk7] at hpk
    have f7 : (t.k == 7) = false := by simp; omega
    have f8 : (t.k == 8) = false := by simp; omega
    by_cases hk9 : t.k = 9 ∨ t.k = 10
    · rw [if_pos hk9] at hpk
      have hk8 : (t.k == 9) = true ∨ ((t.k == 9) = false ∧ (t.k == 10) = true) := by rcases hk9 with h | h <;> simp [h]
      have HP := Lib.hid hpk; clear hpk hwf hp hk7 hk9
      have hww := hw.2.2.2.2; clear hw
      have hcl : en ≤ ec ∧ ec ≤ maxLen := ⟨((lsAt_iff _ _).1 hl).2.1, ((lsAt_iff _ _).1 hl).2.2.1⟩
      rcases hk8 with hk8 | ⟨hk8, hk9⟩
      all_goals
        go_enter Tryd.func116, Tryd.ntmps116
        go_wp2_with (first
        | (go_at_call 61; refine (hMF _).mono ?_; rintro r w1 ⟨rfl, hb1⟩; have B1 : Blk w1 w.heap.size 29 _ := (Blk.new w _ _).below hb1 (by simp))
        | (go_at_call 60; refine (i_MarkOk _ _ _).mono ?_; rintro r w2 ⟨rfl, hb2⟩; have B2 := (B1.alloc (.cells #[.int .i64 p, .int .i64 q] 69)).below hb2 (by have := B1.lt; simp; omega); obtain ⟨⟨m0, m1⟩, -⟩ := Blk.box2 ((Blk.new w1 69 #[.int .i64 p, .int .i64 q]).below hb2 (by simp)) (Below.refl _ _))
        | (go_at_call 155; refine (i_PutMark none 0 0 [] _ _ _ 0 (Sl.nil_ _ _ _) (Nat.zero_le _) (by decide) hq9).mono ?_; rintro r w3 ⟨A3, n3, c3, rfl, h3, hb3⟩; rw [List.nil_append] at h3; have hl3 := h3.len; have B3 := B2.below hb3 B2.lt; have k3 : Below w.heap.size w w3 := (Below.up ((Below.one w _).up hb1) ((Below.one _ _).up hb2)).up hb3; clear B1 B2 hb1 hb2 hb3)
        | (at_builtin; refine app_u8g rfl _ _ rfl (hA.below k3) rfl h3.sl rfl (by omega) (Nat.le_trans hlo k3.size) ?_; intro A4 c4 w4 h4 hg4; have B4 := hg4.blk B3 hgA; obtain ⟨v0, v1, v2, v3, v4⟩ := B4.cells5v; have g4 := (Gr.of_below k3).trans hg4; have z4 : lo ≤ w4.heap.size := Nat.le_trans hlo g4.size; clear h3 hg4 k3 B3))
        clear v0 v1 v2 v3 v4 m0 m1 B4 hMF f7 f8
        have hbm := hA.len
        go_loopg [0, 33] en (fun f x y wr => ∃ (j n' c' : Nat) (A' : Option Addr), j + f = en ∧ x = .slice A' n' c' ∧ y = .int .i64 j ∧ BS wr lo A' n' c' (b ++ markB p q ++ packs t.l j) ∧ Gr A A' w wr ∧ lo ≤ wr.heap.size)
        case atStart => exact ⟨0, _, _, A4, by omega, rfl, rfl, by rw [packs_zero, List.append_nil]; exact h4, g4, z4⟩
        case round =>
          obtain ⟨j, n', c', A', hjf, rfl, rfl, hB, hg, hz⟩ := hrel
          clear h4 g4 z4
          by_cases hlt : j < en
          · obtain ⟨f, rfl⟩ : ∃ f, gk = f + 1 := ⟨gk - 1, by omega⟩
            have hkr : Below lo w wr := hg.below hA hlo
            obtain ⟨g, o, u, hj, hAe, hgm, ⟨c0, c1, c2, c3, c4⟩, hch, hsub⟩ := (hl.below hel hkr).elem hlt
            have hAe : eA = some ⟨g, o, none⟩ := hAe
            subst hAe
            have hul : u.lt lo := fun x hx => hel x (hsub x hx)
            have hnl := hB.len
            rw [List.length_append, List.length_append] at hnl
            have hpl := packs_len t.l j
            rw [szL_take t.l j (by omega)] at hpl
            have hz1 := szT_succ hj
            have hz2 := szT_le t.l (j + 1)
            have hih := fun (o : Obj) => ih t.l[j] (List.getElem_mem hj) A' n' c' _ u lo (wr.alloc o) (hww _ (List.getElem_mem hj)) (hB.alloc o) (Nat.le_trans hz (by simp)) (hch.below hul ((Below.one wr o).mono hz)) hul (by omega)
            clear ih hww hch hB
            go_wp2_with (go_at_call 116; refine (hih _).mono ?_; rintro r w5 ⟨A5, n5, c5, rfl, h5, hg5⟩)
            clear hih
            go_roundg f
            case measure => omega
            case rel => exact ⟨j + 1, n5, c5, A5, by omega, rfl, by go_num, by rw [packs_succ hj, ← List.append_assoc]; exact h5, (hg.trans (Gr.of_below (Below.one wr _))).trans hg5, Nat.le_trans hz (Nat.le_trans (by simp) hg5.size)⟩
          · have hj : j = en := by omega
            subst hj
            go_wp2_with fail
            go_ret
            exact ⟨_, _, _, rfl, by rw [HP.out, ← packs_all (l := t.l) (j := j) (by omega), ← List.append_assoc]; exact hB, hg⟩
    · rw [if_neg hk9, List.append_nil] at hpk
      have HP := Lib.hid hpk; clear hpk ih hwf hw hp hk7
      have f9 : (t.k == 9) = false := by simp; omega
      have f10 : (t.k == 10) = false := by simp; omega
      clear hk9
      go_enter Tryd.func116, Tryd.ntmps116
      go_wp2_with (first
        | (go_at_call 61; refine (hMF _).mono ?_; rintro r w1 ⟨rfl, hb1⟩; have B1 : Blk w1 w.heap.size 29 _ := (Blk.new w _ _).below hb1 (by simp))
        | (go_at_call 60; refine (i_MarkOk _ _ _).mono ?_; rintro r w2 ⟨rfl, hb2⟩; have B2 := (B1.alloc (.cells #[.int .i64 p, .int .i64 q] 69)).below hb2 (by have := B1.lt; simp; omega); obtain ⟨⟨m0, m1⟩, -⟩ := Blk.box2 ((Blk.new w1 69 #[.int .i64 p, .int .i64 q]).below hb2 (by simp)) (Below.refl _ _))
        | (go_at_call 155; refine (i_PutMark none 0 0 [] _ _ _ 0 (Sl.nil_ _ _ _) (Nat.zero_le _) (by decide) hq9).mono ?_; rintro r w3 ⟨A3, n3, c3, rfl, h3, hb3⟩; rw [List.nil_append] at h3; have hl3 := h3.len; have B3 := B2.below hb3 B2.lt; have k3 : Below w.heap.size w w3 := (Below.up ((Below.one w _).up hb1) ((Below.one _ _).up hb2)).up hb3; clear B1 B2 hb1 hb2 hb3)
        | (at_builtin; refine app_u8g rfl _ _ rfl (hA.below k3) rfl h3.sl rfl (by omega) (Nat.le_trans hlo k3.size) ?_; intro A4 c4 w4 h4 hg4; have B4 := hg4.blk B3 hgA; obtain ⟨v0, v1, v2, v3, v4⟩ := B4.cells5v; have g4 := (Gr.of_below k3).trans hg4; have z4 : lo ≤ w4.heap.size := Nat.le_trans hlo g4.size; clear h3 hg4 k3 B3))
      go_ret
      exact ⟨_, _, _, rfl, by rw [HP.out]; exact h4, g4⟩
theorem i_PackPacked (t : Tr) (e : El) (w : World) (hwf : t.wf) (hl : LsAt w t.l e) (hel : e.lt w.heap.size) (hm : t.sz ≤ 1048576) :
    Calls Tryd.prog 72 #[trV t e] w fun r w' => ∃ A' n' c', r = .returned (.slice A' n' c') ∧ BS w' w.heap.size A' n' c' (packT t) ∧ Below w.heap.size w w' := by
  have hb := fun o => Below.one w o
  have hM := fun o => i_appendPacked t none 0 0 [] e w.heap.size (w.alloc o) hwf (BS.nil_ _ _) (by simp) (hl.below hel (hb o)) hel (by omega)
  go_enter Tryd.func72, Tryd.ntmps72
  go_wp2_with (go_at_call 116; refine (hM _).mono ?_; rintro r w1 ⟨A1, n1, c1, rfl, h1, hg1⟩)
  go_ret
  exact ⟨_, _, _, rfl, h1, (hb _).trans (hg1.below (BS.nil_ _ _) (by simp))⟩
def SpSays (t : Tr) : Prop := ∀ (e : El) (w : World), t.wf → LsAt w t.l e → e.lt w.heap.size → t.sz ≤ 1048576 →
  Calls Tryd.prog 71 #[trV t e] w fun r w' => ∃ A' n' c', r = .returned (.slice A' n' c') ∧ BS w' w.heap.size A' n' c' (packT t) ∧ Below w.heap.size w w'
set_option maxHeartbeats 1600000 in
theorem s_PackPacked (t : Tr) : SpSays t := by
  refine Tr.ind (P := SpSays) (fun t ih => ?_) t
  intro e w hwf hl hel hm
  have hw := (Tr.wf_iff t).1 hwf
  obtain ⟨eA, en, ec, efp⟩ := e
  have hen : t.l.length = en := hl.len
  have hsz := t.sz_eq
  have hx : t.x ≤ 9223372036854775807 := hw.2.2.1.2
  have hn9 : en ≤ 9223372036854775807 := by have := szT_le t.l 0; omega
  have hpk := packT_eq t
  unfold packGo at hpk
  obtain ⟨⟨p, q⟩, hp⟩ : ∃ x, markFor t.k t.n t.x t.s.size t.l.length = x := ⟨_, rfl⟩
  rw [hp] at hpk
  have hMF : ∀ w1, Calls Tryd.prog 94 #[.agg #[.int .i64 t.k, .int .i64 t.n, .int .i64 t.x, .string t.s, .slice eA en ec]] w1 fun r w' => r = .returned (.agg #[.int .i64 p, .int .i64 q]) ∧ Below w1.heap.size w1 w' := fun w1 =>
    (s_MarkFor t.k t.n t.x t.s eA en ec w1 hx hn9).mono fun r w' ⟨h1, h2⟩ => ⟨by rw [h1, ← hen, hp], h2⟩
  have hs9 : t.s.size ≤ 9223372036854775807 := hw.2.2.2.1
  have hq9 : q ≤ 9223372036854775807 := by
    have := markFor_le (k := t.k) (n := t.n) (x := t.x) (sl := t.s.size) (m := t.l.length) hw.2.1.2 hs9 (by omega)
    rw [hp] at this; exact this
  cases hok : markOk p q
  · rw [hok, if_neg (by decide)] at hpk
    have HP := Lib.hid hpk; clear hpk ih hwf hw hp
    go_enter Tryd.func71, Tryd.ntmps71
    go_wp2_with (first
      | (go_at_call 94; refine (hMF _).mono ?_; rintro r w1 ⟨rfl, hb1⟩; have B1 : Blk w1 w.heap.size 29 _ := (Blk.new w _ _).below hb1 (by simp))
      | (go_at_call 93; refine (s_MarkOk _ _ _).mono ?_; rintro r w2 ⟨rfl, hb2⟩; have B2 := (B1.alloc (.cells #[.int .i64 p, .int .i64 q] 69)).below hb2 (by have := B1.lt; simp; omega); have M2 := (Blk.new w1 69 #[.int .i64 p, .int .i64 q]).below hb2 (by simp); have k2 : Below w.heap.size w w2 := Below.up ((Below.one w _).up hb1) ((Below.one _ _).up hb2); have l2 := M2.lt; obtain ⟨⟨m0, m1⟩, -⟩ := Blk.box2 M2 (Below.refl _ _))
      | (go_at_call 115; refine (s_PutMark (some ⟨_, 0, none⟩) 0 0 [] _ _ _ 0 ⟨rfl, Nat.le_refl _, by decide, fun h => absurd h (Nat.lt_irrefl 0)⟩ (Nat.zero_le _) (by decide) hq9).mono ?_; rintro r w3 ⟨A3, n3, c3, rfl, h3, hb3⟩; rw [List.nil_append] at h3; have hl3 := h3.len; have B3 := (B2.alloc (.cells #[] 5)).below hb3 (by have := B2.lt; simp; omega); have k3 : Below w.heap.size w w3 := k2.up ((Below.one _ _).up hb3); replace h3 := h3.mono (lo' := w.heap.size + 1) (by have := B2.lt; simp; omega); obtain ⟨v0, v1, v2, v3, v4⟩ := B3.cells5v; have z3 : w.heap.size + 1 ≤ w3.heap.size := B3.lt; clear B1 B2 M2 hb1 hb2 hb3 k2))
    go_ret
    exact ⟨_, _, _, rfl, by rw [HP.out]; exact (BS.new w2).mono k2.size, k2.up (Below.one _ _)⟩
  · rw [if_pos (show markOk (p, q).1 (p, q).2 = true from hok)] at hpk
    have hpk : packT t = markB p q ++ (if t.k = 7 ∨ t.k = 8 then t.s.data.toList else if t.k = 9 ∨ t.k = 10 then (t.l.map packT).flatten else []) := hpk
    have hml := markB_len p q
    by_cases hk7 : t.k = 7 ∨ t.k = 8
    · rw [if_pos hk7] at hpk
      have HP := Lib.hid hpk; clear hpk ih hwf hw hp
      have hk8 : (t.k == 7) = true ∨ ((t.k == 7) = false ∧ (t.k == 8) = true) := by rcases hk7 with h | h <;> simp [h]
      clear hk7
      rcases hk8 with hk8 | ⟨hk8, hk9⟩
      all_goals
        go_enter Tryd.func71, Tryd.ntmps71
        go_wp2_with (first
          | (go_at_call 94; refine (hMF _).mono ?_; rintro r w1 ⟨rfl, hb1⟩; have B1 : Blk w1 w.heap.size 29 _ := (Blk.new w _ _).below hb1 (by simp))
          | (go_at_call 93; refine (s_MarkOk _ _ _).mono ?_; rintro r w2 ⟨rfl, hb2⟩; have B2 := (B1.alloc (.cells #[.int .i64 p, .int .i64 q] 69)).below hb2 (by have := B1.lt; simp; omega); have M2 := (Blk.new w1 69 #[.int .i64 p, .int .i64 q]).below hb2 (by simp); have k2 : Below w.heap.size w w2 := Below.up ((Below.one w _).up hb1) ((Below.one _ _).up hb2); have l2 := M2.lt; obtain ⟨⟨m0, m1⟩, -⟩ := Blk.box2 M2 (Below.refl _ _))
          | (go_at_call 115; refine (s_PutMark (some ⟨_, 0, none⟩) 0 0 [] _ _ _ 0 ⟨rfl, Nat.le_refl _, by decide, fun h => absurd h (Nat.lt_irrefl 0)⟩ (Nat.zero_le _) (by decide) hq9).mono ?_; rintro r w3 ⟨A3, n3, c3, rfl, h3, hb3⟩; rw [List.nil_append] at h3; have hl3 := h3.len; have B3 := (B2.alloc (.cells #[] 5)).below hb3 (by have := B2.lt; simp; omega); have k3 : Below w.heap.size w w3 := k2.up ((Below.one _ _).up hb3); replace h3 := h3.mono (lo' := w.heap.size + 1) (by have := B2.lt; simp; omega); obtain ⟨v0, v1, v2, v3, v4⟩ := B3.cells5v; have z3 : w.heap.size + 1 ≤ w3.heap.size := B3.lt; clear B1 B2 M2 hb1 hb2 hb3 k2)
          | (at_builtin; refine app_strg rfl _ _ rfl h3 rfl rfl (by omega) z3 ?_; intro A5 c5 w5 h5 hg5))
        go_ret
        exact ⟨_, _, _, rfl, by rw [HP.out]; exact h5.mono (Nat.le_succ _), k3.trans ((hg5.below h3 z3).mono (Nat.le_succ _))⟩
    rw [if_neg hk7] at hpk
    have f7 : (t.k == 7) = false := by simp; omega
    have f8 : (t.k == 8) = false := by simp; omega
    by_cases hk9 : t.k = 9 ∨ t.k = 10
    · rw [if_pos hk9] at hpk
      have hk8 : (t.k == 9) = true ∨ ((t.k == 9) = false ∧ (t.k == 10) = true) := by rcases hk9 with h | h <;> simp [h]
      have HP := Lib.hid hpk; clear hpk hwf hp hk7 hk9
      have hww := hw.2.2.2.2; clear hw
      have hcl : en ≤ ec ∧ ec ≤ maxLen := ⟨((lsAt_iff _ _).1 hl).2.1, ((lsAt_iff _ _).1 hl).2.2.1⟩
      rcases hk8 with hk8 | ⟨hk8, hk9⟩
      all_goals
        go_enter Tryd.func71, Tryd.ntmps71
        go_wp2_with (first
          | (go_at_call 94; refine (hMF _).mono ?_; rintro r w1 ⟨rfl, hb1⟩; have B1 : Blk w1 w.heap.size 29 _ := (Blk.new w _ _).below hb1 (by simp))
          | (go_at_call 93; refine (s_MarkOk _ _ _).mono ?_; rintro r w2 ⟨rfl, hb2⟩; have B2 := (B1.alloc (.cells #[.int .i64 p, .int .i64 q] 69)).below hb2 (by have := B1.lt; simp; omega); have M2 := (Blk.new w1 69 #[.int .i64 p, .int .i64 q]).below hb2 (by simp); have k2 : Below w.heap.size w w2 := Below.up ((Below.one w _).up hb1) ((Below.one _ _).up hb2); have l2 := M2.lt; obtain ⟨⟨m0, m1⟩, -⟩ := Blk.box2 M2 (Below.refl _ _))
          | (go_at_call 115; refine (s_PutMark (some ⟨_, 0, none⟩) 0 0 [] _ _ _ 0 ⟨rfl, Nat.le_refl _, by decide, fun h => absurd h (Nat.lt_irrefl 0)⟩ (Nat.zero_le _) (by decide) hq9).mono ?_; rintro r w3 ⟨A3, n3, c3, rfl, h3, hb3⟩; rw [List.nil_append] at h3; have hl3 := h3.len; have B3 := (B2.alloc (.cells #[] 5)).below hb3 (by have := B2.lt; simp; omega); have k3 : Below w.heap.size w w3 := k2.up ((Below.one _ _).up hb3); replace h3 := h3.mono (lo' := w.heap.size + 1) (by have := B2.lt; simp; omega); obtain ⟨v0, v1, v2, v3, v4⟩ := B3.cells5v; have z3 : w.heap.size + 1 ≤ w3.heap.size := B3.lt; clear B1 B2 M2 hb1 hb2 hb3 k2))
        clear v0 v1 v2 v3 v4 m0 m1 hMF f7 f8
        go_loopg [4, 5] en (fun f x y wr => ∃ (j n' c' : Nat) (A' : Option Addr), j + f = en ∧ x = .slice A' n' c' ∧ y = .int .i64 j ∧ BS wr (w.heap.size + 1) A' n' c' (markB p q ++ packs t.l j) ∧ Below w.heap.size w wr ∧ Blk wr w.heap.size 29 #[.int .i64 t.k, .int .i64 t.n, .int .i64 t.x, .string t.s, .slice eA en ec])
        case atStart => exact ⟨0, _, _, A3, by omega, rfl, rfl, by rw [packs_zero, List.append_nil]; exact h3, k3, B3⟩
        case round =>
          obtain ⟨j, n', c', A', hjf, rfl, rfl, hB, hk, hbx⟩ := hrel
          clear h3 k3 B3
          obtain ⟨v0, v1, v2, v3, v4⟩ := hbx.cells5v
          have z4 : w.heap.size + 1 ≤ wr.heap.size := hbx.lt
          by_cases hlt : j < en
          · obtain ⟨f, rfl⟩ : ∃ f, gk = f + 1 := ⟨gk - 1, by omega⟩
            obtain ⟨g, o, u, hj, hAe, hgm, ⟨c0, c1, c2, c3, c4⟩, hch, hsub⟩ := (hl.below hel hk).elem hlt
            have hAe : eA = some ⟨g, o, none⟩ := hAe
            subst hAe
            have hul : u.lt w.heap.size := fun x hx => hel x (hsub x hx)
            have hnl := hB.len
            rw [List.length_append] at hnl
            have hpl := packs_len t.l j
            rw [szL_take t.l j (by omega)] at hpl
            have hz1 := szT_succ hj
            have hz2 := szT_le t.l (j + 1)
            have hpu := packT_len t.l[j]
            have hih := ih t.l[j] (List.getElem_mem hj) u wr (hww _ (List.getElem_mem hj)) hch (hul.mono hk.size) (by omega)
            clear ih hww hch
            go_wp2_with (first
              | (go_at_call 71; refine hih.mono ?_; rintro r w5 ⟨A5, n5, c5, rfl, h5, hb5⟩; have hl5 := h5.len; have hB5 := hB.below hb5; have bx5 := hbx.below hb5 hbx.lt; have k5 := hk.up hb5)
              | (at_builtin; refine app_u8g rfl _ _ rfl hB5 rfl h5.sl rfl (by omega) (bx5.lt) ?_; intro A6 c6 w6 h6 hg6))
            have hk6 := hg6.below hB5 bx5.lt
            have bx6 := bx5.below hk6 (Nat.lt_succ_self _)
            clear hih hB5 bx5 hB hbx v0 v1 v2 v3 v4 h5 hg6
            go_roundg f
            case measure => omega
            case rel => exact ⟨j + 1, _, c6, A6, by omega, rfl, by go_num, by rw [packs_succ hj, ← List.append_assoc]; exact h6, k5.trans (hk6.mono (Nat.le_succ _)), bx6⟩
          · have hj : j = en := by omega
            subst hj
            go_wp2_with fail
            go_ret
            exact ⟨_, _, _, rfl, by rw [HP.out, ← packs_all (l := t.l) (j := j) (by omega)]; exact hB.mono (Nat.le_succ _), hk⟩
    · rw [if_neg hk9, List.append_nil] at hpk
      have HP := Lib.hid hpk; clear hpk ih hwf hw hp hk7
      have f9 : (t.k == 9) = false := by simp; omega
      have f10 : (t.k == 10) = false := by simp; omega
      clear hk9
      go_enter Tryd.func71, Tryd.ntmps71
      go_wp2_with (first
        | (go_at_call 94; refine (hMF _).mono ?_; rintro r w1 ⟨rfl, hb1⟩; have B1 : Blk w1 w.heap.size 29 _ := (Blk.new w _ _).below hb1 (by simp))
        | (go_at_call 93; refine (s_MarkOk _ _ _).mono ?_; rintro r w2 ⟨rfl, hb2⟩; have B2 := (B1.alloc (.cells #[.int .i64 p, .int .i64 q] 69)).below hb2 (by have := B1.lt; simp; omega); have M2 := (Blk.new w1 69 #[.int .i64 p, .int .i64 q]).below hb2 (by simp); have k2 : Below w.heap.size w w2 := Below.up ((Below.one w _).up hb1) ((Below.one _ _).up hb2); have l2 := M2.lt; obtain ⟨⟨m0, m1⟩, -⟩ := Blk.box2 M2 (Below.refl _ _))
        | (go_at_call 115; refine (s_PutMark (some ⟨_, 0, none⟩) 0 0 [] _ _ _ 0 ⟨rfl, Nat.le_refl _, by decide, fun h => absurd h (Nat.lt_irrefl 0)⟩ (Nat.zero_le _) (by decide) hq9).mono ?_; rintro r w3 ⟨A3, n3, c3, rfl, h3, hb3⟩; rw [List.nil_append] at h3; have hl3 := h3.len; have B3 := (B2.alloc (.cells #[] 5)).below hb3 (by have := B2.lt; simp; omega); have k3 : Below w.heap.size w w3 := k2.up ((Below.one _ _).up hb3); replace h3 := h3.mono (lo' := w.heap.size + 1) (by have := B2.lt; simp; omega); obtain ⟨v0, v1, v2, v3, v4⟩ := B3.cells5v; have z3 : w.heap.size + 1 ≤ w3.heap.size := B3.lt; clear B1 B2 M2 hb1 hb2 hb3 k2))
      go_ret
      exact ⟨_, _, _, rfl, by rw [HP.out]; exact h3.mono (Nat.le_succ _), k3⟩
end Go.Proofs.YticejlknbfhndaaDoor
