/- OnceEach, textNames, FitsText (impl). SameVal: the reference's. -/
import Derived.Test.YtgddnpglgakkdaaGreatDoorTo9Names
import Derived.Test.YtgddnpglgakkdaaGreatDoorTo9M38
import Derived.Deep.RegionHeld3
set_option linter.unusedVariables false
set_option maxRecDepth 100000
set_option linter.unusedSimpArgs false
namespace Go.Proofs.YtgddnpglgakkdaaGreatDoor
open Go.RowKit

/-- None of a list is among those ahead of it; pre: those ahead of the list. -/
noncomputable def onceF (pre : List Tr) : List Tr → Bool
  | [] => true
  | x :: r => !pre.any (fun o => sameT o x) && onceF (pre ++ [x]) r
noncomputable def onceL (l : List Tr) : Bool := onceF [] l
theorem onceF_step {l : List Tr} {j : Nat} (h : j < l.length) : onceF (l.take j) (l.drop j) = (!(l.take j).any (fun o => sameT o l[j]) && onceF (l.take (j + 1)) (l.drop (j + 1))) := by
  rw [List.drop_eq_getElem_cons h, List.take_succ_eq_append_getElem h]
  rfl
theorem onceF_end {l : List Tr} {j : Nat} (h : l.length ≤ j) : onceF (l.take j) (l.drop j) = true := by
  rw [List.drop_eq_nil_of_le h]; rfl
/-- A list's beginning. -/
theorem LsAt.take_ {w : World} {l : List Tr} {e : El} (h : LsAt w l e) {j : Nat} (hj : j ≤ e.n) : ∃ fp, LsAt w (l.take j) ⟨e.A, j, e.c, fp⟩ ∧ ∀ g ∈ fp, g ∈ e.fp := by
  obtain ⟨h1, h2, h3, es, h4, h5, h6, h7⟩ := (lsAt_iff l e).1 h
  have tk : ∀ {α : Type} (m : List α) (i : Nat) (v : α), (m.take j)[i]? = some v → m[i]? = some v := fun m i v hv => by
    rw [List.getElem?_take] at hv
    split at hv
    · exact hv
    · cases hv
  rcases Nat.eq_zero_or_pos j with h0 | h0
  · subst h0
    exact ⟨[], (lsAt_iff _ _).2 ⟨by simp, by show 0 ≤ e.c; omega, h3, [], rfl, fun _ => rfl, fun h => absurd h (Nat.lt_irrefl 0), fun j t u h => by simp at h⟩, fun g hg => by cases hg⟩
  · obtain ⟨g, o, hA, hf, hc⟩ := h6 (by omega)
    refine ⟨g :: elFp (es.take j), (lsAt_iff _ _).2 ⟨by rw [List.length_take]; show _ = j; omega, by show j ≤ e.c; omega, h3, es.take j, by rw [List.length_take]; show _ = j; omega, fun h => absurd h (Nat.ne_of_gt h0), fun _ => ⟨g, o, hA, rfl, fun i t u a b => hc i t u (tk _ _ _ a) (tk _ _ _ b)⟩, fun i t u a b => h7 i t u (tk _ _ _ a) (tk _ _ _ b)⟩, fun x hx => ?_⟩
    rw [hf]
    rcases List.mem_cons.1 hx with rfl | hx
    · exact List.mem_cons_self
    · refine List.mem_cons_of_mem _ ?_
      obtain ⟨y, hy, hxy⟩ := List.mem_flatten.1 hx
      obtain ⟨u, hu, rfl⟩ := List.mem_map.1 hy
      exact List.mem_flatten.2 ⟨u.fp, List.mem_map.2 ⟨u, List.mem_of_mem_take hu, rfl⟩, hxy⟩
theorem enters_once1 : EntersF 145 := enters_of Tryz.func145 (by kernel_rfl) rfl
theorem i_once1 (u x : Tr) (e ex : El) (w : World) (hl : LsAt w u.l e) (hel : e.lt w.heap.size) (hlx : LsAt w x.l ex) (hex : ex.lt w.heap.size) (g : Nat) (hg : BoxV w g x ex) (hgl : g < w.heap.size) :
    Calls Tryz.prog 145 #[trV u e, .pointer (some ⟨g, 0, none⟩)] w fun r w' => r = .returned (.bool (sameT u x)) ∧ Below w.heap.size w w' := by
  have kb := Below.one w (.cells (valCells u e) 33)
  have hc := i_SameVal u x e ex _ (hl.below hel kb) (hlx.below hex kb) (hel.mono kb.size) (hex.mono kb.size)
  have hb2 : BoxV (w.alloc (.cells #[.int .i64 u.k, .int .i64 u.n, .int .i64 u.x, .string u.s, .slice e.A e.n e.c] 33)) g x ex := by
    obtain ⟨a, b, c, d, f⟩ := hg
    exact ⟨(kb.cell (p := ⟨g, _, none⟩) hgl).trans a, (kb.cell (p := ⟨g, _, none⟩) hgl).trans b, (kb.cell (p := ⟨g, _, none⟩) hgl).trans c, (kb.cell (p := ⟨g, _, none⟩) hgl).trans d, (kb.cell (p := ⟨g, _, none⟩) hgl).trans f⟩
  obtain ⟨a, b, c, d, f⟩ := hb2
  clear hg
  generalize sameT u x = R at hc
  go_enter Tryz.func145, Tryz.ntmps145
  go_wp2_with (go_at_call 146; refine hc.mono ?_; rintro r w1 ⟨rfl, hb⟩)
  go_ret
  exact ⟨rfl, kb.up hb⟩
set_option maxHeartbeats 2000000 in
theorem i_OnceEach (t : Tr) (e : El) (w : World) (hF : Fit t) (hl : LsAt w t.l e) (hel : e.lt w.heap.size) :
    Calls Tryz.prog 113 #[trV t e] w fun r w' => r = .returned (.bool (onceL (namesT t))) ∧ Below w.heap.size w w' := by
  have k1 := Below.one w (.cells (valCells t e) 33)
  have hnm := i_names t e _ hF (hl.below hel k1) (hel.mono k1.size)
  have hnl := names_len t
  have hln := hF.len
  obtain ⟨m, hm⟩ : ∃ m, namesT t = m := ⟨_, rfl⟩
  rw [hm] at hnm hnl ⊢
  have HV0 : Hid (onceL m = onceF (m.take 0) (m.drop 0)) := Lib.hid rfl
  clear hm
  go_enter Tryz.func113, Tryz.ntmps113
  go_wp2_with (go_at_call 114; refine hnm.mono ?_; rintro r w1 ⟨⟨A, n, c, fp⟩, rfl, h1, h2, hb1⟩)
  have hmn : m.length = n := h1.len
  have kb1 := k1.up hb1
  clear hnm
  go_loopg [4, 5, 10] n (fun f v4 v5 v10 wr => ∃ j : Nat, j + f = n ∧ v10 = .int .i64 j ∧ Hid (onceL m = onceF (m.take j) (m.drop j)) ∧ Below w1.heap.size w1 wr)
  case atStart => exact ⟨0, by omega, rfl, HV0, Below.refl _ _⟩
  case round =>
    obtain ⟨j, hjf, rfl, hH, hbr⟩ := hrel
    clear HV0
    by_cases hlt : j < n
    · obtain ⟨f, rfl⟩ : ∃ f, gk = f + 1 := ⟨gk - 1, by omega⟩
      obtain ⟨g, o, u, hj, hAe, hgm, ⟨c0, c1, c2, c3, c4⟩, hch, hsub⟩ := (h1.below h2 hbr).elem hlt
      have hAe : A = some ⟨g, o, none⟩ := hAe
      subst hAe
      obtain ⟨fpt, ht1, ht2⟩ := (h1.below h2 hbr).take_ (j := j) (by show j ≤ n; omega)
      have htl : (⟨some ⟨g, o, none⟩, j, c, fpt⟩ : El).lt wr.heap.size := fun y hy => Nat.lt_of_lt_of_le (h2 y (ht2 y hy)) hbr.size
      have hul : u.lt wr.heap.size := fun y hy => Nat.lt_of_lt_of_le (h2 y (hsub y hy)) hbr.size
      have kr := Below.one wr (.cells (valCells m[j] u) 33)
      have hBx := Blk.new wr 33 (valCells m[j] u)
      have hCF := g_ContainsFunc1 145 (.pointer (some ⟨wr.heap.size, 0, none⟩)) enters_once1 (fun o => sameT o m[j]) (m.take j) ⟨some ⟨g, o, none⟩, j, c, fpt⟩ (wr.alloc (.cells (valCells m[j] u) 33)) (ht1.below htl kr) (htl.mono kr.size)
        (fun y hy e1 w3 hb3 h31 h32 => i_once1 y m[j] e1 u w3 h31 h32 (hch.below hul (kr.up hb3)) (hul.mono (kr.up hb3).size) wr.heap.size (hBx.below hb3 hBx.lt).boxV (hBx.below hb3 hBx.lt).lt)
      have hh := hH.out
      rw [onceF_step hj] at hh
      have HH := Lib.hid hh
      have hcj : (j : Int) ≤ (c : Int) := by have := ((lsAt_iff _ _).1 h1).2.1; simp only at this; omega
      clear ht1 ht2 hh hH hch hBx
      generalize (m.take j).any (fun o => sameT o m[j]) = R at hCF HH
      cases R with
      | true =>
        go_wp2_with (go_at_call 111; refine hCF.mono ?_; rintro r w2 ⟨rfl, hb2⟩)
        go_ret
        exact ⟨ret_bool (by rw [HH.out]; rfl), (kb1.up hbr).up (kr.up hb2)⟩
      | false =>
        have HH2 : Hid (onceL m = onceF (m.take (j + 1)) (m.drop (j + 1))) := Lib.hid (by rw [HH.out]; rfl)
        clear HH
        go_wp2_with (go_at_call 111; refine hCF.mono ?_; rintro r w2 ⟨rfl, hb2⟩)
        go_roundg f
        case measure => omega
        case rel => exact ⟨j + 1, by omega, by go_num, HH2, hbr.up (kr.up hb2)⟩
    · have hh := hH.out
      rw [onceF_end (by omega)] at hh
      have HH := Lib.hid hh
      have hlt2 : ¬ ((j : Int) < (n : Int)) := by omega
      clear hh hH
      go_wp2_with fail
      go_ret
      exact ⟨ret_bool HH.out.symm, kb1.up hbr⟩
end Go.Proofs.YtgddnpglgakkdaaGreatDoor

namespace Go.Proofs.YtgddnpglgakkdaaGreatDoor
open Go.RowKit

/-- Five cells in the midst of a row. -/
abbrev RowC (w' : World) (g o : Nat) (t : Tr) (e : El) : Prop :=
  w'.cell? ⟨g, o, none⟩ = some (.int .i64 t.k) ∧ w'.cell? ⟨g, o + 1, none⟩ = some (.int .i64 t.n) ∧ w'.cell? ⟨g, o + 2, none⟩ = some (.int .i64 t.x) ∧ w'.cell? ⟨g, o + 3, none⟩ = some (.string t.s) ∧ w'.cell? ⟨g, o + 4, none⟩ = some (.slice e.A e.n e.c)
abbrev SameHeld (w : World) (p1 p2 : Nat) (q1 q2 : Value) (g1 o1 : Nat) (t1 : Tr) (u1 : El) (g2 o2 : Nat) (t2 : Tr) (u2 : El) (w' : World) : Prop :=
  (w'.cell? ⟨p1, 4, none⟩ = some q1 ∧ w'.cell? ⟨p2, 4, none⟩ = some q2) ∧ RowC w' g1 o1 t1 u1 ∧ RowC w' g2 o2 t2 u2 ∧ LsAt w' t1.l u1 ∧ LsAt w' t2.l u2 ∧ Below w.heap.size w w'
theorem same_next {w w1 w2 : World} {B p1 p2 g1 o1 g2 o2 : Nat} {q1 q2 : Value} {t1 t2 : Tr} {u1 u2 : El} (hp1 : p1 < B) (hp2 : p2 < B) (h1 : g1 < w.heap.size) (h2 : g2 < w.heap.size) (hu1 : u1.lt w.heap.size) (hu2 : u2.lt w.heap.size) (hB : B ≤ w1.heap.size) (hb : Below w1.heap.size w1 w2)
    (h : SameHeld w p1 p2 q1 q2 g1 o1 t1 u1 g2 o2 t2 u2 w1) : SameHeld w p1 p2 q1 q2 g1 o1 t1 u1 g2 o2 t2 u2 w2 := by
  obtain ⟨⟨a, b⟩, ⟨a0, a1, a2, a3, a4⟩, ⟨b0, b1, b2, b3, b4⟩, c, d, e⟩ := h
  have hs := e.size
  have f := fun (g o : Nat) (hg : g < w1.heap.size) => hb.cell (p := ⟨g, o, none⟩) hg
  have hg1 : g1 < w1.heap.size := by omega
  have hg2 : g2 < w1.heap.size := by omega
  exact ⟨⟨(f _ _ (by omega)).trans a, (f _ _ (by omega)).trans b⟩, ⟨(f _ _ hg1).trans a0, (f _ _ hg1).trans a1, (f _ _ hg1).trans a2, (f _ _ hg1).trans a3, (f _ _ hg1).trans a4⟩, ⟨(f _ _ hg2).trans b0, (f _ _ hg2).trans b1, (f _ _ hg2).trans b2, (f _ _ hg2).trans b3, (f _ _ hg2).trans b4⟩, c.below (hu1.mono hs) hb, d.below (hu2.mono hs) hb, e.up hb⟩
def SwSays (a : Tr) : Prop := ∀ (b : Tr) (ea eb : El) (w : World), LsAt w a.l ea → LsAt w b.l eb → ea.lt w.heap.size → eb.lt w.heap.size →
  Calls Tryz.prog 161 #[trV a ea, trV b eb] w fun r w' => r = .returned (.bool (sameT a b)) ∧ Below w.heap.size w w'
set_option maxHeartbeats 8000000 in
theorem s_SameVal (a : Tr) : SwSays a := by
  refine Tr.ind (P := SwSays) (fun a ih => ?_) a
  intro b ea eb w ha hb hla hlb
  have k2 := Below.two w (.cells (valCells a ea) 33) (.cells (valCells b eb) 33)
  have he := sameT_eq a b
  obtain ⟨R, hR⟩ : ∃ R, sameT a b = R := ⟨_, rfl⟩
  rw [hR] at he ⊢
  clear hR
  obtain ⟨k1, n1, x1, s1, l⟩ := a
  obtain ⟨k2', n2, x2, s2, m⟩ := b
  obtain ⟨A1, m1, c1, fp1⟩ := ea
  obtain ⟨A2, m2, c2, fp2⟩ := eb
  have hn1 : l.length = m1 := ha.len
  have hn2 : m.length = m2 := hb.len
  have hc1 : m1 ≤ 9223372036854775807 := by have := ((lsAt_iff _ _).1 ha).2.1; have := ((lsAt_iff _ _).1 ha).2.2.1; unfold maxLen at *; simp at *; omega
  have hc2 : m2 ≤ 9223372036854775807 := by have := ((lsAt_iff _ _).1 hb).2.1; have := ((lsAt_iff _ _).1 hb).2.2.1; unfold maxLen at *; simp at *; omega
  simp only at he ih
  have HE := Lib.hid he
  clear he
  by_cases hk : k1 = k2'
  rotate_left
  · have q1 : (k1 == k2') = false := by simpa using hk
    have HE2 : Hid (R = false) := Lib.hid (by rw [HE.out]; simp [hk])
    clear HE ih
    go_enter Tryz.func161, Tryz.ntmps161
    go_wp2_with fail
    all_goals (go_ret; exact ⟨ret_bool HE2.out.symm, k2⟩)
  subst hk
  by_cases hn : n1 = n2
  rotate_left
  · have q1 : (n1 == n2) = false := by simpa using hn
    have HE2 : Hid (R = false) := Lib.hid (by rw [HE.out]; simp [hn])
    clear HE ih
    go_enter Tryz.func161, Tryz.ntmps161
    go_wp2_with fail
    all_goals (go_ret; exact ⟨ret_bool HE2.out.symm, k2⟩)
  subst hn
  by_cases hx : x1 = x2
  rotate_left
  · have q1 : (x1 == x2) = false := by simpa using hx
    have HE2 : Hid (R = false) := Lib.hid (by rw [HE.out]; simp [hx])
    clear HE ih
    go_enter Tryz.func161, Tryz.ntmps161
    go_wp2_with fail
    all_goals (go_ret; exact ⟨ret_bool HE2.out.symm, k2⟩)
  subst hx
  by_cases hs : s1 = s2
  rotate_left
  · have q1 : (s1.toList == s2.toList) = false := by rw [beq_eq_false_iff_ne]; exact fun h => hs (toList_inj h)
    have q2 : ¬ s1.toList = s2.toList := fun h => hs (toList_inj h)
    have HE2 : Hid (R = false) := Lib.hid (by rw [HE.out]; simp [hs])
    clear HE ih
    go_enter Tryz.func161, Tryz.ntmps161
    go_wp2_with fail
    all_goals (go_ret; exact ⟨ret_bool HE2.out.symm, k2⟩)
  subst hs
  by_cases hm : m1 = m2
  rotate_left
  · have q1 : (m1 == m2) = false := by simpa using hm
    have q2 : ((m1 : Int) == (m2 : Int)) = false := by simp; omega
    have q3 : ((m1 : Int) != (m2 : Int)) = true := by simp; omega
    have HE2 : Hid (R = false) := Lib.hid (by rw [HE.out, sameL_len (by omega)]; simp)
    clear HE ih
    go_enter Tryz.func161, Tryz.ntmps161
    go_wp2_with fail
    all_goals (go_ret; exact ⟨ret_bool HE2.out.symm, k2⟩)
  subst hm
  have HE2 : Hid (R = sameL (l.drop 0) (m.drop 0)) := Lib.hid (by rw [HE.out]; simp)
  clear HE
  have hB1 : Blk ((w.alloc (.cells #[.int .i64 k1, .int .i64 n1, .int .i64 x1, .string s1, .slice A1 m1 c1] 33)).alloc (.cells #[.int .i64 k1, .int .i64 n1, .int .i64 x1, .string s1, .slice A2 m1 c2] 33)) w.heap.size 33 #[.int .i64 k1, .int .i64 n1, .int .i64 x1, .string s1, .slice A1 m1 c1] := (Blk.new w _ _).alloc _
  have hB2 : Blk ((w.alloc (.cells #[.int .i64 k1, .int .i64 n1, .int .i64 x1, .string s1, .slice A1 m1 c1] 33)).alloc (.cells #[.int .i64 k1, .int .i64 n1, .int .i64 x1, .string s1, .slice A2 m1 c2] 33)) (w.heap.size + 1) 33 #[.int .i64 k1, .int .i64 n1, .int .i64 x1, .string s1, .slice A2 m1 c2] := by
    simpa using Blk.new (w.alloc (.cells #[.int .i64 k1, .int .i64 n1, .int .i64 x1, .string s1, .slice A1 m1 c1] 33)) 33 #[.int .i64 k1, .int .i64 n1, .int .i64 x1, .string s1, .slice A2 m1 c2]
  go_enter Tryz.func161, Tryz.ntmps161
  go_wp2_with fail
  go_loopg [5] m1 (fun f z wr => ∃ j : Nat, j + f = m1 ∧ z = .int .i64 j ∧ Hid (R = sameL (l.drop j) (m.drop j)) ∧ wr.cell? ⟨w.heap.size, 4, none⟩ = some (.slice A1 m1 c1) ∧ wr.cell? ⟨w.heap.size + 1, 4, none⟩ = some (.slice A2 m1 c2) ∧ w.heap.size + 2 ≤ wr.heap.size ∧ Below w.heap.size w wr)
  case atStart => exact ⟨0, by omega, rfl, HE2, hB1.cell 4, hB2.cell 4, by simp, k2⟩
  case round =>
    obtain ⟨j, hjf, rfl, hH, p4', r4', hz, hbr⟩ := hrel
    clear HE2 hB1 hB2 k2
    by_cases hlt : j < m1
    · obtain ⟨f, rfl⟩ : ∃ f, gk = f + 1 := ⟨gk - 1, by omega⟩
      obtain ⟨g1, o1, u1, hj1, hA1, hg1, hx1, hch1, hsub1⟩ := (ha.below hla hbr).elem hlt
      obtain ⟨g2, o2, u2, hj2, hA2, hg2, hx2, hch2, hsub2⟩ := (hb.below hlb hbr).elem hlt
      have hA1 : A1 = some ⟨g1, o1, none⟩ := hA1
      have hA2 : A2 = some ⟨g2, o2, none⟩ := hA2
      subst hA1 hA2
      have hG1 : g1 < w.heap.size := hla g1 hg1
      have hG2 : g2 < w.heap.size := hlb g2 hg2
      have hU1 : u1.lt w.heap.size := fun y hy => hla y (hsub1 y hy)
      have hU2 : u2.lt w.heap.size := fun y hy => hlb y (hsub2 y hy)
      have hS : SameHeld w w.heap.size (w.heap.size + 1) (.slice (some ⟨g1, o1, none⟩) m1 c1) (.slice (some ⟨g2, o2, none⟩) m1 c2) g1 (o1 + j * 5) l[j] u1 g2 (o2 + j * 5) m[j] u2 wr := ⟨⟨p4', r4'⟩, hx1, hx2, hch1, hch2, hbr⟩
      have hcall : ∀ w', SameHeld w w.heap.size (w.heap.size + 1) (.slice (some ⟨g1, o1, none⟩) m1 c1) (.slice (some ⟨g2, o2, none⟩) m1 c2) g1 (o1 + j * 5) l[j] u1 g2 (o2 + j * 5) m[j] u2 w' → Calls Tryz.prog 161 #[.agg #[.int .i64 l[j].k, .int .i64 l[j].n, .int .i64 l[j].x, .string l[j].s, .slice u1.A u1.n u1.c], .agg #[.int .i64 m[j].k, .int .i64 m[j].n, .int .i64 m[j].x, .string m[j].s, .slice u2.A u2.n u2.c]] w' fun r w2 => r = .returned (.bool (sameT l[j] m[j])) ∧ Below w'.heap.size w' w2 :=
        fun w' hs => ih l[j] (List.getElem_mem hj1) m[j] u1 u2 w' hs.2.2.2.1 hs.2.2.2.2.1 (hU1.mono hs.2.2.2.2.2.size) (hU2.mono hs.2.2.2.2.2.size)
      have hnext : ∀ w1 w2, SameHeld w w.heap.size (w.heap.size + 1) (.slice (some ⟨g1, o1, none⟩) m1 c1) (.slice (some ⟨g2, o2, none⟩) m1 c2) g1 (o1 + j * 5) l[j] u1 g2 (o2 + j * 5) m[j] u2 w1 → Below w1.heap.size w1 w2 → w.heap.size + 2 ≤ w1.heap.size → SameHeld w w.heap.size (w.heap.size + 1) (.slice (some ⟨g1, o1, none⟩) m1 c1) (.slice (some ⟨g2, o2, none⟩) m1 c2) g1 (o1 + j * 5) l[j] u1 g2 (o2 + j * 5) m[j] u2 w2 := fun w1 w2 h hb hz => same_next (B := w.heap.size + 2) (by omega) (by omega) hG1 hG2 hU1 hU2 hz hb h
      have hS0 : SameHeld w w.heap.size (w.heap.size + 1) (.slice (some ⟨g1, o1, none⟩) m1 c1) (.slice (some ⟨g2, o2, none⟩) m1 c2) g1 (o1 + j * 5) l[j] u1 g2 (o2 + j * 5) m[j] u2 wr.drew := hnext _ _ hS (Below.refl _ _).drew (by omega)
      have hS1 : SameHeld w w.heap.size (w.heap.size + 1) (.slice (some ⟨g1, o1, none⟩) m1 c1) (.slice (some ⟨g2, o2, none⟩) m1 c2) g1 (o1 + j * 5) l[j] u1 g2 (o2 + j * 5) m[j] u2 wr.drew ∧ w.heap.size + 2 ≤ wr.drew.heap.size := ⟨hS0, by simp; omega⟩
      have hh := hH.out
      rw [sameL_step hj1 hj2] at hh
      have HH : Hid (R = (sameT l[j] m[j] && sameL (l.drop (j + 1)) (m.drop (j + 1)))) := Lib.hid hh
      have HJ := Lib.hid hjf
      have hS2 : ∀ w1 w2, Below w1.heap.size w1 w2 → (SameHeld w w.heap.size (w.heap.size + 1) (.slice (some ⟨g1, o1, none⟩) m1 c1) (.slice (some ⟨g2, o2, none⟩) m1 c2) g1 (o1 + j * 5) l[j] u1 g2 (o2 + j * 5) m[j] u2 w1 ∧ w.heap.size + 2 ≤ w1.heap.size) → (SameHeld w w.heap.size (w.heap.size + 1) (.slice (some ⟨g1, o1, none⟩) m1 c1) (.slice (some ⟨g2, o2, none⟩) m1 c2) g1 (o1 + j * 5) l[j] u1 g2 (o2 + j * 5) m[j] u2 w2 ∧ w.heap.size + 2 ≤ w2.heap.size) := fun w1 w2 hb h => ⟨hnext _ _ h.1 hb h.2, Nat.le_trans h.2 hb.size⟩
      clear ih hh hH hjf hx1 hx2 hch1 hch2 hbr ha hb hS hnext hS0
      cases hq : sameT l[j] m[j] with
      | false =>
        rw [hq] at hcall HH
        clear hq
        go_wp2_with fail
        go_region_held3 (fun w' => SameHeld w w.heap.size (w.heap.size + 1) (.slice (some ⟨g1, o1, none⟩) m1 c1) (.slice (some ⟨g2, o2, none⟩) m1 c2) g1 (o1 + j * 5) l[j] u1 g2 (o2 + j * 5) m[j] u2 w' ∧ w.heap.size + 2 ≤ w'.heap.size)
          (first | exact hS1 | (refine hS2 _ _ hb2 ?_; assumption))
          (first | (go_at_call 161; refine (hcall _ (And.left (by assumption))).mono ?_; rintro r w2 ⟨rfl, hb2⟩))
        rename_i hHeld
        clear hcall hS1 hS2
        go_wp2
        go_ret
        exact ⟨ret_bool (by rw [HH.out]; rfl), hHeld.1.2.2.2.2.2⟩
      | true =>
        rw [hq] at hcall HH
        clear hq
        have HH2 : Hid (R = sameL (l.drop (j + 1)) (m.drop (j + 1))) := Lib.hid (by rw [HH.out]; rfl)
        clear HH
        go_wp2_with fail
        go_region_held3 (fun w' => SameHeld w w.heap.size (w.heap.size + 1) (.slice (some ⟨g1, o1, none⟩) m1 c1) (.slice (some ⟨g2, o2, none⟩) m1 c2) g1 (o1 + j * 5) l[j] u1 g2 (o2 + j * 5) m[j] u2 w' ∧ w.heap.size + 2 ≤ w'.heap.size)
          (first | exact hS1 | (refine hS2 _ _ hb2 ?_; assumption))
          (first | (go_at_call 161; refine (hcall _ (And.left (by assumption))).mono ?_; rintro r w2 ⟨rfl, hb2⟩))
        rename_i hHeld
        clear hcall hS1 hS2
        go_wp2
        go_roundg f
        case measure => have := HJ.out; omega
        case rel => exact ⟨j + 1, by have := HJ.out; omega, by go_num, HH2, hHeld.1.1.1, hHeld.1.1.2, hHeld.2, hHeld.1.2.2.2.2.2⟩
    · have hh := hH.out
      rw [sameL_end (by omega) (by omega)] at hh
      have HH := Lib.hid hh
      have hjn : ¬ ((j : Int) < (m1 : Int)) := by omega
      clear hh hH
      go_wp2_with fail
      go_ret
      exact ⟨ret_bool HH.out.symm, hbr⟩
end Go.Proofs.YtgddnpglgakkdaaGreatDoor
