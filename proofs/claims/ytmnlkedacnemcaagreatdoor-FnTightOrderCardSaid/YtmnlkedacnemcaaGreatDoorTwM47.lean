/- The names of a map (the program's): names, NamesOf. The plain law of sorting by packed names: what FnTightOrder asks. No function of the program in sight. FnTightOrder, plain: maps of names as they are drawn; what sorting them keeps. No function of the program in sight. Two trees compared, plain. No function of the program in sight. -/
import Derived.Test.YtmnlkedacnemcaaGreatDoorTwM18
import Derived.Test.YtmnlkedacnemcaaGreatDoorTwM8
import Derived.Deep.LoopGhost
import Derived.Test.YtmnlkedacnemcaaGreatDoorTwM42
import Derived.Test.YtmnlkedacnemcaaGreatDoorTwM37
import Derived.Test.YtmnlkedacnemcaaGreatDoorTwLessVal
set_option linter.unusedVariables false
set_option maxRecDepth 100000
set_option linter.unusedSimpArgs false
namespace Go.Proofs.YtmnlkedacnemcaaGreatDoor
open Go.RowKit

/-- append(row, t), t's list borrowed. -/
theorem app_ref {ops : Array Oper} {rest : List Oper} {o : Oper} {a : Act} {Q : Exit → Act → World → Prop} {w : World} (hgd : o.guard = none) (s x : Operand)
    (ho : o.op = .call { callee := .builtin .append, args := #[s, x], argTypes := #[24, 24] })
    {lo : Nat} {A : Option Addr} {n c : Nat} {l : List Tr} {es : List El} {t : Tr} {u : El} (h : NV w lo A n c l es) (hs : a.eval s = .slice A n c)
    {gx : Nat} (hgx : w.heap.size = gx) (hx : a.eval x = .slice (some ⟨gx, 0, none⟩) 1 1) (hl : LsAt w t.l u) (hu : ∀ g ∈ u.fp, g < lo) (hn : n + 1 ≤ 1099511627776) (hbase : lo ≤ w.heap.size)
    (hK : ∀ A' c' w', NV w' lo A' (n + 1) c' (l ++ [t]) (es ++ [u]) → Below lo w w' → wpList Tryz.prog ops Q rest (a.put o.dst (.slice A' (n + 1) c')) w') :
    wpList Tryz.prog ops Q (o :: rest) a (w.alloc (.cells #[.int .i64 t.k, .int .i64 t.n, .int .i64 t.x, .string t.s, .slice u.A u.n u.c] 26)) := by
  subst hgx
  obtain ⟨i0, hi, hz0, hz1, hz2⟩ := info_parts info_val
  have hb1 := Below.one w (.cells #[.int .i64 t.k, .int .i64 t.n, .int .i64 t.x, .string t.s, .slice u.A u.n u.c] 26)
  have h1 := h.below hbase hb1
  have hsl := Sl.lit w 26 #[.int .i64 t.k, .int .i64 t.n, .int .i64 t.x, .string t.s, .slice u.A u.n u.c] 5 1 rfl (by decide) (w.heap.size + 1) (Nat.lt_succ_self _)
  refine wpList_append_sl _ hgd s x 24 ho lo 26 i0 (.agg #[.int .i64 0, .int .i64 0, .int .i64 0, .string ByteArray.empty, .slice none 0 0]) 5 64 Tryz.underlying24 hi hz0 hz1 hz2 rfl (by decide) (.slice A n c) n (cellsOf l es) hs h1.row _ _ 1 1 _ hx hsl (fun v hv => ?_) (by unfold maxLen; omega) (by omega) (by simp; omega) ?_
  · simp only [List.mem_cons, List.not_mem_nil, or_false] at hv
    rcases hv with rfl | rfl | rfl | rfl | rfl <;> rfl
  intro A' c' w' h2 h3 h4
  have hg := gr_of (n' := n + 1) (c' := c') h3 h4
  have hbel : Below lo w w' := (hb1.mono hbase).trans (hg.fr.below (fun g hg2 => (row_lt h1.row hg2).1) (Nat.le_trans hbase hb1.size))
  refine hK A' c' w' ⟨?_, by simp [h.len], by simp [h.eslen], fun j t2 u2 a b => ?_, ?_⟩ hbel
  · rw [cellsOf_snoc l es t u (by rw [h.len, h.eslen])]; exact h2
  · rcases Nat.lt_or_ge j n with hj | hj
    · rw [List.getElem?_append_left (by rw [h.len]; exact hj)] at a
      rw [List.getElem?_append_left (by rw [h.eslen]; exact hj)] at b
      exact (h.kids j t2 u2 a b).below (fun g hg2 => h.low g (elFp_mem b hg2)) hbel
    · have hj2 : j = n := by have := (List.getElem?_eq_some_iff.1 a).1; simp [h.len] at this; omega
      subst hj2
      rw [List.getElem?_append_right (by rw [h.len]; exact Nat.le_refl _), h.len, Nat.sub_self] at a
      rw [List.getElem?_append_right (by rw [h.eslen]; exact Nat.le_refl _), h.eslen, Nat.sub_self] at b
      simp only [List.getElem?_cons_zero, Option.some.injEq] at a b
      subst a b
      exact hl.below hu hbel
  · intro g hg2
    rw [elFp_snoc] at hg2
    rcases List.mem_append.1 hg2 with h6 | h6
    · exact h.low g h6
    · exact hu g h6
/-- The list's trees at even places. -/
def evens : List Tr → List Tr
  | [] => []
  | [a] => [a]
  | a :: _ :: r => a :: evens r
def namesT (t : Tr) : List Tr := if t.k = 10 then evens t.l else []
theorem evens_get : ∀ (l : List Tr) (j : Nat), (evens l)[j]? = l[2 * j]?
  | [], j => by simp [evens]
  | [a], 0 => rfl
  | [a], j + 1 => by simp [evens]
  | a :: b :: r, 0 => rfl
  | a :: b :: r, j + 1 => by
    have := evens_get r j
    simp only [evens, List.getElem?_cons_succ, this]
    rw [show 2 * (j + 1) = 2 * j + 1 + 1 by omega]
    simp
theorem evens_len (l : List Tr) : (evens l).length = (l.length + 1) / 2 := by
  rcases Nat.lt_trichotomy (evens l).length ((l.length + 1) / 2) with h | h | h
  · have h1 := evens_get l (evens l).length
    rw [List.getElem?_eq_none (Nat.le_refl _)] at h1
    have := List.getElem?_eq_none_iff.1 h1.symm
    omega
  · exact h
  · have h1 := evens_get l ((l.length + 1) / 2)
    rw [List.getElem?_eq_getElem h] at h1
    have := (List.getElem?_eq_some_iff.1 h1.symm).1
    omega
theorem evens_take {l : List Tr} {j : Nat} (h : 2 * j < l.length) : (evens l).take (j + 1) = (evens l).take j ++ [l[2 * j]] := by
  have hl := evens_len l
  have hj : j < (evens l).length := by omega
  rw [List.take_succ_eq_append_getElem hj]
  have := evens_get l j
  rw [List.getElem?_eq_getElem hj, List.getElem?_eq_getElem h] at this
  rw [Option.some.inj this]
theorem evens_mem {l : List Tr} {u : Tr} (h : u ∈ evens l) : u ∈ l := by
  obtain ⟨j, hj, rfl⟩ := List.mem_iff_getElem.1 h
  have h1 := evens_get l j
  rw [List.getElem?_eq_getElem hj] at h1
  exact List.mem_of_getElem? h1.symm
theorem names_kid {t u : Tr} (h : u ∈ namesT t) : u ∈ t.l := by
  unfold namesT at h
  split at h
  · exact evens_mem h
  · cases h
theorem names_len (t : Tr) : (namesT t).length ≤ t.l.length := by
  unfold namesT
  split
  · rw [evens_len]; omega
  · simp
def NamesAt (w w' : World) (l : List Tr) (r : Ending) : Prop := ∃ e : El, r = .returned (.slice e.A e.n e.c) ∧ LsAt w' l e ∧ e.lt w'.heap.size ∧ Below w.heap.size w w'
set_option maxHeartbeats 2000000 in
theorem i_names (t : Tr) (e : El) (w : World) (hm : t.sz ≤ 1048576) (hl : LsAt w t.l e) (hel : e.lt w.heap.size) :
    Calls Tryz.prog 31 #[trV t e] w fun r w' => NamesAt w w' (namesT t) r := by
  have hlen : t.l.length ≤ 1048576 := by have h1 := t.sz_eq; have h2 := szT_le t.l 0; omega
  obtain ⟨k, n, x, s, l⟩ := t
  obtain ⟨eA, en, ec, efp⟩ := e
  simp only at hl hlen
  have hen : l.length = en := hl.len
  rw [hen] at hlen
  have k1 := Below.one w (.cells #[.int .i64 k, .int .i64 n, .int .i64 x, .string s, .slice eA en ec] 26)
  have k2 := Below.two w (.cells #[.int .i64 k, .int .i64 n, .int .i64 x, .string s, .slice eA en ec] 26) (.cells #[] 26)
  have hB : Blk ((w.alloc (.cells #[.int .i64 k, .int .i64 n, .int .i64 x, .string s, .slice eA en ec] 26)).alloc (.cells #[] 26)) w.heap.size 26 #[.int .i64 k, .int .i64 n, .int .i64 x, .string s, .slice eA en ec] := (Blk.new w _ _).alloc _
  have hN : NV ((w.alloc (.cells #[.int .i64 k, .int .i64 n, .int .i64 x, .string s, .slice eA en ec] 26)).alloc (.cells #[] 26)) (w.heap.size + 1) (some ⟨w.heap.size + 1, 0, none⟩) 0 0 [] [] := NV.new _ _ (by simp)
  by_cases hk : k = 10
  rotate_left
  · have q1 : (k == 10) = false := by simpa using hk
    have hn : namesT ⟨k, n, x, s, l⟩ = [] := by unfold namesT; rw [if_neg hk]
    rw [hn]
    obtain ⟨fp, f1, f2⟩ := hN.list (by simp)
    go_enter Tryz.func31, Tryz.ntmps31
    go_wp2_with fail
    go_ret
    exact ⟨⟨_, _, _, fp⟩, rfl, f1, f2, k2⟩
  subst hk
  have hn : namesT ⟨10, n, x, s, l⟩ = evens l := rfl
  rw [hn]
  clear hn
  go_enter Tryz.func31, Tryz.ntmps31
  go_wp2_with fail
  go_loopg [3, 4] en (fun f v3 v4 wr => ∃ (j c' : Nat) (A' : Option Addr) (es : List El), v4 = .int .i64 (2 * j : Nat) ∧ 2 * j ≤ en + 1 ∧ en - 2 * j ≤ f ∧ v3 = .slice A' j c' ∧ NV wr (w.heap.size + 1) A' j c' ((evens l).take j) es ∧ Blk wr w.heap.size 26 #[.int .i64 10, .int .i64 n, .int .i64 x, .string s, .slice eA en ec] ∧ w.heap.size + 1 ≤ wr.heap.size ∧ Below w.heap.size w wr)
  case atStart => exact ⟨0, 0, _, [], rfl, by omega, by omega, rfl, by rw [List.take_zero]; exact hN, hB, by simp, k2⟩
  case round =>
    obtain ⟨j, c', A', es, rfl, hj2, hjf, rfl, hR, hBr, hz, hb⟩ := hrel
    clear hN hB k1 k2
    have p4 := hBr.cell 4
    by_cases hlt : 2 * j < en
    · obtain ⟨f, rfl⟩ : ∃ f, gk = f + 1 := ⟨gk - 1, by omega⟩
      obtain ⟨g, o, u, hj, hAe, hgm, ⟨c0, c1, c2, c3, c4⟩, hch, hsub⟩ := (hl.below hel hb).elem hlt
      have hAe : eA = some ⟨g, o, none⟩ := hAe
      subst hAe
      have hul : ∀ y ∈ u.fp, y < w.heap.size + 1 := fun y hy => Nat.lt_succ_of_lt (hel y (hsub y hy))
      have htk := evens_take (l := l) (j := j) (by omega)
      have HT := Lib.hid htk
      clear htk
      go_wp2_with (at_builtin; refine app_ref rfl _ _ rfl hR rfl rfl rfl hch hul (by omega) hz ?_; intro A6 c6 w6 h6 hb6)
      have hB6 := hBr.below hb6 (Nat.lt_succ_self _)
      have hb6b := hb.trans (hb6.mono (Nat.le_succ _))
      have hz6 : w.heap.size + 1 ≤ w6.heap.size := Nat.le_trans hz hb6.size
      clear hR hch hb hBr hb6 p4 c0 c1 c2 c3 c4
      go_roundg f
      case measure => omega
      case rel => exact ⟨j + 1, c6, A6, _, by go_num, by omega, by omega, rfl, by rw [HT.out]; exact h6, hB6, hz6, hb6b⟩
    · have hje : (evens l).take j = evens l := List.take_of_length_le (by rw [evens_len]; omega)
      rw [hje] at hR
      obtain ⟨fp, f1, f2⟩ := hR.list hz
      have hlt2 : ¬ (((2 * j : Nat) : Int) < (en : Int)) := by omega
      clear hje
      go_wp2_with fail
      go_ret
      exact ⟨⟨_, _, _, fp⟩, rfl, f1, f2, hb⟩
theorem i_copyVals (l : List Tr) (e : El) (w : World) (hl : LsAt w l e) (hel : e.lt w.heap.size) (hm : szL l ≤ 1048576) :
    Calls Tryz.prog 30 #[.slice e.A e.n e.c] w fun r w' => ∃ u : El, r = .returned (.slice u.A u.n u.c) ∧ LsAt w' l u ∧ Own w' w.heap.size u.fp ∧ Below w.heap.size w w' := by
  have hc := i_copyVal ⟨0, 0, 0, ⟨#[]⟩, l⟩ e w hl hel (by rw [Tr.sz_eq]; have e0 : (⟨#[]⟩ : ByteArray).size = 0 := rfl; show (⟨#[]⟩ : ByteArray).size + szL l ≤ _; omega)
  go_enter Tryz.func30, Tryz.ntmps30
  go_wp2_with fail
  refine hc.mono ?_; rintro r w1 ⟨u, hr, h1, h2, h3⟩
  replace hr : r = .returned (.agg #[.int .i64 0, .int .i64 0, .int .i64 0, .string ⟨#[]⟩, .slice u.A u.n u.c]) := hr
  subst hr
  have hf : ∀ w', Sem.run Tryz.prog (Instr.field 26 (.agg #[.int .i64 0, .int .i64 0, .int .i64 0, .string ⟨#[]⟩, .slice u.A u.n u.c]) 4) w' = .ok (.slice u.A u.n u.c) w' := fun w' => by kernel_rfl
  go_wp2_with fail
  go_ret
  exact ⟨u, rfl, h1, h2, h3⟩
theorem i_NamesOf (t : Tr) (e : El) (w : World) (hm : t.sz ≤ 1048576) (hl : LsAt w t.l e) (hel : e.lt w.heap.size) (hz : szL (namesT t) ≤ 1048576) :
    Calls Tryz.prog 15 #[trV t e] w fun r w' => NamesAt w w' (namesT t) r := by
  have k1 := Below.one w (.cells (valCells t e) 26)
  have BX := Blk.new w 26 (valCells t e)
  have hn := i_names t e (w.alloc (.cells (valCells t e) 26)) hm (hl.below hel k1) (hel.mono k1.size)
  obtain ⟨p0, p1, p2, p3, p4⟩ := BX.boxV
  generalize namesT t = N at hn hz ⊢
  go_enter Tryz.func15, Tryz.ntmps15
  go_wp2_with fail
  refine hn.mono ?_; rintro r w1 ⟨e1, rfl, hl1, ht1, hb1⟩
  go_wp2_with fail
  refine (i_copyVals N e1 w1 hl1 ht1 hz).mono ?_; rintro r w2 ⟨u, rfl, h1, h2, h3⟩
  go_wp2_with fail
  go_ret
  exact ⟨u, rfl, h1, fun x hx => h2.lt hx, (k1.up hb1).up h3⟩
end Go.Proofs.YtmnlkedacnemcaaGreatDoor

namespace Go.Proofs.YtmnlkedacnemcaaGreatDoor
open Go.RowKit

theorem prs_flat : ∀ S : List (Tr × Tr), prs (flatP S) = S
  | [] => rfl
  | x :: S => by simp only [flatP, prs]; rw [prs_flat S]
theorem prs_len : ∀ l : List Tr, (prs l).length = l.length / 2
  | [] => rfl
  | [_] => by simp [prs]
  | a :: b :: r => by simp only [prs, List.length_cons, prs_len r]; omega
theorem prs_mem : ∀ (l : List Tr) (x : Tr × Tr), x ∈ prs l → x.1 ∈ l ∧ x.2 ∈ l
  | [], x, h => by simp [prs] at h
  | [_], x, h => by simp [prs] at h
  | a :: b :: r, x, h => by
    simp only [prs, List.mem_cons] at h
    rcases h with rfl | h
    · simp
    · have := prs_mem r x h; simp [this.1, this.2]
theorem evens_flat : ∀ S : List (Tr × Tr), evens (flatP S) = S.map Prod.fst
  | [] => rfl
  | x :: S => by simp only [flatP, evens, List.map_cons]; rw [evens_flat S]
theorem sortT_is {t : Tr} (hc : t.k = 10 ∧ t.l.length % 2 = 0) : sortT t = ⟨t.k, t.n, t.x, t.s, flatP (accP lessT (prs t.l) (prs t.l).length)⟩ := by
  unfold sortT
  rw [if_pos hc]
  have h := accG_flat (prs t.l) (prs t.l).length (Nat.le_refl _)
  rw [flat_prs _ hc.2, prs_len] at h
  rw [h, prs_len]
theorem sortV_is {t : Tr} (hc : t.k = 10 ∧ t.l.length % 2 = 0) : sortV t = ⟨t.k, t.n, t.x, t.s, flatP (accP lessV (prs t.l) (prs t.l).length)⟩ := by
  unfold sortV
  rw [if_pos hc]
  have h := accV_flat (prs t.l) (prs t.l).length (Nat.le_refl _)
  rw [flat_prs _ hc.2, prs_len] at h
  rw [h, prs_len]
theorem sortT_no {t : Tr} (hc : ¬ (t.k = 10 ∧ t.l.length % 2 = 0)) : sortT t = t := by unfold sortT; rw [if_neg hc]
/-- Sorted: no name stands behind a greater one; sorting again changes nothing; sorting by values gives what it gave. -/
theorem tight_plain {t : Tr} (hc : t.k = 10 ∧ t.l.length % 2 = 0) (hl : ∀ u ∈ t.l, u.l = []) :
    (∀ i a b, (namesT (sortT t))[i]? = some a → (namesT (sortT t))[i + 1]? = some b → lessT b a = false) ∧ sortT (sortT t) = sortT t ∧ sortV (sortT t) = sortV t ∧ (sortT t).l.length = t.l.length ∧ (sortT t).k = t.k := by
  have hQ := accP_len lessT (prs t.l) (prs t.l).length (Nat.le_refl _)
  have hA := accP_adj lessT_asym (prs t.l) (prs t.l).length (Nat.le_refl _)
  have hss := sort_sort (lt1 := lessT) (lt2 := lessV) (N := fun a : Tr => a.l = []) lessT_self lessV_self lessV_asym (fun a b ha hb => lessV_total a b ha hb) (fun a b c _ _ _ => lessV_trans a b c) (prs t.l) (fun x hx => hl _ (prs_mem _ x hx).1)
  rw [sortT_is hc]
  have hlen := prs_len t.l
  generalize accP lessT (prs t.l) (prs t.l).length = S at hQ hA hss
  have hfl := flat_len S
  have hc2 : (⟨t.k, t.n, t.x, t.s, flatP S⟩ : Tr).k = 10 ∧ (⟨t.k, t.n, t.x, t.s, flatP S⟩ : Tr).l.length % 2 = 0 := ⟨hc.1, by show (flatP S).length % 2 = 0; omega⟩
  have hn : namesT ⟨t.k, t.n, t.x, t.s, flatP S⟩ = S.map Prod.fst := by unfold namesT; rw [if_pos hc.1]; exact evens_flat S
  refine ⟨?_, ?_, ?_, by show (flatP S).length = _; have := hc.2; omega, rfl⟩
  · rw [hn]
    intro i a b ha hb
    rw [List.getElem?_map] at ha hb
    obtain ⟨x, hx, rfl⟩ := Option.map_eq_some_iff.1 ha
    obtain ⟨y, hy, rfl⟩ := Option.map_eq_some_iff.1 hb
    exact hA i x y hx hy
  · rw [sortT_is hc2]
    show (⟨t.k, t.n, t.x, t.s, flatP (accP lessT (prs (flatP S)) (prs (flatP S)).length)⟩ : Tr) = _
    rw [prs_flat, accP_self hA _ (Nat.le_refl _), List.take_of_length_le (Nat.le_refl _)]
  · rw [sortV_is hc2, sortV_is hc]
    show (⟨t.k, t.n, t.x, t.s, flatP (accP lessV (prs (flatP S)) (prs (flatP S)).length)⟩ : Tr) = _
    rw [prs_flat, hQ, hss]
end Go.Proofs.YtmnlkedacnemcaaGreatDoor

namespace Go.Proofs.YtmnlkedacnemcaaGreatDoor
open Go.RowKit

theorem NameOk.nm {u : Tr} (h : NameOk u) : NmOk u := ⟨h.1.1, h.2⟩
theorem NameOk.wf {u : Tr} (h : NameOk u) : u.wf := by
  obtain ⟨⟨h1, h2, h3, h4, h5⟩, h6⟩ := h
  refine (Tr.wf_iff u).2 ⟨by omega, h2, h3, by unfold maxLen; omega, ?_⟩
  rw [h1]; intro x hx; cases hx
theorem NameOk.sz {u : Tr} (h : NameOk u) : u.sz ≤ 1000 := by
  obtain ⟨⟨h1, h2, h3, h4, h5⟩, h6⟩ := h
  rw [Tr.sz_eq, h1]
  have : szL [] = 0 := rfl
  omega
theorem szL_names : ∀ l : List Tr, (∀ u ∈ l, NameOk u) → szL l ≤ l.length * 1001
  | [], _ => Nat.le_refl _
  | a :: l, h => by
    have ih := szL_names l fun u hu => h u (List.mem_cons_of_mem _ hu)
    have h1 := (h a List.mem_cons_self).sz
    unfold szL at *
    simp only [List.map_cons, List.sum_cons, List.length_cons]
    omega
theorem NmT.wf {t : Tr} (h : NmT t) : t.wf := by
  obtain ⟨h1, h2, h3, h4, h5, h6⟩ := h
  refine (Tr.wf_iff t).2 ⟨by omega, by omega, by omega, by rw [h3]; exact Nat.zero_le _, fun u hu => (h6 u hu).wf⟩
theorem NmT.sz {t : Tr} (h : NmT t) : t.sz ≤ 1048576 := by
  obtain ⟨h1, h2, h3, h4, h5, h6⟩ := h
  have h7 := szL_names t.l h6
  rw [Tr.sz_eq, h3]
  have : (⟨#[]⟩ : ByteArray).size = 0 := rfl
  omega
theorem flatP_mem : ∀ (S : List (Tr × Tr)) (u : Tr), u ∈ flatP S → ∃ x ∈ S, u = x.1 ∨ u = x.2
  | [], u, h => by cases h
  | x :: S, u, h => by
    simp only [flatP, List.mem_cons] at h
    rcases h with rfl | rfl | h
    · exact ⟨x, List.mem_cons_self, .inl rfl⟩
    · exact ⟨x, List.mem_cons_self, .inr rfl⟩
    · obtain ⟨y, hy, h2⟩ := flatP_mem S u h
      exact ⟨y, List.mem_cons_of_mem _ hy, h2⟩
theorem sortT_mem {t u : Tr} (h : u ∈ (sortT t).l) : u ∈ t.l := by
  by_cases hc : t.k = 10 ∧ t.l.length % 2 = 0
  · rw [sortT_is hc] at h
    obtain ⟨x, hx, h2⟩ := flatP_mem _ u h
    have h3 := prs_mem _ x (accP_mem lessT _ _ (Nat.le_refl _) x hx)
    rcases h2 with rfl | rfl
    · exact h3.1
    · exact h3.2
  · rw [sortT_no hc] at h; exact h
theorem sortT_same (t : Tr) : (sortT t).k = t.k ∧ (sortT t).n = t.n ∧ (sortT t).x = t.x ∧ (sortT t).s = t.s := by
  unfold sortT; split <;> simp
theorem sortT_len (t : Tr) : (sortT t).l.length = t.l.length := by
  by_cases hc : t.k = 10 ∧ t.l.length % 2 = 0
  · rw [sortT_is hc]
    show (flatP _).length = _
    rw [flat_len, accP_len lessT _ _ (Nat.le_refl _), prs_len]
    omega
  · rw [sortT_no hc]
theorem NmT.sort {t : Tr} (h : NmT t) : NmT (sortT t) := by
  obtain ⟨h1, h2, h3, h4, h5, h6⟩ := h
  obtain ⟨s1, s2, s3, s4⟩ := sortT_same t
  exact ⟨by rw [s2]; exact h1, by rw [s3]; exact h2, by rw [s4]; exact h3, by rw [s1]; exact h4, by rw [sortT_len]; exact h5, fun u hu => h6 u (sortT_mem hu)⟩
theorem NmT.nm {t : Tr} (h : NmT t) : ∀ u ∈ t.l, NmOk u := fun u hu => (h.2.2.2.2.2 u hu).nm
theorem NmT.nil {t : Tr} (h : NmT t) : ∀ u ∈ t.l, u.l = [] := fun u hu => (h.2.2.2.2.2 u hu).1.1
theorem NmT.names {t : Tr} (h : NmT t) : (∀ u ∈ namesT t, NameOk u) ∧ (namesT t).length ≤ 9 ∧ szL (namesT t) ≤ 1048576 := by
  have h1 : ∀ u ∈ namesT t, NameOk u := fun u hu => h.2.2.2.2.2 u (names_kid hu)
  have h2 := names_len t
  have h3 := h.2.2.2.2.1
  have h4 := szL_names _ h1
  exact ⟨h1, by omega, by omega⟩
/-- The whole plain law: sorting twice, the other sort, the sorted names. -/
theorem tight_law {t : Tr} (h : NmT t) (hc : t.k = 10 ∧ t.l.length % 2 = 0) :
    ∃ L, namesT (sortT t) = L ∧ (∀ j (hj : j + 1 < L.length), lessT L[j + 1] L[j] = false) ∧ sortT (sortT t) = sortT t ∧ sortV (sortT t) = sortV t ∧ (∀ u ∈ L, NameOk u) ∧ L.length ≤ 9 := by
  obtain ⟨p1, p2, p3, p4, p5⟩ := tight_plain hc h.nil
  have hn := h.sort.names
  exact ⟨_, rfl, fun j hj => p1 j _ _ (List.getElem?_eq_getElem (Nat.lt_of_succ_lt hj)) (List.getElem?_eq_getElem hj), p2, p3, hn.1, hn.2.1⟩
end Go.Proofs.YtmnlkedacnemcaaGreatDoor

namespace Go.Proofs.YtmnlkedacnemcaaGreatDoor
open Go.RowKit

/-- The same tree. -/
noncomputable def sameT (a b : Tr) : Bool := @decide (a = b) (Classical.propDecidable _)
noncomputable def sameL (a b : List Tr) : Bool := @decide (a = b) (Classical.propDecidable _)
theorem sameT_iff {a b : Tr} : sameT a b = true ↔ a = b := by unfold sameT; simp
theorem sameL_iff {a b : List Tr} : sameL a b = true ↔ a = b := by unfold sameL; simp
theorem sameT_eq (a b : Tr) : sameT a b = ((a.k == b.k) && ((a.n == b.n) && ((a.x == b.x) && (decide (a.s = b.s) && sameL a.l b.l)))) := by
  rw [Bool.eq_iff_iff, sameT_iff]
  simp only [Bool.and_eq_true, beq_iff_eq, decide_eq_true_eq, sameL_iff]
  obtain ⟨k, n, x, s, l⟩ := a
  obtain ⟨k2, n2, x2, s2, l2⟩ := b
  simp
theorem sameL_step {l m : List Tr} {j : Nat} (h1 : j < l.length) (h2 : j < m.length) : sameL (l.drop j) (m.drop j) = (sameT l[j] m[j] && sameL (l.drop (j + 1)) (m.drop (j + 1))) := by
  rw [List.drop_eq_getElem_cons h1, List.drop_eq_getElem_cons h2, Bool.eq_iff_iff]
  simp only [Bool.and_eq_true, sameL_iff, sameT_iff, List.cons.injEq]
theorem sameL_len {l m : List Tr} (h : l.length ≠ m.length) : sameL l m = false := by
  rw [Bool.eq_false_iff]
  intro h2
  exact h (congrArg List.length (sameL_iff.1 h2))
theorem sameL_end {l m : List Tr} {j : Nat} (h1 : l.length ≤ j) (h2 : m.length ≤ j) : sameL (l.drop j) (m.drop j) = true := by
  rw [List.drop_eq_nil_of_le h1, List.drop_eq_nil_of_le h2]; exact sameL_iff.2 rfl
theorem toList_inj {a b : ByteArray} (h : a.toList = b.toList) : a = b := by
  rw [ByteArray.toList_eq, ByteArray.toList_eq] at h
  cases a; cases b
  simp only [ByteArray.mk.injEq]
  exact Array.toList_inj.1 h
end Go.Proofs.YtmnlkedacnemcaaGreatDoor
