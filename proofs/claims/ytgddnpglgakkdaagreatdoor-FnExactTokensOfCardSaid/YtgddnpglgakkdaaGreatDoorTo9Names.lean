/- The names of a map: a row whose trees' lists are borrowed; names (impl). -/
import Derived.Test.YtgddnpglgakkdaaGreatDoorTo9M38
set_option linter.unusedVariables false
set_option maxRecDepth 100000
set_option linter.unusedSimpArgs false
namespace Go.Proofs.YtgddnpglgakkdaaGreatDoor
open Go.RowKit

/-- A row of trees of the call's own; the trees' lists lie below lo. -/
structure NV (w : World) (lo : Nat) (A : Option Addr) (n c : Nat) (l : List Tr) (es : List El) : Prop where
  row : w.ownsRow lo 33 5 (.slice A n c) n (cellsOf l es)
  len : l.length = n
  eslen : es.length = n
  kids : ∀ (j : Nat) (t : Tr) (u : El), l[j]? = some t → es[j]? = some u → LsAt w t.l u
  low : ∀ g ∈ elFp es, g < lo
theorem NV.nil_ (w : World) (lo : Nat) : NV w lo none 0 0 [] [] := ⟨World.ownsRow_nil _ _ _ _, rfl, rfl, fun j t u h => by simp at h, fun g hg => by simp [elFp] at hg⟩
theorem NV.new (w : World) (g : Nat) (hg : w.heap.size = g) : NV (w.alloc (.cells #[] 33)) g (some ⟨g, 0, none⟩) 0 0 [] [] := by
  subst hg
  exact ⟨World.ownsRow_lit w #[] 0 (Nat.le_refl _) (by decide) rfl, rfl, rfl, fun j t u h => by simp at h, fun g hg => by simp [elFp] at hg⟩
theorem NV.below {w w' : World} {lo n c : Nat} {A : Option Addr} {l : List Tr} {es : List El} (h : NV w lo A n c l es) (hlo : lo ≤ w.heap.size) (hb : Below w.heap.size w w') : NV w' lo A n c l es :=
  ⟨row_heap h.row fun g hg => hb.block g (row_lt h.row hg).2, h.len, h.eslen, fun j t u a b => (h.kids j t u a b).below (fun g hg => Nat.lt_of_lt_of_le (h.low g (elFp_mem b hg)) hlo) hb, h.low⟩
theorem NV.cap {w : World} {lo n c : Nat} {A : Option Addr} {l : List Tr} {es : List El} (h : NV w lo A n c l es) : n ≤ c ∧ c ≤ maxLen := by
  rcases h.row.2 with ⟨e, e2⟩ | ⟨g, cap, cur, e, _, _, h3, h4, _⟩
  · simp only [Value.slice.injEq] at e; omega
  · simp only [Value.slice.injEq] at e; omega
/-- The row as a list. -/
theorem NV.list {w : World} {lo n c : Nat} {A : Option Addr} {l : List Tr} {es : List El} (h : NV w lo A n c l es) (hlo : lo ≤ w.heap.size) : ∃ fp, LsAt w l ⟨A, n, c, fp⟩ ∧ ∀ g ∈ fp, g < w.heap.size := by
  obtain ⟨hc, hm⟩ := h.cap
  rcases Nat.eq_zero_or_pos n with h0 | h0
  · subst h0
    obtain rfl := List.eq_nil_of_length_eq_zero h.len
    exact ⟨[], (lsAt_iff _ _).2 ⟨rfl, hc, hm, [], rfl, fun _ => rfl, fun h => absurd h (Nat.lt_irrefl 0), fun j t u h => by simp at h⟩, fun g hg => by cases hg⟩
  · rcases h.row.2 with ⟨e, _⟩ | ⟨g, cap, cur, e, hb, hh, _⟩
    · simp only [Value.slice.injEq] at e; omega
    · simp only [Value.slice.injEq] at e
      have hA : A = some ⟨g, 0, none⟩ := e.1
      have hg : g ∈ blkOf A := by rw [hA]; simp [blkOf]
      have hcl := h.row.cells (g := g) (by rw [hA]; rfl)
      have ea : ∀ k, (⟨g, 0, none⟩ : Addr).add k = ⟨g, 0 + k, none⟩ := fun k => by unfold Addr.add; split <;> simp_all
      have f := fun k v hv => by have := hcl k v hv; rw [ea] at this; exact this
      refine ⟨g :: elFp es, (lsAt_iff _ _).2 ⟨h.len, hc, hm, es, h.eslen, fun h => absurd h (Nat.ne_of_gt h0), fun _ => ⟨g, 0, hA, rfl, fun j t u a b => ?_⟩, fun j t u a b => (trAt_ls _ _).2 (h.kids j t u a b)⟩, fun x hx => ?_⟩
      · obtain ⟨a0, a1, a2, a3, a4⟩ := cellsOf_get l es j t u a b (by rw [h.len, h.eslen])
        exact ⟨f _ _ a0, f _ _ a1, f _ _ a2, f _ _ a3, f _ _ a4⟩
      · rcases List.mem_cons.1 hx with rfl | hx
        · exact (row_lt h.row hg).2
        · exact Nat.lt_of_lt_of_le (h.low x hx) hlo
/-- append(row, t), t's list borrowed. -/
theorem app_ref {ops : Array Oper} {rest : List Oper} {o : Oper} {a : Act} {Q : Exit → Act → World → Prop} {w : World} (hgd : o.guard = none) (s x : Operand)
    (ho : o.op = .call { callee := .builtin .append, args := #[s, x], argTypes := #[31, 31] })
    {lo : Nat} {A : Option Addr} {n c : Nat} {l : List Tr} {es : List El} {t : Tr} {u : El} (h : NV w lo A n c l es) (hs : a.eval s = .slice A n c)
    {gx : Nat} (hgx : w.heap.size = gx) (hx : a.eval x = .slice (some ⟨gx, 0, none⟩) 1 1) (hl : LsAt w t.l u) (hu : ∀ g ∈ u.fp, g < lo) (hn : n + 1 ≤ 1099511627776) (hbase : lo ≤ w.heap.size)
    (hK : ∀ A' c' w', NV w' lo A' (n + 1) c' (l ++ [t]) (es ++ [u]) → Below lo w w' → wpList Tryz.prog ops Q rest (a.put o.dst (.slice A' (n + 1) c')) w') :
    wpList Tryz.prog ops Q (o :: rest) a (w.alloc (.cells #[.int .i64 t.k, .int .i64 t.n, .int .i64 t.x, .string t.s, .slice u.A u.n u.c] 33)) := by
  subst hgx
  obtain ⟨i0, hi, hz0, hz1, hz2⟩ := info_parts info_val
  have hb1 := Below.one w (.cells #[.int .i64 t.k, .int .i64 t.n, .int .i64 t.x, .string t.s, .slice u.A u.n u.c] 33)
  have h1 := h.below hbase hb1
  have hsl := Sl.lit w 33 #[.int .i64 t.k, .int .i64 t.n, .int .i64 t.x, .string t.s, .slice u.A u.n u.c] 5 1 rfl (by decide) (w.heap.size + 1) (Nat.lt_succ_self _)
  refine wpList_append_sl _ hgd s x 31 ho lo 33 i0 (.agg #[.int .i64 0, .int .i64 0, .int .i64 0, .string ByteArray.empty, .slice none 0 0]) 5 64 Tryz.underlying31 hi hz0 hz1 hz2 rfl (by decide) (.slice A n c) n (cellsOf l es) hs h1.row _ _ 1 1 _ hx hsl (fun v hv => ?_) (by unfold maxLen; omega) (by omega) (by simp; omega) ?_
  · simp only [List.mem_cons, List.not_mem_nil, or_false] at hv
    rcases hv with rfl | rfl | rfl | rfl | rfl <;> rfl
  intro A' c' w' h2 h3 h4
  have hg := gr_of (n' := n + 1) (c' := c') h3 h4
  have hbel : Below lo w w' := (hb1.mono hbase).trans (hg.fr.below (fun g hg2 => (row_lt h1.row hg2).1) (Nat.le_trans hbase hb1.size))
  refine hK A' c' w' ⟨?_, by simp [h.len], by simp [h.eslen], fun j t2 u2 a b => ?_, ?_⟩ hbel
  · rw [cellsOf_snoc l es t u (by rw [h.len, h.eslen])]; exact h2
  · rcases Nat.lt_or_ge j n with hj | hj
    · rw [List.getElem?_append_left (by rw [h.len]; exact hj)] at a
      rw [List.getElem?_append_left (by rw [h.eslen]; exact hj)] at b
      exact (h.kids j t2 u2 a b).below (fun g hg2 => h.low g (elFp_mem b hg2)) hbel
    · have hj2 : j = n := by have := (List.getElem?_eq_some_iff.1 a).1; simp [h.len] at this; omega
      subst hj2
      rw [List.getElem?_append_right (by rw [h.len]; exact Nat.le_refl _), h.len, Nat.sub_self] at a
      rw [List.getElem?_append_right (by rw [h.eslen]; exact Nat.le_refl _), h.eslen, Nat.sub_self] at b
      simp only [List.getElem?_cons_zero, Option.some.injEq] at a b
      subst a b
      exact hl.below hu hbel
  · intro g hg2
    rw [elFp_snoc] at hg2
    rcases List.mem_append.1 hg2 with h6 | h6
    · exact h.low g h6
    · exact hu g h6
/-- The list's trees at even places. -/
def evens : List Tr → List Tr
  | [] => []
  | [a] => [a]
  | a :: _ :: r => a :: evens r
def namesT (t : Tr) : List Tr := if t.k = 10 then evens t.l else []
theorem evens_get : ∀ (l : List Tr) (j : Nat), (evens l)[j]? = l[2 * j]?
  | [], j => by simp [evens]
  | [a], 0 => rfl
  | [a], j + 1 => by simp [evens]
  | a :: b :: r, 0 => rfl
  | a :: b :: r, j + 1 => by
    have := evens_get r j
    simp only [evens, List.getElem?_cons_succ, this]
    rw [show 2 * (j + 1) = 2 * j + 1 + 1 by omega]
    simp
theorem evens_len (l : List Tr) : (evens l).length = (l.length + 1) / 2 := by
  rcases Nat.lt_trichotomy (evens l).length ((l.length + 1) / 2) with h | h | h
  · have h1 := evens_get l (evens l).length
    rw [List.getElem?_eq_none (Nat.le_refl _)] at h1
    have := List.getElem?_eq_none_iff.1 h1.symm
    omega
  · exact h
  · have h1 := evens_get l ((l.length + 1) / 2)
    rw [List.getElem?_eq_getElem h] at h1
    have := (List.getElem?_eq_some_iff.1 h1.symm).1
    omega
theorem evens_take {l : List Tr} {j : Nat} (h : 2 * j < l.length) : (evens l).take (j + 1) = (evens l).take j ++ [l[2 * j]] := by
  have hl := evens_len l
  have hj : j < (evens l).length := by omega
  rw [List.take_succ_eq_append_getElem hj]
  have := evens_get l j
  rw [List.getElem?_eq_getElem hj, List.getElem?_eq_getElem h] at this
  rw [Option.some.inj this]
theorem evens_mem {l : List Tr} {u : Tr} (h : u ∈ evens l) : u ∈ l := by
  obtain ⟨j, hj, rfl⟩ := List.mem_iff_getElem.1 h
  have h1 := evens_get l j
  rw [List.getElem?_eq_getElem hj] at h1
  exact List.mem_of_getElem? h1.symm
theorem names_kid {t u : Tr} (h : u ∈ namesT t) : u ∈ t.l := by
  unfold namesT at h
  split at h
  · exact evens_mem h
  · cases h
theorem names_len (t : Tr) : (namesT t).length ≤ t.l.length := by
  unfold namesT
  split
  · rw [evens_len]; omega
  · simp
def NamesAt (w w' : World) (l : List Tr) (r : Ending) : Prop := ∃ e : El, r = .returned (.slice e.A e.n e.c) ∧ LsAt w' l e ∧ e.lt w'.heap.size ∧ Below w.heap.size w w'
set_option maxHeartbeats 2000000 in
theorem i_names (t : Tr) (e : El) (w : World) (hF : Fit t) (hl : LsAt w t.l e) (hel : e.lt w.heap.size) :
    Calls Tryz.prog 114 #[trV t e] w fun r w' => NamesAt w w' (namesT t) r := by
  have hlen := hF.len
  obtain ⟨k, n, x, s, l⟩ := t
  obtain ⟨eA, en, ec, efp⟩ := e
  simp only at hl hlen
  have hen : l.length = en := hl.len
  rw [hen] at hlen
  have k1 := Below.one w (.cells #[.int .i64 k, .int .i64 n, .int .i64 x, .string s, .slice eA en ec] 33)
  have k2 := Below.two w (.cells #[.int .i64 k, .int .i64 n, .int .i64 x, .string s, .slice eA en ec] 33) (.cells #[] 33)
  have hB : Blk ((w.alloc (.cells #[.int .i64 k, .int .i64 n, .int .i64 x, .string s, .slice eA en ec] 33)).alloc (.cells #[] 33)) w.heap.size 33 #[.int .i64 k, .int .i64 n, .int .i64 x, .string s, .slice eA en ec] := (Blk.new w _ _).alloc _
  have hN : NV ((w.alloc (.cells #[.int .i64 k, .int .i64 n, .int .i64 x, .string s, .slice eA en ec] 33)).alloc (.cells #[] 33)) (w.heap.size + 1) (some ⟨w.heap.size + 1, 0, none⟩) 0 0 [] [] := NV.new _ _ (by simp)
  by_cases hk : k = 10
  rotate_left
  · have q1 : (k == 10) = false := by simpa using hk
    have hn : namesT ⟨k, n, x, s, l⟩ = [] := by unfold namesT; rw [if_neg hk]
    rw [hn]
    obtain ⟨fp, f1, f2⟩ := hN.list (by simp)
    go_enter Tryz.func114, Tryz.ntmps114
    go_wp2_with fail
    go_ret
    exact ⟨⟨_, _, _, fp⟩, rfl, f1, f2, k2⟩
  subst hk
  have hn : namesT ⟨10, n, x, s, l⟩ = evens l := rfl
  rw [hn]
  clear hn
  go_enter Tryz.func114, Tryz.ntmps114
  go_wp2_with fail
  go_loopg [3, 4] en (fun f v3 v4 wr => ∃ (j c' : Nat) (A' : Option Addr) (es : List El), v4 = .int .i64 (2 * j : Nat) ∧ 2 * j ≤ en + 1 ∧ en - 2 * j ≤ f ∧ v3 = .slice A' j c' ∧ NV wr (w.heap.size + 1) A' j c' ((evens l).take j) es ∧ Blk wr w.heap.size 33 #[.int .i64 10, .int .i64 n, .int .i64 x, .string s, .slice eA en ec] ∧ w.heap.size + 1 ≤ wr.heap.size ∧ Below w.heap.size w wr)
  case atStart => exact ⟨0, 0, _, [], rfl, by omega, by omega, rfl, by rw [List.take_zero]; exact hN, hB, by simp, k2⟩
  case round =>
    obtain ⟨j, c', A', es, rfl, hj2, hjf, rfl, hR, hBr, hz, hb⟩ := hrel
    clear hN hB k1 k2
    have p4 := hBr.cell 4
    by_cases hlt : 2 * j < en
    · obtain ⟨f, rfl⟩ : ∃ f, gk = f + 1 := ⟨gk - 1, by omega⟩
      obtain ⟨g, o, u, hj, hAe, hgm, ⟨c0, c1, c2, c3, c4⟩, hch, hsub⟩ := (hl.below hel hb).elem hlt
      have hAe : eA = some ⟨g, o, none⟩ := hAe
      subst hAe
      have hul : ∀ y ∈ u.fp, y < w.heap.size + 1 := fun y hy => Nat.lt_succ_of_lt (hel y (hsub y hy))
      have htk := evens_take (l := l) (j := j) (by omega)
      have HT := Lib.hid htk
      clear htk
      go_wp2_with (at_builtin; refine app_ref rfl _ _ rfl hR rfl rfl rfl hch hul (by omega) hz ?_; intro A6 c6 w6 h6 hb6)
      have hB6 := hBr.below hb6 (Nat.lt_succ_self _)
      have hb6b := hb.trans (hb6.mono (Nat.le_succ _))
      have hz6 : w.heap.size + 1 ≤ w6.heap.size := Nat.le_trans hz hb6.size
      clear hR hch hb hBr hb6 p4 c0 c1 c2 c3 c4
      go_roundg f
      case measure => omega
      case rel => exact ⟨j + 1, c6, A6, _, by go_num, by omega, by omega, rfl, by rw [HT.out]; exact h6, hB6, hz6, hb6b⟩
    · have hje : (evens l).take j = evens l := List.take_of_length_le (by rw [evens_len]; omega)
      rw [hje] at hR
      obtain ⟨fp, f1, f2⟩ := hR.list hz
      have hlt2 : ¬ (((2 * j : Nat) : Int) < (en : Int)) := by omega
      clear hje
      go_wp2_with fail
      go_ret
      exact ⟨⟨_, _, _, fp⟩, rfl, f1, f2, hb⟩
end Go.Proofs.YtgddnpglgakkdaaGreatDoor
