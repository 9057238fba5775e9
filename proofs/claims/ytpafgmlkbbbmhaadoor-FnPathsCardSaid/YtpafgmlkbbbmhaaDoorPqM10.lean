/- The paths of a tree, and rows of paths that the call itself builds. No function of the program in sight. Copies of trees: copyVal and the reference's l6Copy. -/
import Derived.Test.YtpafgmlkbbbmhaaDoorPqSteps
import Derived.Test.YtpafgmlkbbbmhaaDoorPqM6
import Derived.Test.YtpafgmlkbbbmhaaDoorPqM9
import Derived.Deep.LoopGhost
set_option linter.unusedVariables false
set_option maxRecDepth 100000
set_option linter.unusedSimpArgs false
namespace Go.Proofs.YtpafgmlkbbbmhaaDoor
open Go.RowKit

abbrev Pth := List (Int × Bool)
/-- The step to the element at j of a value of kind k. -/
def stepTo (k : Int) (j : Nat) : Int × Bool := if k = 10 then (((j / 2 : Nat) : Int), decide (j % 2 = 0)) else ((j : Int), false)
def pathsG (k : Int) : List (Pth → List Pth) → Nat → Pth → List Pth
  | [], _, _ => []
  | f :: fs, j, p => f (p ++ [stepTo k j]) ++ pathsG k fs (j + 1) p
/-- The paths of all values of a tree that itself lies at p. -/
noncomputable def pathsT : Tr → Pth → List Pth := Tr.fold fun k _ _ _ _ ih p => p :: pathsG k ih 0 p
/-- The paths of the first j trees below. -/
noncomputable def pathsK (t : Tr) (p : Pth) : Nat → List Pth
  | 0 => []
  | j + 1 => pathsK t p j ++ (match t.l[j]? with | some u => pathsT u (p ++ [stepTo t.k j]) | none => [])
theorem pathsG_snoc (k : Int) (f : Pth → List Pth) (p : Pth) : ∀ (fs : List (Pth → List Pth)) (j : Nat), pathsG k (fs ++ [f]) j p = pathsG k fs j p ++ f (p ++ [stepTo k (j + fs.length)])
  | [], j => by simp [pathsG]
  | g :: fs, j => by
    simp only [List.cons_append, pathsG, pathsG_snoc k f p fs (j + 1), List.append_assoc, List.length_cons]
    rw [show j + 1 + fs.length = j + (fs.length + 1) by omega]
theorem pathsK_eq (t : Tr) (p : Pth) : ∀ j, j ≤ t.l.length → pathsK t p j = pathsG t.k ((t.l.take j).map pathsT) 0 p
  | 0, _ => by simp [pathsK, pathsG]
  | j + 1, h => by
    have hj : j < t.l.length := by omega
    rw [List.take_succ_eq_append_getElem hj, List.map_append, List.map_cons, List.map_nil, pathsG_snoc, ← pathsK_eq t p j (by omega)]
    simp only [pathsK, List.getElem?_eq_getElem hj, List.length_map, List.length_take, Nat.zero_add]
    rw [Nat.min_eq_left (by omega)]
theorem pathsT_eq (t : Tr) (p : Pth) : pathsT t p = p :: pathsK t p t.l.length := by
  rw [pathsK_eq t p _ (Nat.le_refl _), List.take_of_length_le (Nat.le_refl _)]
  obtain ⟨k, n, x, s, l⟩ := t
  unfold pathsT
  rw [Tr.fold_mk]
theorem pathsK_succ {t : Tr} {p : Pth} {j : Nat} (h : j < t.l.length) : pathsK t p (j + 1) = pathsK t p j ++ pathsT t.l[j] (p ++ [stepTo t.k j]) := by
  simp [pathsK, List.getElem?_eq_getElem h]
/-- How many there are, and how long each is. -/
theorem pathsT_bd (t : Tr) : ∀ p : Pth, (pathsT t p).length ≤ t.sz + 1 ∧ ∀ q ∈ pathsT t p, q.length ≤ p.length + t.sz := by
  refine Tr.ind (P := fun t => ∀ p : Pth, (pathsT t p).length ≤ t.sz + 1 ∧ ∀ q ∈ pathsT t p, q.length ≤ p.length + t.sz) (fun t ih p => ?_) t
  have key : ∀ j, j ≤ t.l.length → (pathsK t p j).length ≤ j + szT t.l j ∧ ∀ q ∈ pathsK t p j, q.length ≤ p.length + (1 + szT t.l j) := by
    intro j
    induction j with
    | zero => intro _; simp [pathsK]
    | succ j ihj =>
      intro hj
      obtain ⟨h1, h2⟩ := ihj (by omega)
      have hlt : j < t.l.length := by omega
      obtain ⟨h3, h4⟩ := ih t.l[j] (List.getElem_mem hlt) (p ++ [stepTo t.k j])
      have hs := szT_succ hlt
      rw [pathsK_succ hlt]
      refine ⟨by rw [List.length_append]; omega, fun q hq => ?_⟩
      rcases List.mem_append.1 hq with h5 | h5
      · have := h2 q h5; omega
      · have := h4 q h5
        rw [List.length_append, List.length_singleton] at this
        omega
  have hall := key t.l.length (Nat.le_refl _)
  have hsz := t.sz_eq
  have hza := szT_all (l := t.l) (j := t.l.length) (Nat.le_refl _)
  rw [pathsT_eq]
  refine ⟨by simp only [List.length_cons]; omega, fun q hq => ?_⟩
  rcases List.mem_cons.1 hq with rfl | hq
  · omega
  · have := hall.2 q hq
    rcases Nat.eq_zero_or_pos t.l.length with h0 | h0
    · rw [h0] at hq; simp [pathsK] at hq
    · omega
theorem pathsK_bd (t : Tr) (p : Pth) : ∀ j, j ≤ t.l.length → (pathsK t p j).length ≤ j + szT t.l j ∧ ∀ q ∈ pathsK t p j, q.length ≤ p.length + (1 + szT t.l j) := by
  intro j
  induction j with
  | zero => intro _; simp [pathsK]
  | succ j ihj =>
    intro hj
    obtain ⟨h1, h2⟩ := ihj (by omega)
    have hlt : j < t.l.length := by omega
    obtain ⟨h3, h4⟩ := pathsT_bd t.l[j] (p ++ [stepTo t.k j])
    have hs := szT_succ hlt
    rw [pathsK_succ hlt]
    refine ⟨by rw [List.length_append]; omega, fun q hq => ?_⟩
    rcases List.mem_append.1 hq with h5 | h5
    · have := h2 q h5; omega
    · have := h4 q h5
      rw [List.length_append, List.length_singleton] at this
      omega
/-- Where a path's steps lie. -/
structure Pl where
  A : Option Addr
  n : Nat
  c : Nat
def plFp (rs : List Pl) : List Nat := (rs.map fun r => blkOf r.A).flatten
def plCells (rs : List Pl) : List Value := rs.map fun r => .slice r.A r.n r.c
theorem plFp_mem {rs : List Pl} {j : Nat} {r : Pl} (h : rs[j]? = some r) {g : Nat} (hg : g ∈ blkOf r.A) : g ∈ plFp rs :=
  List.mem_flatten.2 ⟨blkOf r.A, List.mem_map.2 ⟨r, List.mem_of_getElem? h, rfl⟩, hg⟩
theorem plFp_snoc (rs : List Pl) (r : Pl) : plFp (rs ++ [r]) = plFp rs ++ blkOf r.A := by simp [plFp]
/-- A row of paths of the call's own: the slice '.slice A n c' holds L, its paths' steps at rs; all from lo up, no two in one block. -/
structure PR (w : World) (lo : Nat) (A : Option Addr) (n c : Nat) (L : List Pth) (rs : List Pl) : Prop where
  row : w.ownsRow lo 47 1 (.slice A n c) n (plCells rs)
  len : L.length = n
  rlen : rs.length = n
  each : ∀ (j : Nat) (p : Pth) (r : Pl), L[j]? = some p → rs[j]? = some r → SS w lo r.A r.n r.c p
  nodup : (plFp rs).Nodup
  apart : ∀ g ∈ blkOf A, g ∉ plFp rs
theorem SS.mono {w : World} {lo lo' n c : Nat} {A : Option Addr} {ps : Pth} (h : SS w lo A n c ps) (hl : lo' ≤ lo) : SS w lo' A n c ps := own_mono h hl
section
variable {w w' : World} {lo n c : Nat} {A : Option Addr} {L : List Pth} {rs : List Pl}
theorem PR.kid (h : PR w lo A n c L rs) {g : Nat} (hg : g ∈ plFp rs) : lo ≤ g ∧ g < w.heap.size := by
  obtain ⟨l, hl, hgl⟩ := List.mem_flatten.1 hg
  obtain ⟨r, hr, rfl⟩ := List.mem_map.1 hl
  obtain ⟨j, hj⟩ := List.mem_iff_getElem?.1 hr
  have hjl : j < L.length := by have := (List.getElem?_eq_some_iff.1 hj).1; rw [h.rlen] at this; rw [h.len]; exact this
  exact (h.each j _ r (List.getElem?_eq_getElem hjl) hj).lt hgl
theorem PR.fr {fp : List Nat} (h : PR w lo A n c L rs) (hf : Fr fp w w') (hA : ∀ g ∈ blkOf A, g ∉ fp) (hk : ∀ g ∈ plFp rs, g ∉ fp) : PR w' lo A n c L rs :=
  ⟨row_heap h.row fun g hg => hf.block g (row_lt h.row hg).2 (hA g hg), h.len, h.rlen, fun j p r a b => (h.each j p r a b).fr hf (fun g hg => hk g (plFp_mem b hg)), h.nodup, h.apart⟩
theorem PR.below (h : PR w lo A n c L rs) (hb : Below w.heap.size w w') : PR w' lo A n c L rs := h.fr (fp := []) (Fr.of_below hb) (fun _ _ h => by cases h) (fun _ _ h => by cases h)
theorem PR.mono {lo' : Nat} (h : PR w lo A n c L rs) (hl : lo' ≤ lo) : PR w lo' A n c L rs := ⟨own_mono h.row hl, h.len, h.rlen, fun j p r a b => (h.each j p r a b).mono hl, h.nodup, h.apart⟩
theorem PR.nil_ (w : World) (lo : Nat) : PR w lo none 0 0 [] [] := ⟨World.ownsRow_nil _ _ _ _, rfl, rfl, fun j p r h => by simp at h, by simp [plFp], fun g hg => by simp [blkOf] at hg⟩
theorem PR.cap (h : PR w lo A n c L rs) : n ≤ c ∧ c ≤ maxLen := by
  rcases h.row.2 with ⟨e, e2⟩ | ⟨g, cap, cur, e, _, _, h3, h4, _⟩
  · simp only [Value.slice.injEq] at e; omega
  · simp only [Value.slice.injEq] at e; omega
theorem PR.sl (h : PR w lo A n c L rs) : Sl w w.heap.size 1 A n c (plCells rs) := Sl.of_own h.row
end
theorem plCells_one (rs : List Pl) : ∀ x ∈ plCells rs, x.oneCell' = true := fun x hx => by
  obtain ⟨r, _, rfl⟩ := List.mem_map.1 hx
  rfl
theorem info_path : (Tryd.prog.info? 47).map (fun i => (i.zero, i.size, i.bytes)) = some (some (.agg #[.slice none 0 0]), 1, 24) := by kernel_rfl
/-- Paths appended to a row, their steps of the call's own. -/
theorem PR.app {w w1 w' : World} {lo n c n' c' : Nat} {A A' : Option Addr} {L L2 : List Pth} {rs rs2 : List Pl} (h : PR w lo A n c L rs) (hrow : w'.ownsRow lo 47 1 (.slice A' n' c') n' (plCells rs ++ plCells rs2)) (hg : Gr A A' w w')
    (h2 : ∀ (j : Nat) (p : Pth) (r : Pl), L2[j]? = some p → rs2[j]? = some r → SS w lo r.A r.n r.c p) (hl2 : L2.length = rs2.length) (hn2 : (plFp rs2).Nodup) (hd : ∀ g ∈ plFp rs2, g ∉ blkOf A ∧ g ∉ plFp rs) (hn' : n' = n + rs2.length) :
    PR w' lo A' n' c' (L ++ L2) (rs ++ rs2) := by
  have hk2 : ∀ g ∈ plFp rs2, g < w.heap.size := fun g hg => by
    obtain ⟨l, hl, hgl⟩ := List.mem_flatten.1 hg
    obtain ⟨r, hr, rfl⟩ := List.mem_map.1 hl
    obtain ⟨j, hj⟩ := List.mem_iff_getElem?.1 hr
    have hjl : j < L2.length := by have := (List.getElem?_eq_some_iff.1 hj).1; omega
    exact ((h2 j _ r (List.getElem?_eq_getElem hjl) hj).lt hgl).2
  have e1 : plFp (rs ++ rs2) = plFp rs ++ plFp rs2 := by simp [plFp]
  refine ⟨by simpa [plCells] using hrow, by rw [List.length_append, h.len]; omega, by rw [List.length_append, h.rlen]; omega, fun j p r a b => ?_, ?_, fun g hgA hg2 => ?_⟩
  · rcases Nat.lt_or_ge j n with hj | hj
    · rw [List.getElem?_append_left (by rw [h.len]; exact hj)] at a
      rw [List.getElem?_append_left (by rw [h.rlen]; exact hj)] at b
      exact (h.each j p r a b).fr hg.fr (fun g hg2 hgA => h.apart g hgA (plFp_mem b hg2))
    · rw [List.getElem?_append_right (by rw [h.len]; exact hj), h.len] at a
      rw [List.getElem?_append_right (by rw [h.rlen]; exact hj), h.rlen] at b
      exact (h2 _ p r a b).fr hg.fr (fun g hg2 => (hd g (plFp_mem b hg2)).1)
  · rw [e1]
    exact List.nodup_append.2 ⟨h.nodup, hn2, fun x hx y hy e => (hd y hy).2 (e ▸ hx)⟩
  · rw [e1] at hg2
    rcases hg.own g hgA with h5 | h5
    · rcases List.mem_append.1 hg2 with h6 | h6
      · exact h.apart g h5 h6
      · exact (hd g h6).1 h5
    · rcases List.mem_append.1 hg2 with h6 | h6
      · have := (h.kid h6).2; omega
      · have := hk2 g h6; omega
end Go.Proofs.YtpafgmlkbbbmhaaDoor

namespace Go.Proofs.YtpafgmlkbbbmhaaDoor
open Go.RowKit

theorem take_all_len {l : List Tr} {j n : Nat} (h : l.length = n) (hj : n ≤ j) : l.take j = l := List.take_of_length_le (by omega)
theorem bcell_ {B : Nat} {w w1 : World} (h : Below B w w1) (hB : w.heap.size = B) : (∀ b o, b < B → w1.cell? ⟨b, o, none⟩ = w.cell? ⟨b, o, none⟩) ∧ (∀ b o, b < B → w1.frozen? ⟨b, o, none⟩ = w.frozen? ⟨b, o, none⟩) := by
  subst hB; exact bcell h
/-- What a copy says of a tree: its list lies in new memory. -/
def CopyOf (w w' : World) (r : Ending) (t : Tr) : Prop := ∃ u : El, r = .returned (trV t u) ∧ LsAt w' t.l u ∧ Own w' w.heap.size u.fp ∧ Below w.heap.size w w'
def CpSays (t : Tr) : Prop := ∀ (e : El) (w : World), LsAt w t.l e → e.lt w.heap.size → t.sz ≤ 1099511627776 → Calls Tryd.prog 28 #[trV t e] w fun r w' => CopyOf w w' r t
set_option maxHeartbeats 1600000 in
theorem i_copyVal (t : Tr) : CpSays t := by
  refine Tr.ind (P := CpSays) (fun t ih => ?_) t
  intro e w hl hel hm
  have hsz := t.sz_eq
  obtain ⟨k, n, x, s, l⟩ := t
  obtain ⟨eA, en, ec, efp⟩ := e
  simp only at hsz ih hl
  have hen : l.length = en := hl.len
  have hszl := szT_le l 0
  have hec : en ≤ ec ∧ ec ≤ maxLen := ⟨((lsAt_iff _ _).1 hl).2.1, ((lsAt_iff _ _).1 hl).2.2.1⟩
  have k2 := Below.two w (.cells #[.int .i64 k, .int .i64 n, .int .i64 x, .string s, .slice eA en ec] 26) (.cells #[.int .i64 0, .int .i64 0, .int .i64 0, .string ⟨#[]⟩, .slice none 0 0] 26)
  go_enter Tryd.func28, Tryd.ntmps28
  go_wp2_with fail
  go_loopg [3, 9] en (fun f y z wr => ∃ (j c' : Nat) (A' : Option Addr) (es : List El), j + f = en ∧ y = .slice A' j c' ∧ z = .int .i64 j ∧ RV wr (w.heap.size + 2) A' j c' (l.take j) es ∧ Below (w.heap.size + 2) ((w.alloc (.cells #[.int .i64 k, .int .i64 n, .int .i64 x, .string s, .slice eA en ec] 26)).alloc (.cells #[.int .i64 0, .int .i64 0, .int .i64 0, .string ⟨#[]⟩, .slice none 0 0] 26)) wr)
  case atStart => exact ⟨0, 0, none, [], by omega, rfl, rfl, RV.nil_ _ _, Below.refl _ _⟩
  case round =>
    obtain ⟨j, c', A', es, hjf, rfl, rfl, hR, hb⟩ := hrel
    have hk : Below w.heap.size w wr := k2.trans (hb.mono (by omega))
    have hz : w.heap.size + 2 ≤ wr.heap.size := by have := hb.size; simp at this; omega
    by_cases hlt : j < en
    · obtain ⟨f, rfl⟩ : ∃ f, gk = f + 1 := ⟨gk - 1, by omega⟩
      obtain ⟨g, o, u, hj, hAe, hgm, ⟨c0, c1, c2, c3, c4⟩, hch, hsub⟩ := (hl.below hel hk).elem hlt
      have hAe : eA = some ⟨g, o, none⟩ := hAe
      subst hAe
      have hul : u.lt w.heap.size := fun x hx => hel x (hsub x hx)
      have hz1 := szT_succ hj
      have hz2 := szT_le l (j + 1)
      have hih := fun (ob : Obj) => ih l[j] (List.getElem_mem hj) u (wr.alloc ob) (hch.below (hul.mono hk.size) (Below.one wr ob)) (hul.mono (Nat.le_trans hk.size (Below.one wr ob).size)) (by omega)
      clear ih hch
      go_wp2_with (first
        | (go_at_call 28; refine (hih _).mono ?_; rintro r w5 ⟨v, rfl, hv1, hv2, hb5⟩; have hR5 := (hR.below (Below.one wr _)).below hb5; have zz := (Below.one wr (.cells #[.int .i64 l[j].k, .int .i64 l[j].n, .int .i64 l[j].x, .string l[j].s, .slice u.A u.n u.c] 26)).size; have z5 := hb5.size; have hd : ∀ g ∈ v.fp, g ∉ blkOf A' ∧ g ∉ elFp es := (fun g hg => ⟨fun h2 => by have := (row_lt hR.row h2).2; have := (hv2.2 g hg).1; omega, fun h2 => by have := hR.own.lt h2; have := (hv2.2 g hg).1; omega⟩))
        | (at_builtin; refine app_val rfl _ _ rfl hR5 rfl (by first | rfl | simp) rfl hv1 (hv2.mono (by omega)) hd (by omega) (by omega) ?_; intro A6 c6 w6 h6 hb6 hg6))
      have hb7 := ((hb.trans ((Below.one wr _).mono hz)).trans (hb5.mono (Nat.le_trans hz zz))).trans hb6
      clear hih hR hR5 hd hv1 hv2 hb5 hg6 hb6
      go_roundg f
      case measure => omega
      case rel => exact ⟨j + 1, c6, A6, _, by omega, rfl, by go_num, by rw [List.take_succ_eq_append_getElem hj]; exact h6, hb7⟩
    · obtain rfl : j = en := by omega
      rw [List.take_of_length_le (by omega)] at hR
      obtain ⟨hc1, hf1⟩ := bcell_ hb (by simp)
      clear ih
      go_wp2_with fail
      obtain ⟨fp, f1, f2, f3⟩ := hR.list hR.cap.1 hR.cap.2
      have hn1 : w.heap.size ∉ fp := fun hx => by have := (f2.2 _ hx).1; omega
      have hn2 : w.heap.size + 1 ∉ fp := fun hx => by have := (f2.2 _ hx).1; omega
      have hblk : Blk (set5 (wr.setCell ⟨w.heap.size, 4, none⟩ (.slice A' j c')) (w.heap.size + 1) 0 ⟨k, n, x, s, l⟩ ⟨A', j, c', fp⟩) (w.heap.size + 1) 26 _ :=
        Blk.five_ (Blk.far (Blk.below (by simpa using Blk.new (w.alloc (.cells #[.int .i64 k, .int .i64 n, .int .i64 x, .string s, .slice eA j ec] 26)) 26 #[.int .i64 0, .int .i64 0, .int .i64 0, .string ⟨#[]⟩, .slice none 0 0]) hb (by omega)) (by simp) _) ⟨k, n, x, s, l⟩ ⟨A', j, c', fp⟩
      have r1 : LsAt (set5 (wr.setCell ⟨w.heap.size, 4, none⟩ (.slice A' j c')) (w.heap.size + 1) 0 ⟨k, n, x, s, l⟩ ⟨A', j, c', fp⟩) l ⟨A', j, c', fp⟩ := (f1.far (p := ⟨w.heap.size, 4, none⟩) hn1 _).set5_ hn2
      have r2 : Own (set5 (wr.setCell ⟨w.heap.size, 4, none⟩ (.slice A' j c')) (w.heap.size + 1) 0 ⟨k, n, x, s, l⟩ ⟨A', j, c', fp⟩) w.heap.size fp := Own.mono ((f2.far (p := ⟨w.heap.size, 4, none⟩) hn1 _).set5_ hn2) (by omega)
      have r3 : Below w.heap.size w (set5 (wr.setCell ⟨w.heap.size, 4, none⟩ (.slice A' j c')) (w.heap.size + 1) 0 ⟨k, n, x, s, l⟩ ⟨A', j, c', fp⟩) := below_set5 (hk.setCell (p := ⟨w.heap.size, 4, none⟩) (Nat.le_refl _) _) (by omega)
      exact bodyPost_ret (results_blk Tryd.results28 Tryd.isAgg26 (by exact Tryd.sizeOf26) rfl hblk) rfl ⟨⟨A', j, c', fp⟩, rfl, r1, r2, r3⟩
def CqSays (t : Tr) : Prop := ∀ (e : El) (w : World), LsAt w t.l e → e.lt w.heap.size → t.sz ≤ 1099511627776 → Calls Tryd.prog 29 #[trV t e] w fun r w' => CopyOf w w' r t
set_option maxHeartbeats 1600000 in
theorem s_l6Copy (t : Tr) : CqSays t := by
  refine Tr.ind (P := CqSays) (fun t ih => ?_) t
  intro e w hl hel hm
  have hsz := t.sz_eq
  obtain ⟨k, n, x, s, l⟩ := t
  obtain ⟨eA, en, ec, efp⟩ := e
  simp only at hsz ih hl
  have hen : l.length = en := hl.len
  have hszl := szT_le l 0
  have hec : en ≤ ec ∧ ec ≤ maxLen := ⟨((lsAt_iff _ _).1 hl).2.1, ((lsAt_iff _ _).1 hl).2.2.1⟩
  have k2 := Below.two w (.cells #[.int .i64 k, .int .i64 n, .int .i64 x, .string s, .slice eA en ec] 26) (.cells #[.int .i64 0, .int .i64 0, .int .i64 0, .string ⟨#[]⟩, .slice none 0 0] 26)
  go_enter Tryd.func29, Tryd.ntmps29
  go_wp2_with fail
  go_loopg [4] en (fun f z wr => ∃ (j c' : Nat) (A' : Option Addr) (es : List El), j + f = en ∧ z = .int .i64 j ∧ RV wr (w.heap.size + 3) A' j c' (l.take j) es ∧ Blk wr (w.heap.size + 2) 26 #[.int .i64 k, .int .i64 n, .int .i64 x, .string s, .slice A' j c'] ∧ Below (w.heap.size + 2) ((w.alloc (.cells #[.int .i64 k, .int .i64 n, .int .i64 x, .string s, .slice eA en ec] 26)).alloc (.cells #[.int .i64 0, .int .i64 0, .int .i64 0, .string ⟨#[]⟩, .slice none 0 0] 26)) wr)
  case atStart =>
    refine ⟨0, 0, some ⟨w.heap.size + 3, 0, none⟩, [], by omega, rfl, ?_, ?_, ?_⟩
    · exact RV.new _ (w.heap.size + 3) (by simp)
    · exact Blk.alloc (by simpa using Blk.new ((w.alloc (.cells #[.int .i64 k, .int .i64 n, .int .i64 x, .string s, .slice eA en ec] 26)).alloc (.cells #[.int .i64 0, .int .i64 0, .int .i64 0, .string ⟨#[]⟩, .slice none 0 0] 26)) 26 #[.int .i64 k, .int .i64 n, .int .i64 x, .string s, .slice (some ⟨w.heap.size + 3, 0, none⟩) 0 0]) _
    · exact (Below.two _ _ _).mono (by simp)
  case round =>
    obtain ⟨j, c', A', es, hjf, rfl, hR, hB, hb⟩ := hrel
    have hk : Below w.heap.size w wr := k2.trans (hb.mono (by omega))
    have hz : w.heap.size + 3 ≤ wr.heap.size := hB.lt
    obtain ⟨hc1, hf1⟩ := bcell_ hb (by simp)
    have p4 := hB.cell 4
    have q4 := hB.frozen 4
    by_cases hlt : j < en
    · obtain ⟨f, rfl⟩ : ∃ f, gk = f + 1 := ⟨gk - 1, by omega⟩
      obtain ⟨g, o, u, hj, hAe, hgm, ⟨c0, c1, c2, c3, c4⟩, hch, hsub⟩ := (hl.below hel hk).elem hlt
      have hAe : eA = some ⟨g, o, none⟩ := hAe
      subst hAe
      have hul : u.lt w.heap.size := fun x hx => hel x (hsub x hx)
      have hz1 := szT_succ hj
      have hz2 := szT_le l (j + 1)
      have hih := ih l[j] (List.getElem_mem hj) u wr hch (hul.mono hk.size) (by omega)
      clear ih hch
      go_wp2_with (first
        | (go_at_call 29; refine hih.mono ?_; rintro r w5 ⟨v, rfl, hv1, hv2, hb5⟩; have hb5b := hb5.up (Below.one w5 (.cells #[.int .i64 l[j].k, .int .i64 l[j].n, .int .i64 l[j].x, .string l[j].s, .slice v.A v.n v.c] 26)); have hR5 := hR.below hb5b; have hv3 := hv1.below (fun g hg => hv2.lt hg) (Below.one w5 (.cells #[.int .i64 l[j].k, .int .i64 l[j].n, .int .i64 l[j].x, .string l[j].s, .slice v.A v.n v.c] 26)); have hv4 := hv2.below (fun g hg => hv2.lt hg) (Below.one w5 (.cells #[.int .i64 l[j].k, .int .i64 l[j].n, .int .i64 l[j].x, .string l[j].s, .slice v.A v.n v.c] 26)); have hB5 := hB.below hb5b hB.lt; have p5 := hB5.cell 4; have z5 := hb5b.size; have hd : ∀ g ∈ v.fp, g ∉ blkOf A' ∧ g ∉ elFp es := (fun g hg => ⟨fun h2 => by have := (row_lt hR.row h2).2; have := (hv2.2 g hg).1; omega, fun h2 => by have := hR.own.lt h2; have := (hv2.2 g hg).1; omega⟩))
        | (at_builtin; refine app_val rfl _ _ rfl hR5 rfl (by first | rfl | simp) rfl hv3 (hv4.mono (by omega)) hd (by omega) (by omega) ?_; intro A6 c6 w6 h6 hb6 hg6; have hB6 := hB5.below hb6 (Nat.lt_succ_self _); have p6 := hB6.cell 4; have q6 := hB6.frozen 4))
      have hf7 := (Fr.refl [w.heap.size + 2] w6).setCell (p := ⟨w.heap.size + 2, 4, none⟩) (by simp) (.slice A6 (j + 1) c6)
      have hR7 := h6.fr hf7 (fun g hg hg2 => by rw [List.mem_singleton] at hg2; have := (row_lt h6.row hg).1; omega) (fun g hg hg2 => by rw [List.mem_singleton] at hg2; have := (h6.own.2 g hg).1; omega)
      have hB7 : Blk (w6.setCell ⟨w.heap.size + 2, 4, none⟩ (.slice A6 (j + 1) c6)) (w.heap.size + 2) 26 #[.int .i64 k, .int .i64 n, .int .i64 x, .string s, .slice A6 (j + 1) c6] := by simpa using hB6.set_ 4 (.slice A6 (j + 1) c6)
      have hb7 := ((hb.trans (hb5b.mono (by omega))).trans (hb6.mono (by omega))).setCell (p := ⟨w.heap.size + 2, 4, none⟩) (Nat.le_refl _) (.slice A6 (j + 1) c6)
      clear hR hR5 hd hv1 hv2 hv3 hv4 hb5 hb5b hg6 hb6 h6 hB hB5 hB6 p4 q4 p5 p6 q6 hc1 hf1 hih
      go_roundg f
      case measure => omega
      case rel => exact ⟨j + 1, c6, A6, _, by omega, by go_num, by rw [List.take_succ_eq_append_getElem hj]; exact hR7, hB7, hb7⟩
    · obtain rfl : j = en := by omega
      rw [List.take_of_length_le (by omega)] at hR
      have p0 := hB.cell 0
      have p1 := hB.cell 1
      have p2 := hB.cell 2
      have p3 := hB.cell 3
      clear ih
      go_wp2_with fail
      obtain ⟨fp, f1, f2, f3⟩ := hR.list hR.cap.1 hR.cap.2
      have hn2 : w.heap.size + 1 ∉ fp := fun hx => by have := (f2.2 _ hx).1; omega
      have hblk : Blk (set5 wr (w.heap.size + 1) 0 ⟨k, n, x, s, l⟩ ⟨A', j, c', fp⟩) (w.heap.size + 1) 26 _ :=
        Blk.five_ (Blk.below (by simpa using Blk.new (w.alloc (.cells #[.int .i64 k, .int .i64 n, .int .i64 x, .string s, .slice eA j ec] 26)) 26 #[.int .i64 0, .int .i64 0, .int .i64 0, .string ⟨#[]⟩, .slice none 0 0]) hb (by omega)) ⟨k, n, x, s, l⟩ ⟨A', j, c', fp⟩
      have r1 : LsAt (set5 wr (w.heap.size + 1) 0 ⟨k, n, x, s, l⟩ ⟨A', j, c', fp⟩) l ⟨A', j, c', fp⟩ := f1.set5_ hn2
      have r2 : Own (set5 wr (w.heap.size + 1) 0 ⟨k, n, x, s, l⟩ ⟨A', j, c', fp⟩) w.heap.size fp := Own.mono (f2.set5_ hn2) (by omega)
      have r3 : Below w.heap.size w (set5 wr (w.heap.size + 1) 0 ⟨k, n, x, s, l⟩ ⟨A', j, c', fp⟩) := below_set5 hk (by omega)
      exact bodyPost_ret (results_blk Tryd.results29 Tryd.isAgg26 (by exact Tryd.sizeOf26) rfl hblk) rfl ⟨⟨A', j, c', fp⟩, rfl, r1, r2, r3⟩
end Go.Proofs.YtpafgmlkbbbmhaaDoor
