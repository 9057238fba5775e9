/- A tree with a hole: one tree below it replaced, at a place that a path leads to. No function of the program in sight. Widths and heads: impl and spec. -/
import Derived.Test.YtmnlkedacnemcaaGreatDoorTwM4
import Derived.Test.YtmnlkedacnemcaaGreatDoorTwM9
import Derived.Test.YtmnlkedacnemcaaGreatDoorTwMarkVal
import Derived.Test.YtmnlkedacnemcaaGreatDoorTwM0
set_option linter.unusedVariables false
set_option maxRecDepth 100000
set_option linter.unusedSimpArgs false
namespace Go.Proofs.YtmnlkedacnemcaaGreatDoor
open Go.RowKit

def Tr.putL (t : Tr) (j : Nat) (y : Tr) : Tr := ⟨t.k, t.n, t.x, t.s, t.l.set j y⟩
/-- The tree t with x at the path ps; none where there is no such path. -/
def putAt : Tr → List (Int × Bool) → Tr → Option Tr
  | _, [], x => some x
  | t, p :: ps, x => match stepT t p with
    | none => none
    | some u => match putAt u ps x with
      | none => none
      | some y => some (t.putL (place t.k t.l.length p.1 p.2).toNat y)
theorem putAt_no {t x : Tr} {p : Int × Bool} {ps : List (Int × Bool)} (h : stepT t p = none) : putAt t (p :: ps) x = none := by simp [putAt, h]
theorem putAt_yes {t u x : Tr} {p : Int × Bool} {ps : List (Int × Bool)} (h : stepT t p = some u) : putAt t (p :: ps) x = (putAt u ps x).map (t.putL (place t.k t.l.length p.1 p.2).toNat) := by
  simp only [putAt, h]
  cases putAt u ps x <;> rfl
/-- The tree t, made of five cells at (gx, 0) of w, has a hole at (ga, oa) whose list is u; what comes there gives F of it. -/
def Plug (w : World) (lo gx ga oa : Nat) (u : El) (F : Tr → Tr) : Prop :=
  ∀ (w' : World) (y : Tr) (v : El), Cells5 w' ga oa y v → LsAt w' y.l v → Own w' lo v.fp → (∀ g ∈ v.fp, g ∈ u.fp ∨ w.heap.size ≤ g) →
    (∀ g o, g < w.heap.size → g ∉ u.fp → (g = ga → o < oa ∨ oa + 5 ≤ o) → w'.cell? ⟨g, o, none⟩ = w.cell? ⟨g, o, none⟩) → (∀ g T cs, Blk w g T cs → ∃ cs2, Blk w' g T cs2) →
    ∃ v0, Cells5 w' gx 0 (F y) v0 ∧ LsAt w' (F y).l v0 ∧ Own w' lo v0.fp ∧ gx ∉ v0.fp
theorem Plug.self {w : World} {lo gx : Nat} {u : El} (hg : gx < w.heap.size) (hu : gx ∉ u.fp) : Plug w lo gx gx 0 u (fun y => y) :=
  fun w' y v h1 h2 h3 h4 _ _ => ⟨v, h1, h2, h3, fun hx => (h4 gx hx).elim hu (fun h => by omega)⟩
theorem Cells5.eq5 {w w' : World} {g o : Nat} {t : Tr} {e : El} (h : Cells5 w g o t e) (hc : ∀ i, i < 5 → w'.cell? ⟨g, o + i, none⟩ = w.cell? ⟨g, o + i, none⟩) : Cells5 w' g o t e := by
  obtain ⟨c0, c1, c2, c3, c4⟩ := h
  exact ⟨(hc 0 (by omega)).trans c0, (hc 1 (by omega)).trans c1, (hc 2 (by omega)).trans c2, (hc 3 (by omega)).trans c3, (hc 4 (by omega)).trans c4⟩
/-- The blocks of a list whose tree at j got a new list. -/
theorem own_set {w w' : World} {lo g j : Nat} {es : List El} {u v : El} (ho : Own w lo (g :: elFp es)) (hj : es[j]? = some u) (hv : Own w' lo v.fp) (hnew : ∀ x ∈ v.fp, x ∈ u.fp ∨ w.heap.size ≤ x)
    (hb : ∀ g T cs, Blk w g T cs → ∃ cs2, Blk w' g T cs2) : Own w' lo (g :: elFp (es.set j v)) := by
  obtain ⟨hj1, hj2⟩ := List.getElem?_eq_some_iff.1 hj
  have hd := ho.1
  rw [List.nodup_cons] at hd
  have hpf := List.pairwise_flatten.1 (show List.Pairwise (· ≠ ·) (es.map El.fp).flatten from hd.2)
  have hlt : ∀ x ∈ g :: elFp es, x < w.heap.size := fun x hx => ho.lt hx
  have hold : ∀ i (e : El), i ≠ j → es[i]? = some e → ∀ x ∈ e.fp, x ∉ v.fp := fun i e hi he x hx hxv => by
    rcases hnew x hxv with h | h
    · obtain ⟨hi1, hi2⟩ := List.getElem?_eq_some_iff.1 he
      have hpw := List.pairwise_iff_getElem.1 hpf.2
      rcases Nat.lt_or_gt_of_ne hi with h3 | h3
      · have := hpw i j (by simpa using hi1) (by simpa using hj1) h3
        simp only [List.getElem_map, hi2, hj2] at this
        exact this x hx x h rfl
      · have := hpw j i (by simpa using hj1) (by simpa using hi1) h3
        simp only [List.getElem_map, hi2, hj2] at this
        exact this x h x hx rfl
    · have := hlt x (List.mem_cons_of_mem _ (elFp_mem he hx)); omega
  have hgv : g ∉ v.fp := fun hx => by
    rcases hnew g hx with h | h
    · exact hd.1 (elFp_mem hj h)
    · have := hlt g List.mem_cons_self; omega
  have hmem : ∀ x ∈ elFp (es.set j v), x ∈ v.fp ∨ ∃ i e, i ≠ j ∧ es[i]? = some e ∧ x ∈ e.fp := fun x hx => by
    obtain ⟨l, hl, hxl⟩ := List.mem_flatten.1 hx
    obtain ⟨e, he, rfl⟩ := List.mem_map.1 hl
    obtain ⟨i, hi⟩ := List.mem_iff_getElem?.1 he
    rw [List.getElem?_set] at hi
    by_cases hij : j = i
    · rw [if_pos hij, if_pos hj1] at hi
      obtain rfl := Option.some.inj hi
      exact .inl hxl
    · rw [if_neg hij] at hi
      exact .inr ⟨i, e, fun h => hij h.symm, hi, hxl⟩
  refine ⟨List.nodup_cons.2 ⟨fun hx => ?_, ?_⟩, fun x hx => ?_⟩
  · rcases hmem g hx with h | ⟨i, e, _, he, h⟩
    · exact hgv h
    · exact hd.1 (elFp_mem he h)
  · refine List.pairwise_flatten.2 ⟨fun l hl => ?_, ?_⟩
    · obtain ⟨e, he, rfl⟩ := List.mem_map.1 hl
      rcases List.mem_or_eq_of_mem_set he with h | rfl
      · exact hpf.1 _ (List.mem_map.2 ⟨e, h, rfl⟩)
      · exact hv.1
    · refine List.pairwise_iff_getElem.2 fun a b ha hb2 hab x hx y hy hxy => ?_
      subst hxy
      simp only [List.length_map, List.length_set] at ha hb2
      simp only [List.getElem_map, List.getElem_set] at hx hy
      by_cases h1 : j = a
      · rw [if_pos h1] at hx
        rw [if_neg (by omega)] at hy
        exact hold b es[b] (by omega) (List.getElem?_eq_getElem hb2) x hy hx
      · rw [if_neg h1] at hx
        by_cases h2 : j = b
        · rw [if_pos h2] at hy
          exact hold a es[a] (by omega) (List.getElem?_eq_getElem ha) x hx hy
        · rw [if_neg h2] at hy
          have := List.pairwise_iff_getElem.1 hpf.2 a b (by simpa using ha) (by simpa using hb2) hab
          simp only [List.getElem_map] at this
          exact this x hx x hy rfl
  · have hex : ∀ y ∈ g :: elFp es, lo ≤ y ∧ ∃ T cs, Blk w' y T cs := fun y hy => by
      obtain ⟨h1, T, cs, h2⟩ := ho.2 y hy
      obtain ⟨cs2, h3⟩ := hb y T cs h2
      exact ⟨h1, T, cs2, h3⟩
    rcases List.mem_cons.1 hx with rfl | hx
    · exact hex _ List.mem_cons_self
    · rcases hmem x hx with h | ⟨i, e, _, he, h⟩
      · exact hv.2 x h
      · exact hex x (List.mem_cons_of_mem _ (elFp_mem he h))
theorem elFp_set_mem {es : List El} {j : Nat} {v : El} {x : Nat} (hx : x ∈ elFp (es.set j v)) : x ∈ v.fp ∨ x ∈ elFp es := by
  obtain ⟨l, hl, hxl⟩ := List.mem_flatten.1 hx
  obtain ⟨e, he, rfl⟩ := List.mem_map.1 hl
  rcases List.mem_or_eq_of_mem_set he with h | rfl
  · exact .inr (List.mem_flatten.2 ⟨e.fp, List.mem_map.2 ⟨e, h, rfl⟩, hxl⟩)
  · exact .inl hxl
/-- A tree of a list replaced by one whose blocks are new or its own. -/
theorem LsV.swap {w w' : World} {l : List Tr} {e : El} {g o lo : Nat} {es : List El} (h : LsV w l e g o es) (ho : Own w lo e.fp) {j : Nat} (hj : j < e.n) {u : El} (hu : es[j]? = some u) {y : Tr} {v : El}
    (hc : Cells5 w' g (o + j * 5) y v) (hl : LsAt w' y.l v) (hv : Own w' lo v.fp) (hnew : ∀ x ∈ v.fp, x ∈ u.fp ∨ w.heap.size ≤ x)
    (hk : ∀ g2 o2, g2 < w.heap.size → g2 ∉ u.fp → (g2 = g → o2 < o + j * 5 ∨ o + j * 5 + 5 ≤ o2) → w'.cell? ⟨g2, o2, none⟩ = w.cell? ⟨g2, o2, none⟩) (hb : ∀ g T cs, Blk w g T cs → ∃ cs2, Blk w' g T cs2) :
    ∃ e2 : El, e2.A = e.A ∧ e2.n = e.n ∧ e2.c = e.c ∧ LsAt w' (l.set j y) e2 ∧ Own w' lo e2.fp ∧ ∀ x ∈ e2.fp, x ∈ e.fp ∨ w.heap.size ≤ x := by
  have hap := h.apart ho.1
  have hlt : ∀ x ∈ e.fp, x < w.heap.size := fun x hx => ho.lt hx
  rw [h.fp] at hlt
  have hg := hlt g List.mem_cons_self
  have h2 := h.put (w' := w') hj hc hl (fun o2 ho2 => hk g o2 hg (fun hx => (hap.2.1 j u hu).1 hx) (fun _ => ho2)) (fun i x hi hx g2 hg2 o2 => hk g2 o2 (hlt g2 (List.mem_cons_of_mem _ (elFp_mem hx hg2))) (fun hx2 => hap.2.2 i j x u hi hx hu g2 hg2 hx2) (fun e2 => absurd (e2 ▸ hg2) ((hap.2.1 i x hx).1)))
  refine ⟨⟨e.A, e.n, e.c, g :: elFp (es.set j v)⟩, rfl, rfl, rfl, h2.close (Nat.lt_of_le_of_lt (Nat.zero_le _) hj), own_set (by rw [← h.fp]; exact ho) hu hv hnew hb, fun x hx => ?_⟩
  rw [h.fp]
  rcases List.mem_cons.1 hx with rfl | hx
  · exact .inl List.mem_cons_self
  · rcases elFp_set_mem hx with hx | hx
    · rcases hnew x hx with h3 | h3
      · exact .inl (List.mem_cons_of_mem _ (elFp_mem hu h3))
      · exact .inr h3
    · exact .inl (List.mem_cons_of_mem _ hx)
/-- One step down. -/
theorem Plug.step {w : World} {lo gx ga oa : Nat} {u : El} {F : Tr → Tr} {q : Tr} (h : Plug w lo gx ga oa u F) (hc : Cells5 w ga oa q u) (hl : LsAt w q.l u) (ho : Own w lo u.fp) (hga : ga ∉ u.fp) (hgl : ga < w.heap.size) {j : Nat} (hj : j < q.l.length) :
    ∃ g o v, u.A = some ⟨g, o, none⟩ ∧ g ∈ u.fp ∧ Cells5 w g (o + j * 5) q.l[j] v ∧ LsAt w q.l[j].l v ∧ Own w lo v.fp ∧ g ∉ v.fp ∧ Plug w lo gx g (o + j * 5) v (fun y => F (q.putL j y)) := by
  have hn := hl.len
  obtain ⟨g, o, es, hV⟩ := hl.open_ (by omega)
  have hje : j < es.length := by rw [hV.eslen]; omega
  have e1 : q.l[j]? = some q.l[j] := List.getElem?_eq_getElem hj
  have e2 : es[j]? = some es[j] := List.getElem?_eq_getElem hje
  have hap := hV.apart ho.1
  have hgu : g ∈ u.fp := by rw [hV.fp]; exact List.mem_cons_self
  have hsub : ∀ x ∈ es[j].fp, x ∈ u.fp := fun x hx => by rw [hV.fp]; exact List.mem_cons_of_mem _ (elFp_mem e2 hx)
  refine ⟨g, o, es[j], hV.adr, hgu, hV.cells j _ _ e1 e2, hV.kids j _ _ e1 e2, ho.sub (hap.2.1 j _ e2).2 hsub, (hap.2.1 j _ e2).1, fun w' y v h1 h2 h3 h4 h5 h6 => ?_⟩
  obtain ⟨e', hA, hnn, hcc, hL, hO, hN⟩ := hV.swap ho (by omega) e2 h1 h2 h3 h4 h5 h6
  refine h w' (q.putL j y) e' ?_ hL hO hN (fun g2 o2 hg2 hn2 hh => h5 g2 o2 hg2 (fun hx => hn2 (hsub g2 hx)) (fun e3 => absurd (e3 ▸ hgu) hn2)) h6
  have hne : ga ≠ g := fun e3 => hga (e3 ▸ hgu)
  have hcw : Cells5 w' ga oa q u := hc.eq5 fun i hi => h5 ga _ hgl (fun hx => hga (hsub ga hx)) (fun e3 => absurd e3 hne)
  obtain ⟨c0, c1, c2, c3, c4⟩ := hcw
  exact ⟨c0, c1, c2, c3, by rw [hA, hnn, hcc]; exact c4⟩
end Go.Proofs.YtmnlkedacnemcaaGreatDoor

namespace Go.Proofs.YtmnlkedacnemcaaGreatDoor
open Go.RowKit

def isW (w : Int) : Bool := decide (w = 1 ∨ w = 2 ∨ w = 4 ∨ w = 8)
def fitsB (n w : Int) : Bool := decide (0 ≤ n ∧ (w = 8 ∨ (w = 4 ∧ n < 4294967296) ∨ (w = 2 ∧ n < 65536) ∨ (w = 1 ∧ n < 256)))
def widthFor (n : Int) : Int := if n < 0 then 0 else if n < 256 then 1 else if n < 65536 then 2 else if n < 4294967296 then 4 else 8
theorem i_isWidth (v : Int) (w : World) :
    Calls Tryz.prog 94 #[.int .i64 v] w fun e w' => e = .returned (.bool (isW v)) ∧ w = w' := by
  by_cases hv : v = 1 ∨ v = 2 ∨ v = 4 ∨ v = 8
  · rcases hv with rfl | rfl | rfl | rfl
    all_goals
      go_enter Tryz.func94, Tryz.ntmps94
      go_wp2_with fail
      go_ret
      exact ⟨ret_bool (by decide), rfl⟩
  · have h1 : (v == 1) = false := by simp; omega
    have h2 : (v == 2) = false := by simp; omega
    have h4 : (v == 4) = false := by simp; omega
    have h8 : (v == 8) = false := by simp; omega
    go_enter Tryz.func94, Tryz.ntmps94
    go_wp2_with fail
    go_ret
    exact ⟨ret_bool (by unfold isW; rw [eq_comm, decide_eq_false_iff_not]; omega), rfl⟩
set_option maxHeartbeats 400000 in
theorem i_fitsInto (n v : Int) (w : World) (hv : v = 1 ∨ v = 2 ∨ v = 4 ∨ v = 8) (hn : n ≤ 9223372036854775807) :
    Calls Tryz.prog 95 #[.int .i64 n, .int .i64 v] w fun e w' => e = .returned (.bool (fitsB n v)) ∧ w = w' := by
  by_cases h0 : 0 ≤ n
  · rcases hv with rfl | rfl | rfl | rfl
    all_goals
      go_enter Tryz.func95, Tryz.ntmps95
      go_wp2_with fail
      go_ret
      exact ⟨ret_bool (by unfold fitsB; rw [Bool.eq_iff_iff]; simp <;> omega), rfl⟩
  · rcases hv with rfl | rfl | rfl | rfl
    all_goals
      go_enter Tryz.func95, Tryz.ntmps95
      go_wp2_with fail
      go_ret
      exact ⟨ret_bool (by unfold fitsB; rw [eq_comm, decide_eq_false_iff_not]; omega), rfl⟩
theorem s_WidthFor (n : Int) (w : World) :
    Calls Tryz.prog 65 #[.int .i64 n] w fun e w' => e = .returned (.int .i64 (widthFor n)) ∧ w = w' := by
  go_enter Tryz.func65, Tryz.ntmps65
  go_wp2_with fail
  all_goals (go_ret; exact ⟨ret_int (by unfold widthFor; repeat' split <;> omega), rfl⟩)
set_option maxHeartbeats 800000 in
theorem i_WidthFor (n : Int) (w : World) (hn : n ≤ 9223372036854775807) :
    Calls Tryz.prog 93 #[.int .i64 n] w fun e w' => e = .returned (.int .i64 (widthFor n)) ∧ w = w' := by
  by_cases h0 : n < 0
  · go_enter Tryz.func93, Tryz.ntmps93
    go_wp2_with fail
    go_ret
    exact ⟨ret_int (by rw [widthFor, if_pos h0]), rfl⟩
  · go_enter Tryz.func93, Tryz.ntmps93
    go_wp2_with fail
    go_loop [3] (fun i => ∃ v : Int, (v = 1 ∨ (v = 2 ∧ 256 ≤ n) ∨ (v = 4 ∧ 65536 ≤ n) ∨ (v = 8 ∧ 4294967296 ≤ n)) ∧ i = .int .i64 v) (fun i => (8 - intOf i).toNat)
    case atStart => exact ⟨1, Or.inl rfl, rfl⟩
    case round =>
      obtain ⟨v, HV, rfl⟩ := hrel
      cases hf : fitsB n v with
      | true =>
        have hv := Lib.hid HV
        have hv4 : v = 1 ∨ v = 2 ∨ v = 4 ∨ v = 8 := by omega
        clear HV
        go_wp2_with (go_at_call 95; refine (i_fitsInto _ _ _ hv4 hn).mono ?_; rintro e w' ⟨rfl, rfl⟩)
        go_ret
        refine ⟨ret_int ?_, rfl⟩
        have h := hv.out
        unfold fitsB at hf
        rw [decide_eq_true_eq] at hf
        unfold widthFor
        rcases h with rfl | ⟨rfl, h⟩ | ⟨rfl, h⟩ | ⟨rfl, h⟩
        all_goals (repeat' split) <;> omega
      | false =>
        have hv : (v = 1 ∧ 256 ≤ n) ∨ (v = 2 ∧ 65536 ≤ n) ∨ (v = 4 ∧ 4294967296 ≤ n) := by
          unfold fitsB at hf
          rw [decide_eq_false_iff_not] at hf
          omega
        clear HV
        rcases hv with ⟨rfl, hv⟩ | ⟨rfl, hv⟩ | ⟨rfl, hv⟩
        all_goals
          go_wp2_with (go_at_call 95; refine (i_fitsInto _ _ _ (by decide) hn).mono ?_; rintro e w' ⟨rfl, rfl⟩)
          go_round
          case rel => exact ⟨_, by omega, rfl⟩
          case measure => simp [intOf]

def headOk (mj n wd : Int) : Bool :=
  decide (0 ≤ mj ∧ mj ≤ 7 ∧ 0 ≤ n ∧ n ≤ 1000000000000000 ∧ ((wd = 0 ∧ n ≤ 23) ∨ (wd = 1 ∧ n < 256) ∨ (wd = 2 ∧ n < 65536) ∨ (wd = 4 ∧ n < 4294967296) ∨ wd = 8 ∨ (wd = -1 ∧ n = 0 ∧ 2 ≤ mj ∧ mj ≠ 6)))
def headV (mj n wd : Int) : Value := .agg #[.int .i64 mj, .int .i64 n, .int .i64 wd]
theorem headOk_no {mj n wd : Int} (h : ¬ (0 ≤ mj ∧ mj ≤ 7 ∧ 0 ≤ n ∧ n ≤ 1000000000000000 ∧ ((wd = 0 ∧ n ≤ 23) ∨ (wd = 1 ∧ n < 256) ∨ (wd = 2 ∧ n < 65536) ∨ (wd = 4 ∧ n < 4294967296) ∨ wd = 8 ∨ (wd = -1 ∧ n = 0 ∧ 2 ≤ mj ∧ mj ≠ 6)))) : false = headOk mj n wd := (decide_eq_false h).symm
theorem headOk_yes {mj n wd : Int} (h : 0 ≤ mj ∧ mj ≤ 7 ∧ 0 ≤ n ∧ n ≤ 1000000000000000 ∧ ((wd = 0 ∧ n ≤ 23) ∨ (wd = 1 ∧ n < 256) ∨ (wd = 2 ∧ n < 65536) ∨ (wd = 4 ∧ n < 4294967296) ∨ wd = 8 ∨ (wd = -1 ∧ n = 0 ∧ 2 ≤ mj ∧ mj ≠ 6))) : true = headOk mj n wd := (decide_eq_true h).symm
set_option maxHeartbeats 1600000 in
theorem i_HeadOk (mj n wd : Int) (w : World) (hn : n ≤ 9223372036854775807) :
    Calls Tryz.prog 79 #[.agg #[.int .i64 mj, .int .i64 n, .int .i64 wd]] w fun e w' => e = .returned (.bool (headOk mj n wd)) ∧ Below w.heap.size w w' := by
  by_cases hm : 0 ≤ mj ∧ mj ≤ 7
  · have hb := inR_yes hm.1 hm.2
    by_cases w0 : wd = 0
    · subst w0
      cases hb2 : inR n 0 23
      all_goals
        have H2 := Lib.hid hb2
        go_enter Tryz.func79, Tryz.ntmps79
        go_wp2_with (go_at_call 56; refine (i_within _ _ _ _).mono ?_; rintro e w' ⟨rfl, rfl⟩)
        go_ret
        refine ⟨ret_bool ?_, Below.one _ _⟩
      · have := inR_not.1 H2.out; exact headOk_no (by omega)
      · have := inR_iff.1 H2.out; exact headOk_yes (by omega)
    by_cases w1 : wd = -1
    · subst w1
      by_cases hc : n = 0 ∧ 2 ≤ mj ∧ mj ≠ 6
      · obtain ⟨rfl, h2, h3⟩ := hc
        have h6 : (mj != 6) = true := by simpa using h3
        go_enter Tryz.func79, Tryz.ntmps79
        go_wp2_with (go_at_call 56; refine (i_within _ _ _ _).mono ?_; rintro e w' ⟨rfl, rfl⟩)
        go_ret
        exact ⟨ret_bool (headOk_yes (by omega)), Below.one _ _⟩
      · by_cases hn0 : n = 0
        · subst hn0
          by_cases h2 : 2 ≤ mj
          · obtain rfl : mj = 6 := by omega
            go_enter Tryz.func79, Tryz.ntmps79
            go_wp2_with (go_at_call 56; refine (i_within _ _ _ _).mono ?_; rintro e w' ⟨rfl, rfl⟩)
            go_ret
            exact ⟨ret_bool (headOk_no (by omega)), Below.one _ _⟩
          · go_enter Tryz.func79, Tryz.ntmps79
            go_wp2_with (go_at_call 56; refine (i_within _ _ _ _).mono ?_; rintro e w' ⟨rfl, rfl⟩)
            go_ret
            exact ⟨ret_bool (headOk_no (by omega)), Below.one _ _⟩
        · have h0 : (n == 0) = false := by simpa using hn0
          go_enter Tryz.func79, Tryz.ntmps79
          go_wp2_with (go_at_call 56; refine (i_within _ _ _ _).mono ?_; rintro e w' ⟨rfl, rfl⟩)
          go_ret
          exact ⟨ret_bool (headOk_no (by omega)), Below.one _ _⟩
    have e0 : (wd == 0) = false := by simpa using w0
    have e1 : (wd == -1) = false := by simpa using w1
    by_cases hv : wd = 1 ∨ wd = 2 ∨ wd = 4 ∨ wd = 8
    · have hw : isW wd = true := decide_eq_true hv
      cases hb2 : inR n 0 1000000000000000 with
      | false =>
        have hx := inR_not.1 hb2
        have H2 := Lib.hid hx; clear hx
        go_enter Tryz.func79, Tryz.ntmps79
        go_wp2_with (first | (go_at_call 56; refine (i_within _ _ _ _).mono ?_; rintro e w' ⟨rfl, rfl⟩) | (go_at_call 94; refine (i_isWidth _ _).mono ?_; rintro e w' ⟨rfl, rfl⟩))
        go_ret
        exact ⟨ret_bool (headOk_no (by have := H2.out; omega)), Below.one _ _⟩
      | true =>
        have hx := inR_iff.1 hb2
        have H2 := Lib.hid hx; clear hx
        have hvv := Lib.hid hv; clear hv
        cases hf : fitsB n wd
        all_goals
          have hf' := Lib.hid hf
          go_enter Tryz.func79, Tryz.ntmps79
          go_wp2_with (first | (go_at_call 56; refine (i_within _ _ _ _).mono ?_; rintro e w' ⟨rfl, rfl⟩) | (go_at_call 94; refine (i_isWidth _ _).mono ?_; rintro e w' ⟨rfl, rfl⟩) | (go_at_call 95; refine (i_fitsInto _ _ _ hvv.out hn).mono ?_; rintro e w' ⟨rfl, rfl⟩))
          go_ret
          refine ⟨ret_bool ?_, Below.one _ _⟩
        · have h1 := decide_eq_false_iff_not.1 hf'.out; have h2 := hvv.out; have h3 := H2.out
          exact headOk_no (by omega)
        · have h1 := of_decide_eq_true (show decide (0 ≤ n ∧ (wd = 8 ∨ (wd = 4 ∧ n < 4294967296) ∨ (wd = 2 ∧ n < 65536) ∨ (wd = 1 ∧ n < 256))) = true from hf'.out); have h2 := hvv.out; have h3 := H2.out
          exact headOk_yes (by omega)
    · have hw : isW wd = false := decide_eq_false hv
      go_enter Tryz.func79, Tryz.ntmps79
      go_wp2_with (first | (go_at_call 56; refine (i_within _ _ _ _).mono ?_; rintro e w' ⟨rfl, rfl⟩) | (go_at_call 94; refine (i_isWidth _ _).mono ?_; rintro e w' ⟨rfl, rfl⟩))
      go_ret
      exact ⟨ret_bool (headOk_no (by omega)), Below.one _ _⟩
  · have hb : inR mj 0 7 = false := inR_no (by omega)
    go_enter Tryz.func79, Tryz.ntmps79
    go_wp2_with (go_at_call 56; refine (i_within _ _ _ _).mono ?_; rintro e w' ⟨rfl, rfl⟩)
    go_ret
    exact ⟨ret_bool (headOk_no (by omega)), Below.one _ _⟩
set_option maxHeartbeats 1600000 in
theorem s_HeadOk (mj n wd : Int) (w : World) :
    Calls Tryz.prog 63 #[.agg #[.int .i64 mj, .int .i64 n, .int .i64 wd]] w fun e w' => e = .returned (.bool (headOk mj n wd)) ∧ Below w.heap.size w w' := by
  by_cases hm : 0 ≤ mj ∧ mj ≤ 7
  · have hb := inR_yes hm.1 hm.2
    by_cases hn : 0 ≤ n ∧ n ≤ 1000000000000000
    · have hb2 := inR_yes hn.1 hn.2
      by_cases hv : wd = 0 ∨ wd = 1 ∨ wd = 2 ∨ wd = 4 ∨ wd = 8
      · have hm2 := Lib.hid hm
        have hn2 := Lib.hid hn
        clear hm hn
        rcases hv with rfl | rfl | rfl | rfl | rfl
        · go_enter Tryz.func63, Tryz.ntmps63
          go_wp2_with (go_at_call 42; refine (s_l1In _ _ _ _).mono ?_; rintro e w' ⟨rfl, rfl⟩)
          go_ret
          refine ⟨ret_bool ?_, Below.one _ _⟩
          have h1 := hm2.out
          have h2 := hn2.out
          unfold headOk
          rw [decide_eq_decide]; omega
        all_goals
          go_enter Tryz.func63, Tryz.ntmps63
          go_wp2_with (go_at_call 42; refine (s_l1In _ _ _ _).mono ?_; rintro e w' ⟨rfl, rfl⟩)
          go_quiet ((go_at_call 65; exact quiet_left (s_WidthFor _ _)))
          go_wp2
          go_ret
          refine ⟨ret_bool ?_, below_drewN (Below.one _ _) _⟩
          have h1 := hm2.out
          have h2 := hn2.out
          unfold headOk
          rw [decide_eq_decide]; unfold widthFor; (repeat' split) <;> omega
      · by_cases w1 : wd = -1
        · subst w1
          by_cases hn0 : n = 0
          · subst hn0
            by_cases h2 : mj = 0 ∨ mj = 1 ∨ mj = 6
            · rcases h2 with rfl | rfl | rfl
              all_goals
                go_enter Tryz.func63, Tryz.ntmps63
                go_wp2_with (go_at_call 42; refine (s_l1In _ _ _ _).mono ?_; rintro e w' ⟨rfl, rfl⟩)
                go_ret
                exact ⟨ret_bool (by decide), Below.one _ _⟩
            · have e0 : (mj != 0) = true := by simp; omega
              have e1 : (mj != 1) = true := by simp; omega
              have e6 : (mj != 6) = true := by simp; omega
              go_enter Tryz.func63, Tryz.ntmps63
              go_wp2_with (go_at_call 42; refine (s_l1In _ _ _ _).mono ?_; rintro e w' ⟨rfl, rfl⟩)
              go_ret
              exact ⟨ret_bool (headOk_yes (by omega)), Below.one _ _⟩
          · have h0 : (n == 0) = false := by simpa using hn0
            go_enter Tryz.func63, Tryz.ntmps63
            go_wp2_with (go_at_call 42; refine (s_l1In _ _ _ _).mono ?_; rintro e w' ⟨rfl, rfl⟩)
            go_ret
            exact ⟨ret_bool (headOk_no (by omega)), Below.one _ _⟩
        · have e0 : (wd == 0) = false := by simp; omega
          have e1 : (wd == 1) = false := by simp; omega
          have e2 : (wd == 2) = false := by simp; omega
          have e4 : (wd == 4) = false := by simp; omega
          have e8 : (wd == 8) = false := by simp; omega
          have e9 : (wd == -1) = false := by simpa using w1
          go_enter Tryz.func63, Tryz.ntmps63
          go_wp2_with (go_at_call 42; refine (s_l1In _ _ _ _).mono ?_; rintro e w' ⟨rfl, rfl⟩)
          go_ret
          exact ⟨ret_bool (headOk_no (by omega)), Below.one _ _⟩
    · have hb2 : inR n 0 1000000000000000 = false := inR_no (by omega)
      go_enter Tryz.func63, Tryz.ntmps63
      go_wp2_with (go_at_call 42; refine (s_l1In _ _ _ _).mono ?_; rintro e w' ⟨rfl, rfl⟩)
      go_ret
      exact ⟨ret_bool (headOk_no (by omega)), Below.one _ _⟩
  · have hb : inR mj 0 7 = false := inR_no (by omega)
    go_enter Tryz.func63, Tryz.ntmps63
    go_wp2_with (go_at_call 42; refine (s_l1In _ _ _ _).mono ?_; rintro e w' ⟨rfl, rfl⟩)
    go_ret
    exact ⟨ret_bool (headOk_no (by omega)), Below.one _ _⟩
end Go.Proofs.YtmnlkedacnemcaaGreatDoor
