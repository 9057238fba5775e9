/- The plain law of paths: a tree put at a place is found there, and all else is as it was. No function of the program in sight. The plain law of all paths: each leads to a value, they ascend, and there are as many as values. No function of the program in sight. The cursor over a code: what it draws lies in bounds. -/
import Derived.Test.YtpafgmlkbbbmhaaDoorPqM14
import Derived.Test.YtpafgmlkbbbmhaaDoorPqM10
import Derived.Test.YtpafgmlkbbbmhaaDoorPqM4
import Derived.Deep.QuietTactic
import Derived.BigQuiet
set_option linter.unusedVariables false
set_option maxRecDepth 100000
set_option linter.unusedSimpArgs false
namespace Go.Proofs.YtpafgmlkbbbmhaaDoor
open Go.RowKit

/-- How many values a tree has. -/
noncomputable def valT : Tr → Nat := Tr.fold fun _ _ _ _ _ ih => 1 + ih.sum
theorem valT_eq (t : Tr) : valT t = 1 + (t.l.map valT).sum := by
  obtain ⟨k, n, x, s, l⟩ := t
  show Tr.fold _ _ = _
  rw [Tr.fold_mk]
  rfl
theorem sum_set (f : Tr → Nat) : ∀ (l : List Tr) (j : Nat) (h : j < l.length) (y : Tr), ((l.set j y).map f).sum + f l[j] = (l.map f).sum + f y
  | [], j, h, y => by cases h
  | a :: l, 0, h, y => by simp only [List.set_cons_zero, List.map_cons, List.sum_cons, List.getElem_cons_zero]; omega
  | a :: l, j + 1, h, y => by
    have ih := sum_set f l j (by simpa using h) y
    simp only [List.set_cons_succ, List.map_cons, List.sum_cons, List.getElem_cons_succ]; omega
theorem mem_le_sum : ∀ {l : List Nat} {a : Nat}, a ∈ l → a ≤ l.sum
  | b :: l, a, h => by
    rw [List.sum_cons]
    rcases List.mem_cons.1 h with rfl | h
    · omega
    · have := mem_le_sum h; omega
theorem stepT_some {t u : Tr} {p : Int × Bool} (h : stepT t p = some u) : ∃ j, ∃ hj : j < t.l.length, place t.k t.l.length p.1 p.2 = (j : Int) ∧ u = t.l[j] := by
  rcases place_lt t.k t.l.length p.1 p.2 with hp | hp
  · rw [stepT_no hp (by omega)] at h; cases h
  · obtain ⟨j, hj⟩ := Int.eq_ofNat_of_zero_le hp.1
    have hlt : j < t.l.length := by omega
    rw [stepT_yes hj hlt] at h
    exact ⟨j, hlt, hj, (Option.some.inj h).symm⟩
theorem putAt_at : ∀ (p : List (Int × Bool)) (v x : Tr), (putAt v p x).isSome = (atPath v p).isSome
  | [], v, x => rfl
  | q :: p, v, x => by
    cases hs : stepT v q with
    | none => rw [putAt_no hs]; simp [atPath, hs]
    | some u =>
      rw [putAt_yes hs]
      simp only [atPath, hs, Option.isSome_map]
      exact putAt_at p u x
/-- What is put is there; putting the old one back gives the old tree; the count differs by the two. -/
theorem put_all : ∀ (p : List (Int × Bool)) (v x y : Tr), putAt v p x = some y →
    ∃ old, atPath v p = some old ∧ putAt y p old = some v ∧ atPath y p = some x ∧ valT y + valT old = valT v + valT x ∧ y.sz ≤ v.sz + x.sz ∧ old.sz ≤ v.sz ∧ valT old ≤ valT v
  | [], v, x, y, h => by
    simp only [putAt, Option.some.injEq] at h
    subst h
    exact ⟨v, rfl, rfl, rfl, by omega, by omega, by omega, by omega⟩
  | q :: p, v, x, y, h => by
    cases hs : stepT v q with
    | none => rw [putAt_no hs] at h; cases h
    | some u =>
      rw [putAt_yes hs] at h
      obtain ⟨j, hj, hp, rfl⟩ := stepT_some hs
      obtain ⟨y', hy', rfl⟩ := Option.map_eq_some_iff.1 h
      obtain ⟨old, h1, h2, h3, h4, h5, h6, h7⟩ := put_all p _ _ _ hy'
      have hv := v.sz_eq
      have hc := valT_eq v
      have hp0 := hp
      rw [hp, Int.toNat_natCast]
      have hst : stepT (v.putL j y') q = some y' := by
        rw [stepT_yes (j := j) (by simpa [Tr.putL] using hp0) (by simpa [Tr.putL] using hj)]
        simp [Tr.putL]
      have hplace : place (v.putL j y').k (v.putL j y').l.length q.1 q.2 = (j : Int) := by simpa [Tr.putL] using hp0
      have e1 := sum_set valT v.l j hj y'
      have e2 := sum_set Tr.sz v.l j hj y'
      have e3 := valT_eq (v.putL j y')
      have e4 := (v.putL j y').sz_eq
      have e5 : valT v.l[j] ≤ (v.l.map valT).sum := mem_le_sum (List.mem_map.2 ⟨_, List.getElem_mem hj, rfl⟩)
      have e6 : v.l[j].sz ≤ (v.l.map Tr.sz).sum := mem_le_sum (List.mem_map.2 ⟨_, List.getElem_mem hj, rfl⟩)
      simp only [Tr.putL, szL, List.length_set] at e3 e4 hv
      refine ⟨old, by simp only [atPath, hs]; exact h1, ?_, by simp only [atPath, hst]; exact h3, ?_, ?_, by omega, by omega⟩
      · rw [putAt_yes hst, h2, hplace, Int.toNat_natCast]
        obtain ⟨k, n, x, s, l⟩ := v
        simp [Tr.putL]
      · simp only [Tr.putL] at *; omega
      · simp only [Tr.putL] at *; omega
end Go.Proofs.YtpafgmlkbbbmhaaDoor

namespace Go.Proofs.YtpafgmlkbbbmhaaDoor
open Go.RowKit

/-- The order of two steps, and of two paths. -/
def lessS (a b : Int × Bool) : Bool := decide (a.1 < b.1) || (decide (a.1 = b.1) && a.2)
def lessP : Pth → Pth → Bool
  | [], [] => false
  | [], _ :: _ => true
  | _ :: _, [] => false
  | a :: xs, b :: ys => if a = b then lessP xs ys else lessS a b
theorem lessP_app : ∀ (p a b : Pth), lessP (p ++ a) (p ++ b) = lessP a b
  | [], a, b => rfl
  | q :: p, a, b => by simp only [List.cons_append, lessP, if_true]; exact lessP_app p a b
theorem place_stepTo (k : Int) (n j : Nat) (hj : j < n) : place k n (stepTo k j).1 (stepTo k j).2 = (j : Int) := by
  unfold place stepTo
  by_cases hk : k = 10
  · simp only [hk, if_true]
    by_cases he : j % 2 = 0
    · simp only [he, decide_true, if_true]
      rw [if_pos (by omega)]
      omega
    · simp only [he, decide_false, if_false, Bool.false_eq_true]
      rw [if_pos (by omega)]
      omega
  · simp only [hk, if_false]
    rw [if_pos (by refine ⟨trivial, by omega, by omega⟩)]
theorem stepT_stepTo {t : Tr} {j : Nat} (hj : j < t.l.length) : stepT t (stepTo t.k j) = some t.l[j] := stepT_yes (place_stepTo _ _ _ hj) hj
theorem stepTo_less (k : Int) (i j : Nat) (h : i < j) : stepTo k i ≠ stepTo k j ∧ lessS (stepTo k i) (stepTo k j) = true := by
  unfold stepTo lessS
  by_cases hk : k = 10
  · simp only [hk, if_true, ne_eq, Prod.mk.injEq, Bool.or_eq_true, Bool.and_eq_true, decide_eq_true_eq, decide_eq_decide]
    refine ⟨fun ⟨h1, h2⟩ => ?_, ?_⟩ <;> omega
  · simp only [hk, if_false, ne_eq, Prod.mk.injEq, Bool.or_eq_true, Bool.and_eq_true, decide_eq_true_eq]
    refine ⟨fun ⟨h1, h2⟩ => ?_, .inl ?_⟩ <;> omega
/-- What the paths of a tree are. -/
structure GoodPs (t : Tr) (p : Pth) : Prop where
  each : ∀ q ∈ pathsT t p, ∃ r, q = p ++ r ∧ (atPath t r).isSome = true
  asc : (pathsT t p).Pairwise fun a b => lessP a b = true
  cnt : (pathsT t p).length = valT t
  st : ∀ q ∈ pathsT t p, ∀ s ∈ q, s ∈ p ∨ (0 ≤ s.1 ∧ s.1 ≤ (t.sz : Int))
theorem goodPs (t : Tr) : ∀ p : Pth, GoodPs t p := by
  refine Tr.ind (P := fun t => ∀ p : Pth, GoodPs t p) (fun t ih p => ?_) t
  have hsz := t.sz_eq
  have hszl : szL t.l = t.l.length + (t.l.map Tr.sz).sum := rfl
  have key : ∀ j, j ≤ t.l.length →
      (∀ q ∈ pathsK t p j, ∃ i s r, i < j ∧ s = stepTo t.k i ∧ q = p ++ s :: r ∧ (atPath t (s :: r)).isSome = true) ∧
      ((pathsK t p j).Pairwise fun a b => lessP a b = true) ∧ (pathsK t p j).length = ((t.l.take j).map valT).sum ∧
      (∀ q ∈ pathsK t p j, ∀ s ∈ q, s ∈ p ∨ (0 ≤ s.1 ∧ s.1 ≤ (t.sz : Int))) := by
    intro j
    induction j with
    | zero => intro _; simp [pathsK]
    | succ j ihj =>
      intro hj
      obtain ⟨h1, h2, h3, h4⟩ := ihj (by omega)
      have hlt : j < t.l.length := by omega
      have hu := ih t.l[j] (List.getElem_mem hlt) (p ++ [stepTo t.k j])
      have hus : t.l[j].sz ≤ (t.l.map Tr.sz).sum := mem_le_sum (List.mem_map.2 ⟨_, List.getElem_mem hlt, rfl⟩)
      rw [pathsK_succ hlt]
      have hnew : ∀ q ∈ pathsT t.l[j] (p ++ [stepTo t.k j]), ∃ r, q = p ++ stepTo t.k j :: r ∧ (atPath t (stepTo t.k j :: r)).isSome = true := fun q hq => by
        obtain ⟨r, rfl, hr⟩ := hu.each q hq
        exact ⟨r, by simp, by simp only [atPath, stepT_stepTo hlt]; exact hr⟩
      refine ⟨fun q hq => ?_, ?_, ?_, fun q hq s hs => ?_⟩
      · rcases List.mem_append.1 hq with h5 | h5
        · obtain ⟨i, s, r, hi, hs, e, ha⟩ := h1 q h5
          exact ⟨i, s, r, by omega, hs, e, ha⟩
        · obtain ⟨r, e, ha⟩ := hnew q h5
          exact ⟨j, _, r, by omega, rfl, e, ha⟩
      · refine List.pairwise_append.2 ⟨h2, hu.asc, fun a ha b hb => ?_⟩
        obtain ⟨i, s, r, hi, rfl, rfl, -⟩ := h1 a ha
        obtain ⟨r2, rfl, -⟩ := hnew b hb
        rw [lessP_app]
        have hst := stepTo_less t.k i j hi
        simp only [lessP, if_neg hst.1]
        exact hst.2
      · rw [List.length_append, h3, hu.cnt, List.take_succ_eq_append_getElem hlt, List.map_append, List.sum_append]
        simp
      · rcases List.mem_append.1 hq with h5 | h5
        · exact h4 q h5 s hs
        · rcases hu.st q h5 s hs with h6 | h6
          · rcases List.mem_append.1 h6 with h7 | h7
            · exact .inl h7
            · refine .inr ?_
              rw [List.mem_singleton] at h7
              subst h7
              unfold stepTo
              split <;> exact ⟨by simp only []; omega, by simp only []; omega⟩
          · exact .inr ⟨h6.1, by omega⟩
  obtain ⟨h1, h2, h3, h4⟩ := key t.l.length (Nat.le_refl _)
  rw [List.take_of_length_le (Nat.le_refl _)] at h3
  constructor
  · rw [pathsT_eq]
    intro q hq
    rcases List.mem_cons.1 hq with rfl | h5
    · exact ⟨[], by simp, rfl⟩
    · obtain ⟨i, s, r, -, -, e, ha⟩ := h1 q h5
      exact ⟨s :: r, e, ha⟩
  · rw [pathsT_eq]
    refine List.pairwise_cons.2 ⟨fun b hb => ?_, h2⟩
    obtain ⟨i, s, r, -, -, rfl, -⟩ := h1 b hb
    have := lessP_app p [] (s :: r)
    rw [List.append_nil] at this
    rw [this]
    rfl
  · rw [pathsT_eq, List.length_cons, h3, valT_eq]
    omega
  · rw [pathsT_eq]
    intro q hq s hs
    rcases List.mem_cons.1 hq with rfl | h5
    · exact .inl hs
    · exact h4 q h5 s hs
theorem pathsT_head (t : Tr) : (pathsT t [])[0]? = some [] := by rw [pathsT_eq]; rfl
end Go.Proofs.YtpafgmlkbbbmhaaDoor

namespace Go.Proofs.YtpafgmlkbbbmhaaDoor
open Go.RowKit

theorem and_255 (y : Int) : 0 ≤ bits .and .i64 y 255 ∧ bits .and .i64 y 255 ≤ 255 := by
  have h : bits .and .i64 y 255 = IntKind.i64.wrap ((BitVec.ofInt 64 y &&& BitVec.ofInt 64 255).toNat : Int) := rfl
  have h2 : (BitVec.ofInt 64 y &&& BitVec.ofInt 64 255).toNat ≤ 255 := by
    rw [BitVec.toNat_and]
    exact Nat.le_trans Nat.and_le_right (by decide)
  rw [h, IntKind.wrap_i64]
  omega
/-- A cursor in block g over the bytes b, which lie below B. -/
def Cur (w : World) (B g : Nat) (A : Option Addr) (n c : Nat) (b : List UInt8) : Prop :=
  B ≤ g ∧ n ≤ 1048576 ∧ Sl w B 1 A n c (u8s b) ∧ ∃ (i : Nat) (h : Int), i ≤ n ∧ Blk w g 60 #[.slice A n c, .int .i64 i, .int .i64 h]
section
variable {w w' : World} {B g n c : Nat} {A : Option Addr} {b : List UInt8}
theorem Cur.lt (h : Cur w B g A n c b) : g < w.heap.size := by
  obtain ⟨_, _, _, i, x, _, hb⟩ := h
  exact hb.lt
theorem Cur.below (h : Cur w B g A n c b) (hb : Below w.heap.size w w') : Cur w' B g A n c b := by
  have hl := h.lt
  obtain ⟨h1, h2, h3, i, x, h4, h5⟩ := h
  exact ⟨h1, h2, h3.below (hb.mono (by omega)), i, x, h4, h5.below hb hl⟩
end
set_option maxHeartbeats 1000000 in
theorem s_l1Byte (B g n c : Nat) (A : Option Addr) (b : List UInt8) (w : World) (h : Cur w B g A n c b) :
    Calls Tryd.prog 60 #[.pointer (some ⟨g, 0, none⟩)] w fun r w' => ∃ x : Int, r = .returned (.int .i64 x) ∧ (0 ≤ x ∧ x ≤ 255) ∧ Cur w' B g A n c b ∧ Fr [g] w w' := by
  obtain ⟨h1, h2, h3, i, y, h4, h5⟩ := h
  obtain ⟨c0, c1, c2⟩ : w.cell? ⟨g, 0, none⟩ = some (.slice A n c) ∧ w.cell? ⟨g, 1, none⟩ = some (.int .i64 i) ∧ w.cell? ⟨g, 2, none⟩ = some (.int .i64 y) := ⟨h5.cell 0, h5.cell 1, h5.cell 2⟩
  have f0 := h5.frozen 0
  have f1 := h5.frozen 1
  have f2 := h5.frozen 2
  have hlt := h5.lt
  have H1 : ∀ v : Int, Blk (w.setCell ⟨g, 2, none⟩ (.int .i64 v)) g 60 #[.slice A n c, .int .i64 i, .int .i64 v] := fun v => by simpa using h5.set_ 2 (.int .i64 v)
  have F1 : ∀ v : Int, Fr [g] w (w.setCell ⟨g, 2, none⟩ (.int .i64 v)) := fun v => (Fr.refl _ _).setCell (by simp) _
  have S1 : ∀ v : Int, Sl (w.setCell ⟨g, 2, none⟩ (.int .i64 v)) B 1 A n c (u8s b) := fun v => h3.setCell h1 _
  by_cases hi : i < n
  · obtain ⟨g2, o, rfl, hg2, hb, hc⟩ := h3.byte hi
    have hne : g2 ≠ g := by omega
    have hne2 : g ≠ g2 := by omega
    have H2 : ∀ v u : Int, Blk ((w.setCell ⟨g, 2, none⟩ (.int .i64 v)).setCell ⟨g, 1, none⟩ (.int .i64 u)) g 60 #[.slice (some ⟨g2, o, none⟩) n c, .int .i64 u, .int .i64 v] := fun v u => by simpa using (H1 v).set_ 1 (.int .i64 u)
    go_enter Tryd.func60, Tryd.ntmps60
    go_wp2_with fail
    go_quiet (fail)
    go_wp2_with fail
    go_quiet (fail)
    go_wp2_with fail
    go_quiet (fail)
    go_wp2_with fail
    go_ret
    exact ⟨_, rfl, and_255 _, ⟨h1, h2, ((S1 _).drewN _).setCell h1 _, i + 1, wrap64 (wrap64 (y * 6364136223846793005) + 1442695040888963407), by omega, by simpa using ((H1 _).drewN _).set_ 1 (.int .i64 ((i : Int) + 1))⟩, ((F1 _).drewN _).setCell (by simp) _⟩
  · go_enter Tryd.func60, Tryd.ntmps60
    go_wp2_with fail
    go_quiet (fail)
    go_wp2_with fail
    go_quiet (fail)
    go_wp2_with fail
    go_ret
    exact ⟨_, rfl, and_255 _, ⟨h1, h2, ((S1 _).drewN _).drewN _, i, wrap64 (wrap64 (y * 6364136223846793005) + 1442695040888963407), h4, ((H1 _).drewN _).drewN _⟩, ((F1 _).drewN _).drewN _⟩
/-- What is drawn below m. -/
def InBelow (x m : Int) : Prop := (m ≤ 0 → x = 0) ∧ (0 < m → 0 ≤ x ∧ x < m)
set_option maxHeartbeats 1000000 in
theorem s_l1Below (B g n c : Nat) (A : Option Addr) (b : List UInt8) (m : Int) (w : World) (h : Cur w B g A n c b) (hm : m ≤ 9223372036854775807) :
    Calls Tryd.prog 38 #[.pointer (some ⟨g, 0, none⟩), .int .i64 m] w fun r w' => ∃ x : Int, r = .returned (.int .i64 x) ∧ InBelow x m ∧ Cur w' B g A n c b ∧ Fr [g] w w' := by
  by_cases h0 : m ≤ 0
  · go_enter Tryd.func38, Tryd.ntmps38
    go_wp2_with fail
    go_ret
    exact ⟨0, rfl, ⟨fun _ => rfl, fun h => by omega⟩, h, Fr.refl _ _⟩
  · have hm0 : ¬ m = 0 := by omega
    have hmz : (m == 0) = false := by simp; omega
    by_cases h1 : m ≤ 256
    · go_enter Tryd.func38, Tryd.ntmps38
      go_wp2_with (go_at_call 60; refine (s_l1Byte B g n c A b _ h).mono ?_; rintro r w1 ⟨x, rfl, hx, hC, hf⟩)
      go_ret
      exact ⟨_, rfl, ⟨fun h => by omega, fun h => ⟨Int.emod_nonneg _ (by omega), Int.emod_lt_of_pos _ h⟩⟩, hC, hf⟩
    · go_enter Tryd.func38, Tryd.ntmps38
      go_wp2_with fail
      refine (s_l1Byte B g n c A b _ h).mono ?_; rintro r w1 ⟨x, rfl, hx, hC1, hf1⟩
      go_wp2_with fail
      refine (s_l1Byte B g n c A b _ hC1).mono ?_; rintro r w2 ⟨y, rfl, hy, hC2, hf2⟩
      go_wp2_with fail
      refine (s_l1Byte B g n c A b _ hC2).mono ?_; rintro r w3 ⟨z, rfl, hz, hC3, hf3⟩
      go_wp2_with fail
      go_ret
      exact ⟨_, rfl, ⟨fun h => by omega, fun h => ⟨Int.emod_nonneg _ (by omega), Int.emod_lt_of_pos _ h⟩⟩, hC3, (hf1.trans hf2).trans hf3⟩
theorem s_l1Once (B g n c : Nat) (A : Option Addr) (b : List UInt8) (m : Int) (w : World) (h : Cur w B g A n c b) (hm : m ≤ 9223372036854775807) :
    Calls Tryd.prog 42 #[.pointer (some ⟨g, 0, none⟩), .int .i64 m] w fun r w' => ∃ x : Bool, r = .returned (.bool x) ∧ Cur w' B g A n c b ∧ Fr [g] w w' := by
  go_enter Tryd.func42, Tryd.ntmps42
  go_wp2_with (go_at_call 38; refine (s_l1Below B g n c A b m _ h hm).mono ?_; rintro r w1 ⟨x, rfl, hx, hC, hf⟩)
  go_ret
  exact ⟨_, rfl, hC, hf⟩
/-- One of the numbers of a list; the list lies in memory of its own, below the world's end. -/
theorem s_l1Int (B g n c : Nat) (A : Option Addr) (b : List UInt8) (A2 : Option Addr) (m c2 : Nat) (l : List Int) (w : World) (h : Cur w B g A n c b) (hl : Sl w w.heap.size 1 A2 m c2 (i64s l)) (hg : ∀ x ∈ blkOf A2, x ≠ g) (hm : 0 < m) :
    Calls Tryd.prog 40 #[.pointer (some ⟨g, 0, none⟩), .slice A2 m c2] w fun r w' => ∃ x : Int, r = .returned (.int .i64 x) ∧ x ∈ l ∧ Cur w' B g A n c b ∧ Fr [g] w w' := by
  have hm9 : (m : Int) ≤ 9223372036854775807 := by have := hl.cap; have := hl.max; unfold maxLen at *; omega
  have hll : l.length = m := by have := hl.len; simp [i64s] at this; omega
  go_enter Tryd.func40, Tryd.ntmps40
  go_wp2_with (go_at_call 38; refine (s_l1Below B g n c A b m _ h hm9).mono ?_; rintro r w1 ⟨x, rfl, hx, hC, hf⟩; obtain ⟨hx0, hx1⟩ := hx.2 (by omega); obtain ⟨k, rfl⟩ := Int.eq_ofNat_of_zero_le hx0; obtain ⟨g2, o, rfl, hg2, hb2, hc⟩ := hl.int (k := k) (by omega); have hc1 := (World.cell?_of_block (w := w) (w' := w1) (a := ⟨g2, o + k, none⟩) (hf.block g2 hg2 (by simpa using hg g2 (by simp [blkOf])))).trans hc)
  go_ret
  exact ⟨_, rfl, List.getElem_mem _, hC, hf⟩
end Go.Proofs.YtpafgmlkbbbmhaaDoor
