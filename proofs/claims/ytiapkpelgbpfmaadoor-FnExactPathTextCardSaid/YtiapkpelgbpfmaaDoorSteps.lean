/- Steps of paths: the laws' helpers on them. -/
import Derived.Test.YtiapkpelgbpfmaaDoorBs
import Derived.Deep.LoopGhost
import Derived.Deep.RegionHeld3
set_option linter.unusedVariables false
set_option maxRecDepth 100000
set_option linter.unusedSimpArgs false
namespace Go.Proofs.YtiapkpelgbpfmaaDoor
open Go.RowKit

def stC : List (Int × Bool) → List Value
  | [] => []
  | p :: ps => .int .i64 p.1 :: .bool p.2 :: stC ps
theorem stC_len : ∀ ps : List (Int × Bool), (stC ps).length = ps.length * 2
  | [] => rfl
  | p :: ps => by simp only [stC, List.length_cons, stC_len ps]; omega
theorem stC_get : ∀ (ps : List (Int × Bool)) (j : Nat) (h : j < ps.length), (stC ps)[j * 2]? = some (.int .i64 ps[j].1) ∧ (stC ps)[j * 2 + 1]? = some (.bool ps[j].2)
  | [], j, h => by cases h
  | p :: ps, 0, h => ⟨rfl, rfl⟩
  | p :: ps, j + 1, h => by
    have ih := stC_get ps j (by simpa using h)
    have e : ∀ i, (stC (p :: ps))[(j + 1) * 2 + i]? = (stC ps)[j * 2 + i]? := fun i => by
      rw [show (j + 1) * 2 + i = (j * 2 + i) + 1 + 1 by omega]
      rfl
    exact ⟨(e 0).trans ih.1, (e 1).trans ih.2⟩
theorem stC_app : ∀ (a b : List (Int × Bool)), stC (a ++ b) = stC a ++ stC b
  | [], b => rfl
  | p :: a, b => by simp only [List.cons_append, stC, stC_app a b]
theorem stC_set : ∀ (ps : List (Int × Bool)) (j : Nat) (q : Int × Bool), j < ps.length → ((stC ps).set (j * 2) (.int .i64 q.1)).set (j * 2 + 1) (.bool q.2) = stC (ps.set j q)
  | [], j, q, h => by cases h
  | p :: ps, 0, q, h => rfl
  | p :: ps, j + 1, q, h => by
    have ih := stC_set ps j q (by simpa using h)
    rw [show (j + 1) * 2 = j * 2 + 1 + 1 by omega, show j * 2 + 1 + 1 + 1 = (j * 2 + 1) + 1 + 1 by omega]
    simp only [stC, List.set_cons_succ, ih]
/-- Steps that lie in memory. -/
theorem Sl.stp {w : World} {B n c : Nat} {A : Option Addr} {ps : List (Int × Bool)} (h : Sl w B 2 A n c (stC ps)) {j : Nat} (hj : j < n) :
    ∃ g o, ∃ hl : j < ps.length, A = some ⟨g, o, none⟩ ∧ g < B ∧ w.cell? ⟨g, o + j * 2, none⟩ = some (.int .i64 ps[j].1) ∧ w.cell? ⟨g, o + j * 2 + 1, none⟩ = some (.bool ps[j].2) := by
  have hl : j < ps.length := by have := h.len; rw [stC_len] at this; omega
  obtain ⟨g, o, e, hg, hc⟩ := h.at_ (by omega)
  exact ⟨g, o, hl, e, hg, hc _ _ (stC_get ps j hl).1, by rw [Nat.add_assoc]; exact hc _ _ (stC_get ps j hl).2⟩
theorem Sl.stlen {w : World} {B n c : Nat} {A : Option Addr} {ps : List (Int × Bool)} (h : Sl w B 2 A n c (stC ps)) : ps.length = n := by have := h.len; rw [stC_len] at this; omega
/-- Steps in a row of the call's own. -/
def SS (w : World) (lo : Nat) (A : Option Addr) (n c : Nat) (ps : List (Int × Bool)) : Prop := w.ownsRow lo 79 2 (.slice A n c) n (stC ps)
section
variable {w w' : World} {lo n c : Nat} {A : Option Addr} {ps : List (Int × Bool)}
theorem SS.sl (h : SS w lo A n c ps) : Sl w w.heap.size 2 A n c (stC ps) := Sl.of_own h
theorem SS.len (h : SS w lo A n c ps) : ps.length = n := h.sl.stlen
theorem SS.lt (h : SS w lo A n c ps) {g : Nat} (hg : g ∈ blkOf A) : lo ≤ g ∧ g < w.heap.size := by
  refine World.ownsRow.lt h g ?_
  cases A with
  | none => simp [blkOf] at hg
  | some a => simp [blkOf] at hg; simp [hg, Value.ownBlock]
theorem SS.fr {fp : List Nat} (h : SS w lo A n c ps) (hf : Fr fp w w') (hd : ∀ g ∈ blkOf A, g ∉ fp) : SS w' lo A n c ps := by
  have h0 := fun g hg => (SS.lt h (g := g) hg).2
  refine ⟨h.1, ?_⟩
  rcases h.2 with h1 | ⟨g, cap, cur, h1, h2, h3, h4⟩
  · exact .inl h1
  · simp only [Value.slice.injEq] at h1
    have hg : g ∈ blkOf A := by rw [h1.1]; simp [blkOf]
    exact .inr ⟨g, cap, cur, by rw [h1.1, h1.2.2], h2, (hf.block g (h0 g hg) (hd g hg)).trans h3, h4⟩
theorem SS.below (h : SS w lo A n c ps) (hb : Below w.heap.size w w') : SS w' lo A n c ps := h.fr (fp := []) (Fr.of_below hb) (fun _ _ h => by cases h)
end
theorem info_step : (Tryd.prog.info? 79).map (fun i => (i.zero, i.size, i.bytes)) = some (some (.agg #[.int .i64 0, .bool false]), 2, 16) := by kernel_rfl
theorem l_toStep (a : Int) (b : Bool) (w : World) :
    Calls Tryd.prog 61 #[.agg #[.int .i64 a, .bool b]] w fun e w' => e = .returned (.agg #[.int .i64 a, .bool b]) ∧ Below w.heap.size w w' := by
  go_enter Tryd.func61, Tryd.ntmps61
  go_wp2_with fail
  exact bodyPost_ret (v := .agg #[.int .i64 a, .bool b]) (by simp [results, Tryd.results61, go_sem]) rfl ⟨rfl, Below.three _ _ _ _⟩
theorem l_eqStep (a : Int) (b : Bool) (w : World) :
    Calls Tryd.prog 65 #[.agg #[.int .i64 a, .bool b], .agg #[.int .i64 a, .bool b]] w fun e w' => e = .returned (.bool true) ∧ Below w.heap.size w w' := by
  go_enter Tryd.func65, Tryd.ntmps65
  go_wp2_with fail
  go_ret
  exact ⟨rfl, Below.two _ _ _⟩
theorem l_szStepS (A : Option Addr) (n c : Nat) (left : Int) (w : World) (hn : n ≤ 9223372036854775807) (h0 : 0 ≤ left) (h1 : left ≤ 1048576) :
    Calls Tryd.prog 20 #[.slice A n c, .int .i64 left] w fun e w' => e = .returned (.int .i64 (if (n : Int) ≤ left then left - n else -1)) ∧ w = w' := by
  by_cases hle : (n : Int) ≤ left
  · rw [if_pos hle]
    go_enter Tryd.func20, Tryd.ntmps20
    go_wp2_with fail
    go_ret
    exact ⟨rfl, rfl⟩
  · rw [if_neg hle]
    go_enter Tryd.func20, Tryd.ntmps20
    go_wp2_with fail
    go_ret
    exact ⟨rfl, rfl⟩
theorem arr_at {xs ys : List Value} {y : Value} {i : Nat} (h : xs.length = i) : (xs ++ y :: ys).toArray[i]? = some y := by subst h; simp
theorem arr_set {xs ys : List Value} {y0 y1 a b : Value} {i : Nat} (h : xs.length = i) : ((xs ++ y0 :: y1 :: ys).toArray.setIfInBounds i a).setIfInBounds (i + 1) b = (xs ++ a :: b :: ys).toArray := by
  subst h
  simp only [List.setIfInBounds_toArray]
  congr 1
  rw [List.set_append_right _ _ (Nat.le_refl _), Nat.sub_self, List.set_cons_zero, List.set_append_right _ _ (Nat.le_succ _), Nat.succ_sub (Nat.le_refl _), Nat.sub_self, List.set_cons_succ, List.set_cons_zero]
set_option maxHeartbeats 800000 in
theorem l_toStepS (A : Option Addr) (n c : Nat) (ps : List (Int × Bool)) (w : World) (B : Nat) (h : Sl w B 2 A n c (stC ps)) (hB : B ≤ w.heap.size) (hn : n ≤ 1048576) :
    Calls Tryd.prog 23 #[.slice A n c] w fun e w' => ∃ A' c', e = .returned (.slice A' n c') ∧ SS w' w.heap.size A' n c' ps ∧ Below w.heap.size w w' := by
  obtain ⟨i0, hi, hz0, hz1, hz2⟩ := info_parts info_step
  have hpl := h.stlen
  go_enter Tryd.func23, Tryd.ntmps23
  go_wp2_with (at_make; refine wpList_make_full _ rfl _ _ 38 rfl w.heap.size 79 i0 (.agg #[.int .i64 0, .bool false]) 2 Tryd.underlying38 hi hz0 hz1 _ _ _ _ n rfl rfl rfl rfl (by rw [hz2]; omega) (by unfold maxLen; omega) (Nat.le_refl _) ?_; intro w1 hown1 hg1)
  have hb1 : Below w.heap.size w w1 := (Below.refl _ _).grown hg1 (Nat.le_refl _) (fun k hk => by cases hk)
  obtain ⟨cs, hcs, hbk⟩ : ∃ cs : Array Value, cs.size = n * 2 ∧ Blk w1 w.heap.size 79 cs := by
    rcases hown1.2 with ⟨hv, _⟩ | ⟨g, cap, cur, hv, _, hh, _, _, hsz, _⟩
    · cases hv
    · simp only [Value.slice.injEq, Option.some.injEq, Addr.mk.injEq] at hv
      obtain ⟨⟨rfl, _⟩, _, rfl⟩ := hv
      exact ⟨cur, hsz, hh⟩
  clear hown1 hg1
  go_loopg [4] n (fun f i wr => ∃ (k : Nat) (xs : List Value), k + f = n ∧ i = .int .i64 k ∧ xs.length = f * 2 ∧ Blk wr w.heap.size 79 (stC (ps.take k) ++ xs).toArray ∧ Below w.heap.size w wr)
  case atStart => exact ⟨0, cs.toList, by omega, rfl, by simp [hcs], by simpa [stC] using hbk, hb1⟩
  case round =>
    obtain ⟨k, xs2, hkf, rfl, hxl, hor, hbr⟩ := hrel
    clear hbk hb1
    by_cases hlt : k < n
    · obtain ⟨f, rfl⟩ : ∃ f, gk = f + 1 := ⟨gk - 1, by omega⟩
      obtain ⟨g, o, hl, hA, hg, hc0, hc1⟩ := (h.below (hbr.mono hB)).stp hlt
      subst hA
      obtain ⟨y0, y1, ys, rfl⟩ : ∃ y0 y1 ys, xs2 = y0 :: y1 :: ys := by
        match xs2, hxl with
        | [], h => simp at h
        | [_], h => simp at h; omega
        | y0 :: y1 :: ys, _ => exact ⟨_, _, _, rfl⟩
      have hil : (stC (ps.take k)).length = k * 2 := by rw [stC_len, List.length_take, Nat.min_eq_left (by omega)]
      have hts := l_toStep ps[k].1 ps[k].2 wr
      go_wp2_with (go_at_call 61; refine hts.mono ?_; rintro e w2 ⟨rfl, hb2⟩; have ho2 := hor.below hb2 hor.lt; have p0 := (ho2.cell (k * 2)).trans (arr_at hil); have q0 := ho2.frozen (k * 2); have ho3 := ho2.set_ (k * 2) (.int .i64 ps[k].1); have q1 := ho3.frozen (k * 2 + 1); obtain ⟨z1, p1⟩ : ∃ z1, (w2.setCell ⟨w.heap.size, k * 2, none⟩ (.int .i64 ps[k].1)).cell? ⟨w.heap.size, k * 2 + 1, none⟩ = some z1 := ⟨_, (ho3.cell _).trans (Array.getElem?_eq_getElem (by simp [hil]))⟩; have ho4 := ho3.set_ (k * 2 + 1) (.bool ps[k].2))
      rw [arr_set hil] at ho4
      have hb4 := ((hbr.up hb2).setCell (p := ⟨w.heap.size, k * 2, none⟩) (Nat.le_refl _) (.int .i64 ps[k].1)).setCell (p := ⟨w.heap.size, k * 2 + 1, none⟩) (Nat.le_refl _) (.bool ps[k].2)
      have hst : stC (ps.take (k + 1)) ++ ys = stC (ps.take k) ++ .int .i64 ps[k].1 :: .bool ps[k].2 :: ys := by
        rw [List.take_succ_eq_append_getElem hl, stC_app]; simp [stC]
      clear p0 q0 p1 q1 ho2 ho3 hor hts
      go_roundg f
      case measure => omega
      case rel => exact ⟨k + 1, ys, by omega, by go_num, by simp at hxl; omega, by rw [hst]; exact ho4, hb4⟩
    · obtain rfl : k = n := by omega
      go_wp2_with fail
      go_ret
      obtain rfl : xs2 = [] := List.eq_nil_of_length_eq_zero (by omega)
      rw [List.take_of_length_le (by omega), List.append_nil] at hor
      exact ⟨_, _, rfl, ⟨by rw [stC_len]; omega, .inr ⟨w.heap.size, k, _, rfl, Nat.le_refl _, hor, Nat.le_refl _, by unfold maxLen; omega, by simp [stC_len]; omega, List.take_of_length_le (by rw [stC_len]; omega)⟩⟩, hbr⟩
set_option maxHeartbeats 800000 in
theorem l_eqStepS (ps : List (Int × Bool)) (A1 : Option Addr) (n1 c1 : Nat) (A2 : Option Addr) (n2 c2 : Nat) (w : World) (h1 : Sl w w.heap.size 2 A1 n1 c1 (stC ps)) (h2 : Sl w w.heap.size 2 A2 n2 c2 (stC ps)) :
    Calls Tryd.prog 26 #[.slice A1 n1 c1, .slice A2 n2 c2] w fun r w' => r = .returned (.bool true) ∧ Below w.heap.size w w' := by
  have e1 := h1.stlen
  have e2 := h2.stlen
  have hc : n1 ≤ 9223372036854775807 := by have := h1.cap; have := h1.max; unfold maxLen at *; omega
  obtain rfl : n1 = n2 := by omega
  go_enter Tryd.func26, Tryd.ntmps26
  go_wp2_with fail
  go_loopg [5] n1 (fun f i wr => ∃ j : Nat, j + f = n1 ∧ i = .int .i64 j ∧ Below w.heap.size w wr)
  case atStart => exact ⟨0, by omega, rfl, Below.refl _ _⟩
  case round =>
    obtain ⟨j, hjk, rfl, hb⟩ := hrel
    by_cases hlt : j < n1
    · obtain ⟨f, rfl⟩ : ∃ f, gk = f + 1 := ⟨gk - 1, by omega⟩
      obtain ⟨g1, o1, hl, hA1, hg1, x0, x1⟩ := (h1.below hb).stp hlt
      obtain ⟨g2, o2, hl', hA2, hg2, y0, y1⟩ := (h2.below hb).stp hlt
      subst hA1 hA2
      have hS0 := fun (w' : World) (hb' : Below wr.heap.size wr w') => (show ((w'.cell? ⟨g1, o1 + j * 2, none⟩ = some (.int .i64 ps[j].1) ∧ w'.cell? ⟨g1, o1 + j * 2 + 1, none⟩ = some (.bool ps[j].2)) ∧ (w'.cell? ⟨g2, o2 + j * 2, none⟩ = some (.int .i64 ps[j].1) ∧ w'.cell? ⟨g2, o2 + j * 2 + 1, none⟩ = some (.bool ps[j].2))) ∧ Below wr.heap.size wr w' from
        ⟨⟨⟨(hb'.cell (p := ⟨g1, _, none⟩) (Nat.lt_of_lt_of_le hg1 hb.size)).trans x0, (hb'.cell (p := ⟨g1, _, none⟩) (Nat.lt_of_lt_of_le hg1 hb.size)).trans x1⟩, ⟨(hb'.cell (p := ⟨g2, _, none⟩) (Nat.lt_of_lt_of_le hg2 hb.size)).trans y0, (hb'.cell (p := ⟨g2, _, none⟩) (Nat.lt_of_lt_of_le hg2 hb.size)).trans y1⟩⟩, hb'⟩)
      have hS2 := fun (w' w'' : World) (h : ((w'.cell? ⟨g1, o1 + j * 2, none⟩ = some (.int .i64 ps[j].1) ∧ w'.cell? ⟨g1, o1 + j * 2 + 1, none⟩ = some (.bool ps[j].2)) ∧ (w'.cell? ⟨g2, o2 + j * 2, none⟩ = some (.int .i64 ps[j].1) ∧ w'.cell? ⟨g2, o2 + j * 2 + 1, none⟩ = some (.bool ps[j].2))) ∧ Below wr.heap.size wr w') (hb' : Below w'.heap.size w' w'') => hS0 w'' (h.2.up hb')
      clear x0 x1 y0 y1
      go_wp2_with fail
      go_region_held3 (fun w' => ((w'.cell? ⟨g1, o1 + j * 2, none⟩ = some (.int .i64 ps[j].1) ∧ w'.cell? ⟨g1, o1 + j * 2 + 1, none⟩ = some (.bool ps[j].2)) ∧ (w'.cell? ⟨g2, o2 + j * 2, none⟩ = some (.int .i64 ps[j].1) ∧ w'.cell? ⟨g2, o2 + j * 2 + 1, none⟩ = some (.bool ps[j].2))) ∧ Below wr.heap.size wr w')
        (first | exact hS0 _ (Below.refl _ _).drew | (refine hS2 _ _ ?_ hbq; assumption))
        (first | (go_at_call 65; refine (l_eqStep _ _ _).mono ?_; rintro e w2 ⟨rfl, hbq⟩))
      rename_i hHeld
      have hb7 := hb.up hHeld.2
      clear hS0 hS2 hHeld
      go_wp2_with fail
      go_roundg f
      case measure => omega
      case rel => exact ⟨j + 1, by omega, by go_num, hb7⟩
    · go_wp2_with fail
      go_ret
      exact ⟨rfl, hb⟩
end Go.Proofs.YtiapkpelgbpfmaaDoor
