/- The laws' helpers on rows of paths: eqPathS, markPathS, heldPathS. -/
import Derived.Test.YtnfokfogmniehaaPaths
import Derived.Test.YtnfokfogmniehaaCopy
import Derived.Deep.RegionHeld3
import Derived.Deep.QuietTactic
import Derived.BigQuiet
set_option linter.unusedVariables false
set_option maxRecDepth 100000
set_option linter.unusedSimpArgs false
namespace Go.Proofs.Ytnfokfogmniehaa
open Go.RowKit

/-- The path at j. -/
theorem PR.elem {w : World} {lo n c : Nat} {A : Option Addr} {L : List Pth} {rs : List Pl} (h : PR w lo A n c L rs) {j : Nat} (hj : j < n) :
    ∃ g, ∃ hl : j < L.length, ∃ hr : j < rs.length, A = some ⟨g, 0, none⟩ ∧ g < w.heap.size ∧ lo ≤ g ∧ w.cell? ⟨g, j, none⟩ = some (.slice rs[j].A rs[j].n rs[j].c) ∧ SS w lo rs[j].A rs[j].n rs[j].c L[j] := by
  have hl : j < L.length := by rw [h.len]; exact hj
  have hr : j < rs.length := by rw [h.rlen]; exact hj
  rcases h.row.2 with ⟨_, h2⟩ | ⟨g, cap, cur, h1, h3⟩
  · omega
  · simp only [Value.slice.injEq] at h1
    have hA := h1.1
    have hg : g ∈ blkOf A := by rw [hA]; simp [blkOf]
    have hrow : w.ownsRow lo 92 1 (.slice (some ⟨g, 0, none⟩) n c) n (plCells rs) := by rw [← hA]; exact h.row
    have hc := World.ownsRow.cellAt hrow j (by omega)
    refine ⟨g, hl, hr, hA, (row_lt h.row hg).2, (row_lt h.row hg).1, ?_, h.each j _ _ (List.getElem?_eq_getElem hl) (List.getElem?_eq_getElem hr)⟩
    rw [hc]
    simp [plCells, hr]
theorem l_eqPath (ps : Pth) (A1 : Option Addr) (n1 c1 : Nat) (A2 : Option Addr) (n2 c2 : Nat) (w : World) (h1 : Sl w w.heap.size 2 A1 n1 c1 (stC ps)) (h2 : Sl w w.heap.size 2 A2 n2 c2 (stC ps)) :
    Calls Try.prog 81 #[.agg #[.slice A1 n1 c1], .agg #[.slice A2 n2 c2]] w fun r w' => r = .returned (.bool true) ∧ Below w.heap.size w w' := by
  have hb := Below.two w (.cells #[.slice A1 n1 c1] 92) (.cells #[.slice A2 n2 c2] 92)
  go_enter Try.func81, Try.ntmps81
  go_wp2_with (go_at_call 43; refine (l_eqStepS ps A1 n1 c1 A2 n2 c2 _ ((h1.below hb).more hb.size) ((h2.below hb).more hb.size)).mono ?_; rintro r w1 ⟨rfl, hb1⟩)
  go_ret
  exact ⟨rfl, hb.up hb1⟩
set_option maxHeartbeats 1000000 in
theorem l_eqPathS (L : List Pth) (A1 : Option Addr) (n1 c1 lo1 : Nat) (rs1 : List Pl) (A2 : Option Addr) (n2 c2 lo2 : Nat) (rs2 : List Pl) (w : World) (h1 : PR w lo1 A1 n1 c1 L rs1) (h2 : PR w lo2 A2 n2 c2 L rs2) :
    Calls Try.prog 34 #[.slice A1 n1 c1, .slice A2 n2 c2] w fun r w' => r = .returned (.bool true) ∧ Below w.heap.size w w' := by
  have e1 := h1.len
  have e2 := h2.len
  have hc : n1 ≤ 9223372036854775807 := by have := h1.cap; unfold maxLen at *; omega
  obtain rfl : n1 = n2 := by omega
  go_enter Try.func34, Try.ntmps34
  go_wp2_with fail
  go_loopg [5] n1 (fun f i wr => ∃ j : Nat, j + f = n1 ∧ i = .int .i64 j ∧ Below w.heap.size w wr)
  case atStart => exact ⟨0, by omega, rfl, Below.refl _ _⟩
  case round =>
    obtain ⟨j, hjk, rfl, hb⟩ := hrel
    by_cases hlt : j < n1
    · obtain ⟨f, rfl⟩ : ∃ f, gk = f + 1 := ⟨gk - 1, by omega⟩
      obtain ⟨g1, hl, hr1, hA1, hg1, _, x0, hs1⟩ := (h1.below hb).elem hlt
      obtain ⟨g2, hl', hr2, hA2, hg2, _, y0, hs2⟩ := (h2.below hb).elem hlt
      subst hA1 hA2
      generalize rs1[j] = r1 at x0 hs1
      generalize rs2[j] = r2 at y0 hs2
      generalize L[j] = p at hs1 hs2
      have hS0 := fun (w' : World) (hb' : Below wr.heap.size wr w') => (show (w'.cell? ⟨g1, j, none⟩ = some (.slice r1.A r1.n r1.c) ∧ w'.cell? ⟨g2, j, none⟩ = some (.slice r2.A r2.n r2.c)) ∧ Below wr.heap.size wr w' from
        ⟨⟨(hb'.cell (p := ⟨g1, _, none⟩) hg1).trans x0, (hb'.cell (p := ⟨g2, _, none⟩) hg2).trans y0⟩, hb'⟩)
      have hS2 := fun (w' w'' : World) (h : (w'.cell? ⟨g1, j, none⟩ = some (.slice r1.A r1.n r1.c) ∧ w'.cell? ⟨g2, j, none⟩ = some (.slice r2.A r2.n r2.c)) ∧ Below wr.heap.size wr w') (hb' : Below w'.heap.size w' w'') => hS0 w'' (h.2.up hb')
      have hE := fun (w' : World) (h : (w'.cell? ⟨g1, j, none⟩ = some (.slice r1.A r1.n r1.c) ∧ w'.cell? ⟨g2, j, none⟩ = some (.slice r2.A r2.n r2.c)) ∧ Below wr.heap.size wr w') => l_eqPath p r1.A r1.n r1.c r2.A r2.n r2.c w' (hs1.below h.2).sl (hs2.below h.2).sl
      clear x0 y0
      go_wp2_with fail
      go_region_held3 (fun w' => (w'.cell? ⟨g1, j, none⟩ = some (.slice r1.A r1.n r1.c) ∧ w'.cell? ⟨g2, j, none⟩ = some (.slice r2.A r2.n r2.c)) ∧ Below wr.heap.size wr w')
        (first | exact hS0 _ (Below.refl _ _).drew | (refine hS2 _ _ ?_ hbq; assumption))
        (first | (go_at_call 81; refine (hE _ (by assumption)).mono ?_; rintro e w2 ⟨rfl, hbq⟩))
      rename_i hHeld
      have hb7 := hb.up hHeld.2
      clear hS0 hS2 hHeld hE hs1 hs2
      go_wp2_with fail
      go_roundg f
      case measure => omega
      case rel => exact ⟨j + 1, by omega, by go_num, hb7⟩
    · go_wp2_with fail
      go_ret
      exact ⟨rfl, hb⟩
/-- The steps that the marks from k on leave in a row of n. -/
def markS (k n : Nat) : Pth := (List.range n).map fun j => (((k + 2 * j : Nat) : Int), decide ((k + 2 * j + 1) % 3 = 0))
theorem markS_len (k n : Nat) : (markS k n).length = n := by simp [markS]
theorem markS_get (k n j : Nat) (h : j < (markS k n).length) : (markS k n)[j] = (((k + 2 * j : Nat) : Int), decide ((k + 2 * j + 1) % 3 = 0)) := by simp [markS]
set_option maxHeartbeats 800000 in
theorem l_markStepSx (A : Option Addr) (n c : Nat) (ps : Pth) (k : Nat) (w : World) (lo : Nat) (h : SS w lo A n c ps) (hk : k ≤ 1152921504606846976) (hn : n ≤ 1125899906842624) :
    Calls Try.prog 44 #[.slice A n c, .int .i64 k] w fun e w' => e = .returned (.int .i64 (k + 2 * n : Nat)) ∧ SS w' lo A n c (markS k n) ∧ Fr (blkOf A) w w' := by
  have hpl := h.len
  have hml := markS_len k n
  rcases Nat.eq_zero_or_pos n with h0 | h0
  · subst h0
    obtain rfl := List.eq_nil_of_length_eq_zero hpl
    go_enter Try.func44, Try.ntmps44
    go_wp2
    go_loop [1, 5] (fun x y => x = .int .i64 k ∧ y = .int .i64 0) (fun x y => 0)
    case atStart => exact ⟨rfl, rfl⟩
    case round =>
      obtain ⟨rfl, rfl⟩ := hrel
      go_wp2
      go_ret
      exact ⟨rfl, h, Fr.refl _ _⟩
  · obtain ⟨g, rfl⟩ := h.at_ h0
    have hcap := Nat.le_trans h.sl.cap h.sl.max
    unfold maxLen at hcap
    go_enter Try.func44, Try.ntmps44
    go_wp2
    go_loopg [1, 5] n (fun f x y wr => ∃ j : Nat, j + f = n ∧ x = .int .i64 (k + 2 * j : Nat) ∧ y = .int .i64 j ∧ SS wr lo (some ⟨g, 0, none⟩) n c ((markS k n).take j ++ ps.drop j) ∧ Fr [g] w wr)
    case atStart => exact ⟨0, by omega, rfl, rfl, h, Fr.refl _ _⟩
    case round =>
      obtain ⟨j, hjf, rfl, rfl, hor, hfr⟩ := hrel
      by_cases hlt : j < n
      · obtain ⟨f, rfl⟩ : ∃ f, gk = f + 1 := ⟨gk - 1, by omega⟩
        have hst := fun b => hor.store hlt ((k : Int) + 2 * (j : Int)) b
        obtain ⟨z0, p0⟩ : ∃ z0, wr.cell? ⟨g, j * 2, none⟩ = some z0 := ⟨_, (World.ownsRow.cellAt hor (j * 2) (by omega)).trans (List.getElem?_eq_getElem (by rw [hor.1]; omega))⟩
        have q0 := World.ownsRow.frozenAt hor (j * 2)
        have ho2 := (World.ownsRow.stored hor (j * 2) (.int .i64 ((k : Int) + 2 * (j : Int)))).1
        obtain ⟨z1, p1⟩ : ∃ z1, (wr.setCell ⟨g, j * 2, none⟩ (.int .i64 ((k : Int) + 2 * (j : Int)))).cell? ⟨g, j * 2 + 1, none⟩ = some z1 := ⟨_, (World.ownsRow.cellAt ho2 (j * 2 + 1) (by omega)).trans (List.getElem?_eq_getElem (by rw [ho2.1]; omega))⟩
        have q1 := World.ownsRow.frozenAt ho2 (j * 2 + 1)
        have hf2 := fun b => (hfr.setCell (p := ⟨g, j * 2, none⟩) (by simp) (.int .i64 ((k : Int) + 2 * (j : Int)))).setCell (p := ⟨g, j * 2 + 1, none⟩) (by simp) (.bool b)
        have hset : ∀ b : Bool, b = decide ((k + 2 * j + 1) % 3 = 0) → ((markS k n).take j ++ ps.drop j).set j ((k : Int) + 2 * (j : Int), b) = (markS k n).take (j + 1) ++ ps.drop (j + 1) := fun b hb => by
          have e := set_take_step ps (markS k n) j (by omega) (by omega) (by omega)
          rw [markS_get] at e
          rw [← e, hb]
          congr 2
        clear hor ho2 h
        go_wp2
        go_roundg f
        case measure => omega
        case rel =>
          refine ⟨j + 1, by omega, by go_num, by go_num, ?_, hf2 _⟩
          have := hst ((((k : Int) + 2 * (j : Int) + 1) % 3) == 0)
          rw [hset _ (by rw [Bool.eq_iff_iff]; simp; omega)] at this
          exact this
      · obtain rfl : j = n := by omega
        rw [List.take_of_length_le (by omega), List.drop_eq_nil_of_le (by omega), List.append_nil] at hor
        go_wp2
        go_ret
        exact ⟨rfl, hor, hfr⟩
set_option maxHeartbeats 800000 in
theorem l_heldStepS (A : Option Addr) (n c k : Nat) (w : World) (B : Nat) (h : Sl w B 2 A n c (stC (markS k n))) (hk : k ≤ 1152921504606846976) (hn : n ≤ 1125899906842624) :
    Calls Try.prog 84 #[.slice A n c, .int .i64 k] w fun e w' => e = .returned (.int .i64 (k + 2 * n : Nat)) ∧ w = w' := by
  have hcap := Nat.le_trans h.cap h.max
  unfold maxLen at hcap
  go_enter Try.func84, Try.ntmps84
  go_wp2
  go_loopg [1, 5] n (fun f x y wr => ∃ j : Nat, j + f = n ∧ x = .int .i64 (k + 2 * j : Nat) ∧ y = .int .i64 j ∧ w = wr)
  case atStart => exact ⟨0, by omega, rfl, rfl, rfl⟩
  case round =>
    obtain ⟨j, hjf, rfl, rfl, rfl⟩ := hrel
    by_cases hlt : j < n
    · obtain ⟨f, rfl⟩ : ∃ f, gk = f + 1 := ⟨gk - 1, by omega⟩
      obtain ⟨g, o, hl, rfl, hg, c0, c1⟩ := h.stp hlt
      rw [markS_get] at c0 c1
      have hb1 : decide ((k + 2 * j + 1) % 3 = 0) = ((((k : Int) + 2 * (j : Int) + 1) % 3) == 0) := by rw [Bool.eq_iff_iff]; simp; omega
      rw [hb1] at c1
      have hc0 : w.cell? ⟨g, o + j * 2, none⟩ = some (.int .i64 ((k : Int) + 2 * (j : Int))) := by rw [c0]; rfl
      have hc1 : w.cell? ⟨g, o + j * 2 + 1, none⟩ = some (.bool ((((k : Int) + 2 * (j : Int) + 1) % 3) == 0)) := c1
      clear c0 c1 h hb1
      go_wp2
      go_roundg f
      case measure => omega
      case rel => exact ⟨j + 1, by omega, by go_num, by go_num, rfl⟩
    · obtain rfl : j = n := by omega
      go_wp2
      go_ret
      exact ⟨rfl, rfl⟩
/-- The paths that the marks from k on leave in rows of these lengths. -/
def markP (k : Nat) : List Nat → List Pth
  | [] => []
  | n :: ns => markS k n :: markP (k + 2 * n) ns
theorem markP_len : ∀ (ns : List Nat) (k : Nat), (markP k ns).length = ns.length
  | [], _ => rfl
  | n :: ns, k => by simp [markP, markP_len ns]
theorem markP_get : ∀ (ns : List Nat) (k j : Nat) (h : j < (markP k ns).length) (h2 : j < ns.length), (markP k ns)[j] = markS (k + 2 * (ns.take j).sum) ns[j]
  | [], _, j, h, _ => by simp [markP] at h
  | n :: ns, k, 0, _, _ => by simp [markP]
  | n :: ns, k, j + 1, h, h2 => by
    have := markP_get ns (k + 2 * n) j (by simpa [markP] using h) (by simpa using h2)
    simp only [markP, List.getElem_cons_succ, this, List.take_succ_cons, List.sum_cons]
    congr 1
    omega
theorem sum_take_succ {ns : List Nat} {j : Nat} (h : j < ns.length) : (ns.take (j + 1)).sum = (ns.take j).sum + ns[j] := by
  rw [List.take_succ_eq_append_getElem h, List.sum_append]; simp
theorem sum_take_le (ns : List Nat) (j : Nat) : (ns.take j).sum ≤ ns.sum := by
  conv => rhs; rw [← List.take_append_drop j ns, List.sum_append]
  omega
theorem PR.apart2 {w : World} {lo n c : Nat} {A : Option Addr} {L : List Pth} {rs : List Pl} (h : PR w lo A n c L rs) {i j : Nat} {r q : Pl} (hij : i ≠ j) (hi : rs[i]? = some r) (hj : rs[j]? = some q) : ∀ g ∈ blkOf r.A, g ∉ blkOf q.A := by
  have hpf := List.pairwise_flatten.1 (show List.Pairwise (· ≠ ·) (rs.map fun r => blkOf r.A).flatten from h.nodup)
  intro x hx hx2
  have hu2 : (rs.map fun r => blkOf r.A)[i]? = some (blkOf r.A) := by rw [List.getElem?_map, hi]; rfl
  have hv2 : (rs.map fun r => blkOf r.A)[j]? = some (blkOf q.A) := by rw [List.getElem?_map, hj]; rfl
  obtain ⟨hi1, hi2⟩ := List.getElem?_eq_some_iff.1 hu2
  obtain ⟨hj1, hj2⟩ := List.getElem?_eq_some_iff.1 hv2
  have hd := List.pairwise_iff_getElem.1 hpf.2
  rcases Nat.lt_or_gt_of_ne hij with hlt | hlt
  · have := hd i j hi1 hj1 hlt
    rw [hi2, hj2] at this
    exact this x hx x hx2 rfl
  · have := hd j i hj1 hi1 hlt
    rw [hi2, hj2] at this
    exact this x hx2 x hx rfl
theorem PR.sum {w : World} {lo n c M : Nat} {A : Option Addr} {L : List Pth} {rs : List Pl} (h : PR w lo A n c L rs) (hM : ∀ q ∈ L, q.length ≤ M) : (rs.map Pl.n).sum ≤ n * M := by
  have h1 : ∀ x ∈ rs.map Pl.n, x ≤ M := fun x hx => by
    obtain ⟨r, hr, rfl⟩ := List.mem_map.1 hx
    obtain ⟨j, hj⟩ := List.mem_iff_getElem?.1 hr
    have hjl : j < L.length := by have := (List.getElem?_eq_some_iff.1 hj).1; rw [h.rlen] at this; rw [h.len]; exact this
    have := (h.each j _ r (List.getElem?_eq_getElem hjl) hj).len
    have := hM _ (List.getElem_mem hjl)
    omega
  have h2 : ∀ l : List Nat, (∀ x ∈ l, x ≤ M) → l.sum ≤ l.length * M := fun l => by
    induction l with
    | nil => simp
    | cons a l ih =>
      intro hl
      have := ih fun x hx => hl x (List.mem_cons_of_mem _ hx)
      have := hl a List.mem_cons_self
      simp only [List.sum_cons, List.length_cons, Nat.succ_mul]
      omega
  have := h2 _ h1
  rw [List.length_map, h.rlen] at this
  exact this
/-- One path's steps written anew. -/
theorem PR.put {w w' : World} {lo n c : Nat} {A : Option Addr} {L : List Pth} {rs : List Pl} (h : PR w lo A n c L rs) {j : Nat} {r : Pl} {q : Pth} (hr : rs[j]? = some r) (hf : Fr (blkOf r.A) w w') (hs : SS w' lo r.A r.n r.c q) : PR w' lo A n c (L.set j q) rs := by
  refine ⟨row_heap h.row fun g hg => hf.block g (row_lt h.row hg).2 (fun h2 => h.apart g hg (plFp_mem hr h2)), by rw [List.length_set]; exact h.len, h.rlen, fun i p u a b => ?_, h.nodup, h.apart⟩
  rw [List.getElem?_set] at a
  by_cases e : j = i
  · subst e
    have := (List.getElem?_eq_some_iff.1 hr).1
    rw [if_pos rfl, if_pos (by rw [h.len, ← h.rlen]; exact this)] at a
    obtain rfl := Option.some.inj a
    rw [hr] at b
    obtain rfl := Option.some.inj b
    exact hs
  · rw [if_neg e] at a
    exact (h.each i p u a b).fr hf (h.apart2 (fun h2 => e h2.symm) b hr)
set_option maxHeartbeats 800000 in
theorem l_markPathS (A : Option Addr) (n c : Nat) (L : List Pth) (rs : List Pl) (ns : List Nat) (k : Nat) (w : World) (lo : Nat) (h : PR w lo A n c L rs) (hns : rs.map Pl.n = ns) (hk : k + 2 * ns.sum ≤ 562949953421312) :
    Calls Try.prog 37 #[.slice A n c, .int .i64 k] w fun e w' => e = .returned (.int .i64 (k + 2 * ns.sum : Nat)) ∧ PR w' lo A n c (markP k ns) rs ∧ Fr (plFp rs) w w' := by
  have hcap : n ≤ 9223372036854775807 := by have := h.cap; unfold maxLen at *; omega
  have hml := markP_len ns k
  have hnl : ns.length = n := by rw [← hns, List.length_map, h.rlen]
  have hLl := h.len
  go_enter Try.func37, Try.ntmps37
  go_wp2
  go_loopg [1, 5] n (fun f x y wr => ∃ j : Nat, j + f = n ∧ x = .int .i64 (k + 2 * (ns.take j).sum : Nat) ∧ y = .int .i64 j ∧ PR wr lo A n c ((markP k ns).take j ++ L.drop j) rs ∧ Fr (plFp rs) w wr)
  case atStart => exact ⟨0, by omega, rfl, rfl, h, Fr.refl _ _⟩
  case round =>
    obtain ⟨j, hjf, rfl, rfl, hor, hfr⟩ := hrel
    by_cases hlt : j < n
    · obtain ⟨f, rfl⟩ : ∃ f, gk = f + 1 := ⟨gk - 1, by omega⟩
      obtain ⟨g, hl, hr, rfl, hg, hlo, c0, hs⟩ := hor.elem hlt
      have hjn : j < ns.length := by omega
      have hsj := sum_take_succ hjn
      have hsl := sum_take_le ns (j + 1)
      have hsl0 := sum_take_le ns j
      have hrn : rs[j].n = ns[j] := by subst hns; simp
      have hrj : rs[j]? = some rs[j] := List.getElem?_eq_getElem hr
      have hput := fun w' => hor.put (w' := w') (q := markS (k + 2 * (ns.take j).sum) ns[j]) hrj
      have hset : ((markP k ns).take j ++ L.drop j).set j (markS (k + 2 * (ns.take j).sum) ns[j]) = (markP k ns).take (j + 1) ++ L.drop (j + 1) := by
        have e := set_take_step L (markP k ns) j (by omega) (by omega) (by omega)
        rw [markP_get ns k j _ hjn] at e
        exact e
      rw [hset] at hput
      have hsub : ∀ x ∈ blkOf rs[j].A, x ∈ plFp rs := fun x hx => plFp_mem hrj hx
      generalize rs[j] = r at c0 hs hrn hput hsub
      obtain ⟨K, hK⟩ : ∃ K, k + 2 * (ns.take j).sum = K := ⟨_, rfl⟩
      have hmk := l_markStepSx r.A r.n r.c _ K wr lo hs (by omega) (by omega)
      rw [hrn] at hmk hput c0
      rw [hK] at hput
      have hKn : K + 2 * ns[j] = k + 2 * (ns.take (j + 1)).sum := by omega
      have HK := Lib.hid hKn
      have HJ := Lib.hid hjf
      clear hset hs hor hsj hrn hKn hjf
      rw [hK]
      have HK2 := Lib.hid hK
      clear hK
      have hcapk : K ≤ 562949953421312 := by have := HK2.out; omega
      go_wp2_with (go_at_call 44; refine hmk.mono ?_; rintro e w2 ⟨rfl, hs2, hf2⟩)
      go_roundg f
      case measure => omega
      case rel => exact ⟨j + 1, by have := HJ.out; omega, by have := HK.out; congr 1; omega, by go_num, hput _ hf2 hs2, hfr.trans (hf2.mono hsub)⟩
    · obtain rfl : j = n := by omega
      rw [List.take_of_length_le (by omega), List.drop_eq_nil_of_le (by omega), List.append_nil] at hor
      have e : ns.take j = ns := List.take_of_length_le (by omega)
      rw [e]
      clear e
      go_wp2
      go_ret
      exact ⟨rfl, hor, hfr⟩
set_option maxHeartbeats 800000 in
theorem l_heldPathS (A : Option Addr) (n c : Nat) (rs : List Pl) (ns : List Nat) (k : Nat) (w : World) (lo : Nat) (h : PR w lo A n c (markP k ns) rs) (hns : rs.map Pl.n = ns) (hk : k + 2 * ns.sum ≤ 562949953421312) :
    Calls Try.prog 38 #[.slice A n c, .int .i64 k] w fun e w' => e = .returned (.int .i64 (k + 2 * ns.sum : Nat)) ∧ w = w' := by
  have hcap : n ≤ 9223372036854775807 := by have := h.cap; unfold maxLen at *; omega
  have hnl : ns.length = n := by rw [← hns, List.length_map, h.rlen]
  go_enter Try.func38, Try.ntmps38
  go_wp2
  go_loopg [1, 5] n (fun f x y wr => ∃ j : Nat, j + f = n ∧ x = .int .i64 (k + 2 * (ns.take j).sum : Nat) ∧ y = .int .i64 j ∧ w = wr)
  case atStart => exact ⟨0, by omega, rfl, rfl, rfl⟩
  case round =>
    obtain ⟨j, hjf, rfl, rfl, rfl⟩ := hrel
    by_cases hlt : j < n
    · obtain ⟨f, rfl⟩ : ∃ f, gk = f + 1 := ⟨gk - 1, by omega⟩
      obtain ⟨g, hl, hr, rfl, hg, hlo, c0, hs⟩ := h.elem hlt
      have hjn : j < ns.length := by omega
      have hsj := sum_take_succ hjn
      have hsl := sum_take_le ns (j + 1)
      have hsl0 := sum_take_le ns j
      have hrn : rs[j].n = ns[j] := by subst hns; simp
      rw [markP_get ns k j _ hjn] at hs
      generalize rs[j] = r at c0 hs hrn
      obtain ⟨K, hK⟩ : ∃ K, k + 2 * (ns.take j).sum = K := ⟨_, rfl⟩
      rw [hK, hrn] at hs
      have hmk := l_heldStepS r.A ns[j] r.c K w _ hs.sl (by omega) (by omega)
      rw [hrn] at c0
      have hKn : K + 2 * ns[j] = k + 2 * (ns.take (j + 1)).sum := by omega
      have HK := Lib.hid hKn
      have HJ := Lib.hid hjf
      clear hs hsj hrn hKn hjf h
      rw [hK]
      have HK2 := Lib.hid hK
      clear hK
      have hcapk : K ≤ 562949953421312 := by have := HK2.out; omega
      have hnn : ¬ ((K + 2 * ns[j] : Nat) : Int) < 0 := by omega
      go_wp2_with (go_at_call 84; refine hmk.mono ?_; rintro e w2 ⟨rfl, rfl⟩)
      go_roundg f
      case measure => omega
      case rel => exact ⟨j + 1, by have := HJ.out; omega, by have := HK.out; congr 1; omega, by go_num, rfl⟩
    · obtain rfl : j = n := by omega
      have e : ns.take j = ns := List.take_of_length_le (by omega)
      rw [e]
      clear e
      go_wp2
      go_ret
      exact ⟨rfl, rfl⟩
end Go.Proofs.Ytnfokfogmniehaa
