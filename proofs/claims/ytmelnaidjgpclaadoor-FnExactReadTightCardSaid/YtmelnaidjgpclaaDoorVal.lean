/- The laws' helpers on trees: szVal, toVal, eqVal. -/
import Derived.Test.YtmelnaidjgpclaaDoorTree
import Derived.Deep.LoopGhost
import Derived.Deep.RegionHeld3
set_option linter.unusedVariables false
set_option maxRecDepth 100000
set_option linter.unusedSimpArgs false
namespace Go.Proofs.YtmelnaidjgpclaaDoor
open Go.RowKit

noncomputable def Tr.wf : Tr → Prop := Tr.fold fun k n x s _ ih => (-9223372036854775808 ≤ k ∧ k ≤ 9223372036854775807) ∧ (-9223372036854775808 ≤ n ∧ n ≤ 9223372036854775807) ∧ (-9223372036854775808 ≤ x ∧ x ≤ 9223372036854775807) ∧ s.size ≤ maxLen ∧ ∀ P ∈ ih, P
theorem Tr.wf_iff (t : Tr) : t.wf ↔ (-9223372036854775808 ≤ t.k ∧ t.k ≤ 9223372036854775807) ∧ (-9223372036854775808 ≤ t.n ∧ t.n ≤ 9223372036854775807) ∧ (-9223372036854775808 ≤ t.x ∧ t.x ≤ 9223372036854775807) ∧ t.s.size ≤ maxLen ∧ ∀ u ∈ t.l, u.wf := by
  obtain ⟨k, n, x, s, l⟩ := t
  rw [show Tr.wf ⟨k, n, x, s, l⟩ = _ from Tr.fold_mk _ _ _ _ _ _]
  have h : (∀ P ∈ l.map Tr.wf, P) ↔ ∀ u ∈ l, u.wf := List.forall_mem_map
  exact and_congr Iff.rfl (and_congr Iff.rfl (and_congr Iff.rfl (and_congr Iff.rfl h)))
def szRes (left : Int) (m : Nat) : Int := if (m : Int) ≤ left then left - m else -1
abbrev trV (t : Tr) (e : El) : Value := .agg #[.int .i64 t.k, .int .i64 t.n, .int .i64 t.x, .string t.s, .slice e.A e.n e.c]
theorem info_val : (Tryd.prog.info? 25).map (fun i => (i.zero, i.size, i.bytes)) = some (some (.agg #[.int .i64 0, .int .i64 0, .int .i64 0, .string ByteArray.empty, .slice none 0 0]), 5, 64) := by kernel_rfl
def EqSays (t : Tr) : Prop := ∀ (e1 e2 : El) (w : World), LsAt w t.l e1 → LsAt w t.l e2 → e1.lt w.heap.size → e2.lt w.heap.size →
  Calls Tryd.prog 10 #[trV t e1, trV t e2] w fun r w' => r = .returned (.bool true) ∧ Below w.heap.size w w'
theorem Cells5.below {w w' : World} {g o B : Nat} {t : Tr} {e : El} (h : Cells5 w g o t e) (hb : Below B w w') (hg : g < B) : Cells5 w' g o t e := by
  obtain ⟨c0, c1, c2, c3, c4⟩ := h
  exact ⟨(hb.cell (p := ⟨g, _, none⟩) hg).trans c0, (hb.cell (p := ⟨g, _, none⟩) hg).trans c1, (hb.cell (p := ⟨g, _, none⟩) hg).trans c2, (hb.cell (p := ⟨g, _, none⟩) hg).trans c3, (hb.cell (p := ⟨g, _, none⟩) hg).trans c4⟩
theorem eq_next {w w1 w2 : World} {g1 o1 g2 o2 : Nat} {t : Tr} {u1 u2 : El} (h1 : g1 < w.heap.size) (h2 : g2 < w.heap.size) (hu1 : u1.lt w.heap.size) (hu2 : u2.lt w.heap.size) (hb : Below w1.heap.size w1 w2)
    (h : Cells5 w1 g1 o1 t u1 ∧ Cells5 w1 g2 o2 t u2 ∧ LsAt w1 t.l u1 ∧ LsAt w1 t.l u2 ∧ Below w.heap.size w w1) : Cells5 w2 g1 o1 t u1 ∧ Cells5 w2 g2 o2 t u2 ∧ LsAt w2 t.l u1 ∧ LsAt w2 t.l u2 ∧ Below w.heap.size w w2 := by
  obtain ⟨a, b, c, d, e⟩ := h
  have := e.size
  exact ⟨a.below hb (by omega), b.below hb (by omega), c.below (hu1.mono this) hb, d.below (hu2.mono this) hb, e.up hb⟩
set_option maxHeartbeats 1600000 in
theorem l_eqValS (l : List Tr) (ih : ∀ u ∈ l, EqSays u) (e1 e2 : El) (w : World) (h1 : LsAt w l e1) (h2 : LsAt w l e2) (hl1 : e1.lt w.heap.size) (hl2 : e2.lt w.heap.size) :
    Calls Tryd.prog 27 #[.slice e1.A e1.n e1.c, .slice e2.A e2.n e2.c] w fun r w' => r = .returned (.bool true) ∧ Below w.heap.size w w' := by
  obtain ⟨A1, n, c1, fp1⟩ := e1
  obtain ⟨A2, n2, c2, fp2⟩ := e2
  have hn : l.length = n := h1.len
  have hn2 : l.length = n2 := h2.len
  have hc : n ≤ 9223372036854775807 := by have := ((lsAt_iff _ _).1 h1).2.1; have := ((lsAt_iff _ _).1 h1).2.2.1; unfold maxLen at *; simp at *; omega
  obtain rfl : n = n2 := by omega
  go_enter Tryd.func27, Tryd.ntmps27
  go_wp2_with fail
  go_loopg [5] n (fun k i wr => ∃ j : Nat, j + k = n ∧ i = .int .i64 j ∧ Below w.heap.size w wr)
  case atStart => exact ⟨0, by omega, rfl, Below.refl _ _⟩
  case round =>
    obtain ⟨j, hjk, rfl, hb⟩ := hrel
    by_cases hlt2 : j < n
    · obtain ⟨k, rfl⟩ : ∃ k, gk = k + 1 := ⟨gk - 1, by omega⟩
      obtain ⟨g1, o1, u1, hl, hA1, hg1, hx1, hch1, hsub1⟩ := (h1.below hl1 hb).elem hlt2
      obtain ⟨g2, o2, u2, hl', hA2, hg2, hx2, hch2, hsub2⟩ := (h2.below hl2 hb).elem hlt2
      have hA12 : A1 = some ⟨g1, o1, none⟩ := hA1
      have hA22 : A2 = some ⟨g2, o2, none⟩ := hA2
      subst hA12 hA22
      have hG1 : g1 < w.heap.size := hl1 g1 hg1
      have hG2 : g2 < w.heap.size := hl2 g2 hg2
      have hU1 : u1.lt w.heap.size := fun x hx => hl1 x (hsub1 x hx)
      have hU2 : u2.lt w.heap.size := fun x hx => hl2 x (hsub2 x hx)
      have hS : (wr.cell? ⟨g1, o1 + j * 5, none⟩ = some (.int .i64 l[j].k) ∧ wr.cell? ⟨g1, o1 + j * 5 + 1, none⟩ = some (.int .i64 l[j].n) ∧ wr.cell? ⟨g1, o1 + j * 5 + 2, none⟩ = some (.int .i64 l[j].x) ∧ wr.cell? ⟨g1, o1 + j * 5 + 3, none⟩ = some (.string l[j].s) ∧ wr.cell? ⟨g1, o1 + j * 5 + 4, none⟩ = some (.slice u1.A u1.n u1.c)) ∧ (wr.cell? ⟨g2, o2 + j * 5, none⟩ = some (.int .i64 l[j].k) ∧ wr.cell? ⟨g2, o2 + j * 5 + 1, none⟩ = some (.int .i64 l[j].n) ∧ wr.cell? ⟨g2, o2 + j * 5 + 2, none⟩ = some (.int .i64 l[j].x) ∧ wr.cell? ⟨g2, o2 + j * 5 + 3, none⟩ = some (.string l[j].s) ∧ wr.cell? ⟨g2, o2 + j * 5 + 4, none⟩ = some (.slice u2.A u2.n u2.c)) ∧ LsAt wr l[j].l u1 ∧ LsAt wr l[j].l u2 ∧ Below w.heap.size w wr := ⟨hx1, hx2, hch1, hch2, hb⟩
      have hcall : ∀ w', ((w'.cell? ⟨g1, o1 + j * 5, none⟩ = some (.int .i64 l[j].k) ∧ w'.cell? ⟨g1, o1 + j * 5 + 1, none⟩ = some (.int .i64 l[j].n) ∧ w'.cell? ⟨g1, o1 + j * 5 + 2, none⟩ = some (.int .i64 l[j].x) ∧ w'.cell? ⟨g1, o1 + j * 5 + 3, none⟩ = some (.string l[j].s) ∧ w'.cell? ⟨g1, o1 + j * 5 + 4, none⟩ = some (.slice u1.A u1.n u1.c)) ∧ (w'.cell? ⟨g2, o2 + j * 5, none⟩ = some (.int .i64 l[j].k) ∧ w'.cell? ⟨g2, o2 + j * 5 + 1, none⟩ = some (.int .i64 l[j].n) ∧ w'.cell? ⟨g2, o2 + j * 5 + 2, none⟩ = some (.int .i64 l[j].x) ∧ w'.cell? ⟨g2, o2 + j * 5 + 3, none⟩ = some (.string l[j].s) ∧ w'.cell? ⟨g2, o2 + j * 5 + 4, none⟩ = some (.slice u2.A u2.n u2.c)) ∧ LsAt w' l[j].l u1 ∧ LsAt w' l[j].l u2 ∧ Below w.heap.size w w') → Calls Tryd.prog 10 #[.agg #[.int .i64 l[j].k, .int .i64 l[j].n, .int .i64 l[j].x, .string l[j].s, .slice u1.A u1.n u1.c], .agg #[.int .i64 l[j].k, .int .i64 l[j].n, .int .i64 l[j].x, .string l[j].s, .slice u2.A u2.n u2.c]] w' fun r w2 => r = .returned (.bool true) ∧ Below w'.heap.size w' w2 :=
        fun w' hs => ih l[j] (List.getElem_mem hl) u1 u2 w' hs.2.2.1 hs.2.2.2.1 (hU1.mono hs.2.2.2.2.size) (hU2.mono hs.2.2.2.2.size)
      have hnext : ∀ w1 w2, Below w1.heap.size w1 w2 → ((w1.cell? ⟨g1, o1 + j * 5, none⟩ = some (.int .i64 l[j].k) ∧ w1.cell? ⟨g1, o1 + j * 5 + 1, none⟩ = some (.int .i64 l[j].n) ∧ w1.cell? ⟨g1, o1 + j * 5 + 2, none⟩ = some (.int .i64 l[j].x) ∧ w1.cell? ⟨g1, o1 + j * 5 + 3, none⟩ = some (.string l[j].s) ∧ w1.cell? ⟨g1, o1 + j * 5 + 4, none⟩ = some (.slice u1.A u1.n u1.c)) ∧ (w1.cell? ⟨g2, o2 + j * 5, none⟩ = some (.int .i64 l[j].k) ∧ w1.cell? ⟨g2, o2 + j * 5 + 1, none⟩ = some (.int .i64 l[j].n) ∧ w1.cell? ⟨g2, o2 + j * 5 + 2, none⟩ = some (.int .i64 l[j].x) ∧ w1.cell? ⟨g2, o2 + j * 5 + 3, none⟩ = some (.string l[j].s) ∧ w1.cell? ⟨g2, o2 + j * 5 + 4, none⟩ = some (.slice u2.A u2.n u2.c)) ∧ LsAt w1 l[j].l u1 ∧ LsAt w1 l[j].l u2 ∧ Below w.heap.size w w1) → ((w2.cell? ⟨g1, o1 + j * 5, none⟩ = some (.int .i64 l[j].k) ∧ w2.cell? ⟨g1, o1 + j * 5 + 1, none⟩ = some (.int .i64 l[j].n) ∧ w2.cell? ⟨g1, o1 + j * 5 + 2, none⟩ = some (.int .i64 l[j].x) ∧ w2.cell? ⟨g1, o1 + j * 5 + 3, none⟩ = some (.string l[j].s) ∧ w2.cell? ⟨g1, o1 + j * 5 + 4, none⟩ = some (.slice u1.A u1.n u1.c)) ∧ (w2.cell? ⟨g2, o2 + j * 5, none⟩ = some (.int .i64 l[j].k) ∧ w2.cell? ⟨g2, o2 + j * 5 + 1, none⟩ = some (.int .i64 l[j].n) ∧ w2.cell? ⟨g2, o2 + j * 5 + 2, none⟩ = some (.int .i64 l[j].x) ∧ w2.cell? ⟨g2, o2 + j * 5 + 3, none⟩ = some (.string l[j].s) ∧ w2.cell? ⟨g2, o2 + j * 5 + 4, none⟩ = some (.slice u2.A u2.n u2.c)) ∧ LsAt w2 l[j].l u1 ∧ LsAt w2 l[j].l u2 ∧ Below w.heap.size w w2) := fun w1 w2 hb h => eq_next hG1 hG2 hU1 hU2 hb h
      have hdrew : ∀ w', ((w'.cell? ⟨g1, o1 + j * 5, none⟩ = some (.int .i64 l[j].k) ∧ w'.cell? ⟨g1, o1 + j * 5 + 1, none⟩ = some (.int .i64 l[j].n) ∧ w'.cell? ⟨g1, o1 + j * 5 + 2, none⟩ = some (.int .i64 l[j].x) ∧ w'.cell? ⟨g1, o1 + j * 5 + 3, none⟩ = some (.string l[j].s) ∧ w'.cell? ⟨g1, o1 + j * 5 + 4, none⟩ = some (.slice u1.A u1.n u1.c)) ∧ (w'.cell? ⟨g2, o2 + j * 5, none⟩ = some (.int .i64 l[j].k) ∧ w'.cell? ⟨g2, o2 + j * 5 + 1, none⟩ = some (.int .i64 l[j].n) ∧ w'.cell? ⟨g2, o2 + j * 5 + 2, none⟩ = some (.int .i64 l[j].x) ∧ w'.cell? ⟨g2, o2 + j * 5 + 3, none⟩ = some (.string l[j].s) ∧ w'.cell? ⟨g2, o2 + j * 5 + 4, none⟩ = some (.slice u2.A u2.n u2.c)) ∧ LsAt w' l[j].l u1 ∧ LsAt w' l[j].l u2 ∧ Below w.heap.size w w') → ((w'.drew.cell? ⟨g1, o1 + j * 5, none⟩ = some (.int .i64 l[j].k) ∧ w'.drew.cell? ⟨g1, o1 + j * 5 + 1, none⟩ = some (.int .i64 l[j].n) ∧ w'.drew.cell? ⟨g1, o1 + j * 5 + 2, none⟩ = some (.int .i64 l[j].x) ∧ w'.drew.cell? ⟨g1, o1 + j * 5 + 3, none⟩ = some (.string l[j].s) ∧ w'.drew.cell? ⟨g1, o1 + j * 5 + 4, none⟩ = some (.slice u1.A u1.n u1.c)) ∧ (w'.drew.cell? ⟨g2, o2 + j * 5, none⟩ = some (.int .i64 l[j].k) ∧ w'.drew.cell? ⟨g2, o2 + j * 5 + 1, none⟩ = some (.int .i64 l[j].n) ∧ w'.drew.cell? ⟨g2, o2 + j * 5 + 2, none⟩ = some (.int .i64 l[j].x) ∧ w'.drew.cell? ⟨g2, o2 + j * 5 + 3, none⟩ = some (.string l[j].s) ∧ w'.drew.cell? ⟨g2, o2 + j * 5 + 4, none⟩ = some (.slice u2.A u2.n u2.c)) ∧ LsAt w'.drew l[j].l u1 ∧ LsAt w'.drew l[j].l u2 ∧ Below w.heap.size w w'.drew) := fun w' h => ⟨h.1, h.2.1, h.2.2.1.keep (fun _ _ _ => rfl), h.2.2.2.1.keep (fun _ _ _ => rfl), h.2.2.2.2.drew⟩
      clear hx1 hx2 hch1 hch2 hb ih h1 h2
      have HK := Lib.hid hjk
      clear hjk
      go_wp2_with fail
      go_region_held3 (fun w' => (w'.cell? ⟨g1, o1 + j * 5, none⟩ = some (.int .i64 l[j].k) ∧ w'.cell? ⟨g1, o1 + j * 5 + 1, none⟩ = some (.int .i64 l[j].n) ∧ w'.cell? ⟨g1, o1 + j * 5 + 2, none⟩ = some (.int .i64 l[j].x) ∧ w'.cell? ⟨g1, o1 + j * 5 + 3, none⟩ = some (.string l[j].s) ∧ w'.cell? ⟨g1, o1 + j * 5 + 4, none⟩ = some (.slice u1.A u1.n u1.c)) ∧ (w'.cell? ⟨g2, o2 + j * 5, none⟩ = some (.int .i64 l[j].k) ∧ w'.cell? ⟨g2, o2 + j * 5 + 1, none⟩ = some (.int .i64 l[j].n) ∧ w'.cell? ⟨g2, o2 + j * 5 + 2, none⟩ = some (.int .i64 l[j].x) ∧ w'.cell? ⟨g2, o2 + j * 5 + 3, none⟩ = some (.string l[j].s) ∧ w'.cell? ⟨g2, o2 + j * 5 + 4, none⟩ = some (.slice u2.A u2.n u2.c)) ∧ LsAt w' l[j].l u1 ∧ LsAt w' l[j].l u2 ∧ Below w.heap.size w w') (first | exact hdrew _ hS | (refine hnext _ _ hb2 ?_; assumption)) (first | (go_at_call 10; refine (hcall _ (by assumption)).mono ?_; rintro e w2 ⟨rfl, hb2⟩))
      rename_i hHeld
      clear hcall hnext hdrew hS
      go_wp2
      go_roundg k
      case measure => omega
      case rel => exact ⟨j + 1, by have := HK.out; omega, by go_num, hHeld.2.2.2.2⟩
    · go_wp2_with fail
      go_ret
      exact ⟨rfl, hb⟩
set_option maxHeartbeats 800000 in
theorem l_eqVal (t : Tr) : EqSays t := by
  refine Tr.ind (P := EqSays) (fun t ih => ?_) t
  intro e1 e2 w h1 h2 hl1 hl2
  have hL := l_eqValS t.l ih e1 e2
  clear ih
  go_enter Tryd.func10, Tryd.ntmps10
  go_wp2_with (go_at_call 27; refine (hL _ (by exact h1.below hl1 (Below.two w _ _)) (by exact h2.below hl2 (Below.two w _ _)) (by exact hl1.mono (Below.two w _ _).size) (by exact hl2.mono (Below.two w _ _).size)).mono ?_; rintro r w2 ⟨rfl, hb2⟩)
  go_ret
  exact ⟨rfl, (Below.two w _ _).up hb2⟩
end Go.Proofs.YtmelnaidjgpclaaDoor
