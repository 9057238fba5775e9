/- The law on MarkFor. -/
import Derived.Test.YtkkfgbbedpcnoaaMarkFor
set_option linter.unusedVariables false
set_option maxRecDepth 100000
set_option linter.unusedSimpArgs false
namespace Go.Proofs.Ytkkfgbbedpcnoaa
open Go.RowKit
theorem l_eqMark (a b : Int) (w : World) :
    Calls Try.prog 48 #[.agg #[.int .i64 a, .int .i64 b], .agg #[.int .i64 a, .int .i64 b]] w fun e w' => e = .returned (.bool true) ∧ Below w.heap.size w w' := by
  go_enter Try.func48, Try.ntmps48
  go_wp2_with fail
  go_ret
  exact ⟨rfl, Below.two _ _ _⟩
set_option maxHeartbeats 800000 in
theorem law_MarkFor (t : Tr) (e : El) (w : World) (h : LsAt w t.l e) (hlt : e.lt w.heap.size) (hwf : t.wf) :
    Calls Try.prog 14 #[trV t e] w fun e' w' => e' = .returned (.bool true) ∧ Below w.heap.size w w' := by
  have hsz := l_szVal t
  have hto := l_toVal t
  have heq := l_eqVal t
  by_cases hle : t.sz ≤ 1048576
  · have hres : szRes 1048576 t.sz = 1048576 - t.sz := by unfold szRes; rw [if_pos (by omega)]
    have hs2 := fun w2 (hb : Below w.heap.size w w2) => hsz e 1048576 w2 hwf (h.below hlt hb) (hlt.mono hb.size) (by decide) (by decide)
    rw [hres] at hs2
    have ht2 := fun w2 (hb : Below w.heap.size w w2) => hto e w2 (h.below hlt hb) (hlt.mono hb.size) hle
    have hxx := ((Tr.wf_iff t).1 hwf).2.2.1.2
    clear hsz hto
    go_enter Try.func14, Try.ntmps14
    go_wp2_with fail
    refine (hs2 _ (by exact Below.one _ _)).mono ?_; rintro r w1 ⟨rfl, hb1⟩
    have k1 := hb1.boxed
    have B1 : Blk w1 w.heap.size 57 #[.int .i64 t.k, .int .i64 t.n, .int .i64 t.x, .string t.s, .slice e.A e.n e.c] := (Blk.new w _ _).below hb1 (by simp)
    have hz1 : w.heap.size < w1.heap.size := B1.lt
    have F1 := fun i => B1.cell i
    obtain ⟨hc1, hf1⟩ := bcell hb1
    go_wp2_with fail
    refine (ht2 _ k1).mono ?_; rintro r w2 ⟨u, rfl, hu1, hu2, hb2⟩
    have hum : u.n ≤ 9223372036854775807 := (by have := ((lsAt_iff _ _).1 hu1).2.1; have := ((lsAt_iff _ _).1 hu1).2.2.1; unfold maxLen at *; omega)
    have k2 := k1.up hb2
    go_wp2_with fail
    refine (s_MarkFor _ _ _ _ _ _ _ _ hxx hum).mono ?_; rintro r w3 ⟨rfl, hb3⟩
    rw [show markFor t.k t.n t.x t.s.size u.n = markFor t.k t.n t.x t.s.size t.l.length from by rw [hu1.len]]
    have k3 := k2.up hb3
    have B3 := B1.below (hb2.up hb3) hz1
    obtain ⟨hc3, hf3⟩ := bcell (hb1.up (hb2.up hb3))
    have hz3 : w.heap.size < w3.heap.size := B3.lt
    clear hb1 hb2 hb3 hc1 hf1 F1 hu1 hu2
    go_wp2_with fail
    refine (ht2 _ (by exact k3.up (Below.one _ _))).mono ?_; rintro r w4 ⟨v, rfl, hv1, hv2, hb4⟩
    have k4 := (k3.up (Below.one _ _)).up hb4
    have hvm : v.n ≤ 9223372036854775807 := (by have := ((lsAt_iff _ _).1 hv1).2.1; have := ((lsAt_iff _ _).1 hv1).2.2.1; unfold maxLen at *; omega)
    obtain ⟨hc4, hf4⟩ := bcell hb4
    have hz4 : w3.heap.size < w4.heap.size := (by have := hb4.size; simp at this; omega)
    have B4 := (B3.alloc (.cells #[.int .i64 (markFor t.k t.n t.x t.s.size t.l.length).1, .int .i64 (markFor t.k t.n t.x t.s.size t.l.length).2] 52)).below hb4 (by simp <;> omega)
    go_wp2_with fail
    refine (i_MarkFor _ _ _ _ _ _ _ _ hxx hvm).mono ?_; rintro r w5 ⟨rfl, hb5⟩
    rw [show markFor t.k t.n t.x t.s.size v.n = markFor t.k t.n t.x t.s.size t.l.length from by rw [hv1.len]]
    have k5 := (k4.up (Below.one _ _)).up hb5
    obtain ⟨hc5, hf5⟩ := bcell hb5
    have hz5 : w4.heap.size < w5.heap.size := (by have := hb5.size; simp at this; omega)
    have hz35 : w3.heap.size < w5.heap.size := by omega
    have hz34 : w3.heap.size < w4.heap.size + 1 := by omega
    have B5 := (B4.alloc (.cells #[.int .i64 t.k, .int .i64 t.n, .int .i64 t.x, .string t.s, .slice v.A v.n v.c] 62)).below hb5 (by simp <;> omega)
    have D5 : Blk w5 w4.heap.size 62 #[.int .i64 t.k, .int .i64 t.n, .int .i64 t.x, .string t.s, .slice v.A v.n v.c] := (Blk.new w4 _ _).below hb5 (by simp)
    go_wp2_with fail
    refine (l_eqMark _ _ _).mono ?_; rintro r w6 ⟨rfl, hb6⟩
    have B6 := (B5.alloc _).below hb6 (by simp <;> omega)
    have D6 := (D5.alloc _).below hb6 (by simp <;> omega)
    have L6 : LsAt w6 t.l v := ((hv1.below (fun g hg => hv2.lt hg) ((Below.one _ _).up hb5)).below (fun g hg => Nat.lt_trans (hv2.lt hg) hz5) ((Below.one _ _).up hb6))
    have k6 := (k5.up (Below.one _ _)).up hb6
    have hS : (w6.cell? ⟨w4.heap.size, 0, none⟩ = some (.int .i64 t.k) ∧ w6.cell? ⟨w4.heap.size, 1, none⟩ = some (.int .i64 t.n) ∧ w6.cell? ⟨w4.heap.size, 2, none⟩ = some (.int .i64 t.x) ∧ w6.cell? ⟨w4.heap.size, 3, none⟩ = some (.string t.s) ∧ w6.cell? ⟨w4.heap.size, 4, none⟩ = some (.slice v.A v.n v.c)) ∧ (w6.cell? ⟨w.heap.size, 0, none⟩ = some (.int .i64 t.k) ∧ w6.cell? ⟨w.heap.size, 1, none⟩ = some (.int .i64 t.n) ∧ w6.cell? ⟨w.heap.size, 2, none⟩ = some (.int .i64 t.x) ∧ w6.cell? ⟨w.heap.size, 3, none⟩ = some (.string t.s) ∧ w6.cell? ⟨w.heap.size, 4, none⟩ = some (.slice e.A e.n e.c)) ∧ Blk w6 w4.heap.size 62 #[.int .i64 t.k, .int .i64 t.n, .int .i64 t.x, .string t.s, .slice v.A v.n v.c] ∧ Blk w6 w.heap.size 57 #[.int .i64 t.k, .int .i64 t.n, .int .i64 t.x, .string t.s, .slice e.A e.n e.c] ∧ LsAt w6 t.l v ∧ w4.heap.size < w6.heap.size ∧ Below w.heap.size w w6 := ⟨⟨D6.cell 0, D6.cell 1, D6.cell 2, D6.cell 3, D6.cell 4⟩, ⟨B6.cell 0, B6.cell 1, B6.cell 2, B6.cell 3, B6.cell 4⟩, D6, B6, L6, D6.lt, k6⟩
    have hvl : v.lt w4.heap.size := fun g hg => hv2.lt hg
    have hdrew : ∀ w', ((w'.cell? ⟨w4.heap.size, 0, none⟩ = some (.int .i64 t.k) ∧ w'.cell? ⟨w4.heap.size, 1, none⟩ = some (.int .i64 t.n) ∧ w'.cell? ⟨w4.heap.size, 2, none⟩ = some (.int .i64 t.x) ∧ w'.cell? ⟨w4.heap.size, 3, none⟩ = some (.string t.s) ∧ w'.cell? ⟨w4.heap.size, 4, none⟩ = some (.slice v.A v.n v.c)) ∧ (w'.cell? ⟨w.heap.size, 0, none⟩ = some (.int .i64 t.k) ∧ w'.cell? ⟨w.heap.size, 1, none⟩ = some (.int .i64 t.n) ∧ w'.cell? ⟨w.heap.size, 2, none⟩ = some (.int .i64 t.x) ∧ w'.cell? ⟨w.heap.size, 3, none⟩ = some (.string t.s) ∧ w'.cell? ⟨w.heap.size, 4, none⟩ = some (.slice e.A e.n e.c)) ∧ Blk w' w4.heap.size 62 #[.int .i64 t.k, .int .i64 t.n, .int .i64 t.x, .string t.s, .slice v.A v.n v.c] ∧ Blk w' w.heap.size 57 #[.int .i64 t.k, .int .i64 t.n, .int .i64 t.x, .string t.s, .slice e.A e.n e.c] ∧ LsAt w' t.l v ∧ w4.heap.size < w'.heap.size ∧ Below w.heap.size w w') → ((w'.drew.cell? ⟨w4.heap.size, 0, none⟩ = some (.int .i64 t.k) ∧ w'.drew.cell? ⟨w4.heap.size, 1, none⟩ = some (.int .i64 t.n) ∧ w'.drew.cell? ⟨w4.heap.size, 2, none⟩ = some (.int .i64 t.x) ∧ w'.drew.cell? ⟨w4.heap.size, 3, none⟩ = some (.string t.s) ∧ w'.drew.cell? ⟨w4.heap.size, 4, none⟩ = some (.slice v.A v.n v.c)) ∧ (w'.drew.cell? ⟨w.heap.size, 0, none⟩ = some (.int .i64 t.k) ∧ w'.drew.cell? ⟨w.heap.size, 1, none⟩ = some (.int .i64 t.n) ∧ w'.drew.cell? ⟨w.heap.size, 2, none⟩ = some (.int .i64 t.x) ∧ w'.drew.cell? ⟨w.heap.size, 3, none⟩ = some (.string t.s) ∧ w'.drew.cell? ⟨w.heap.size, 4, none⟩ = some (.slice e.A e.n e.c)) ∧ Blk w'.drew w4.heap.size 62 #[.int .i64 t.k, .int .i64 t.n, .int .i64 t.x, .string t.s, .slice v.A v.n v.c] ∧ Blk w'.drew w.heap.size 57 #[.int .i64 t.k, .int .i64 t.n, .int .i64 t.x, .string t.s, .slice e.A e.n e.c] ∧ LsAt w'.drew t.l v ∧ w4.heap.size < w'.drew.heap.size ∧ Below w.heap.size w w'.drew) := fun w' h => ⟨h.1, h.2.1, h.2.2.1, h.2.2.2.1, h.2.2.2.2.1.keep (fun _ _ _ => rfl), h.2.2.2.2.2.1, h.2.2.2.2.2.2.drew⟩
    have hnext : ∀ w1 w2, Below w1.heap.size w1 w2 → ((w1.cell? ⟨w4.heap.size, 0, none⟩ = some (.int .i64 t.k) ∧ w1.cell? ⟨w4.heap.size, 1, none⟩ = some (.int .i64 t.n) ∧ w1.cell? ⟨w4.heap.size, 2, none⟩ = some (.int .i64 t.x) ∧ w1.cell? ⟨w4.heap.size, 3, none⟩ = some (.string t.s) ∧ w1.cell? ⟨w4.heap.size, 4, none⟩ = some (.slice v.A v.n v.c)) ∧ (w1.cell? ⟨w.heap.size, 0, none⟩ = some (.int .i64 t.k) ∧ w1.cell? ⟨w.heap.size, 1, none⟩ = some (.int .i64 t.n) ∧ w1.cell? ⟨w.heap.size, 2, none⟩ = some (.int .i64 t.x) ∧ w1.cell? ⟨w.heap.size, 3, none⟩ = some (.string t.s) ∧ w1.cell? ⟨w.heap.size, 4, none⟩ = some (.slice e.A e.n e.c)) ∧ Blk w1 w4.heap.size 62 #[.int .i64 t.k, .int .i64 t.n, .int .i64 t.x, .string t.s, .slice v.A v.n v.c] ∧ Blk w1 w.heap.size 57 #[.int .i64 t.k, .int .i64 t.n, .int .i64 t.x, .string t.s, .slice e.A e.n e.c] ∧ LsAt w1 t.l v ∧ w4.heap.size < w1.heap.size ∧ Below w.heap.size w w1) → ((w2.cell? ⟨w4.heap.size, 0, none⟩ = some (.int .i64 t.k) ∧ w2.cell? ⟨w4.heap.size, 1, none⟩ = some (.int .i64 t.n) ∧ w2.cell? ⟨w4.heap.size, 2, none⟩ = some (.int .i64 t.x) ∧ w2.cell? ⟨w4.heap.size, 3, none⟩ = some (.string t.s) ∧ w2.cell? ⟨w4.heap.size, 4, none⟩ = some (.slice v.A v.n v.c)) ∧ (w2.cell? ⟨w.heap.size, 0, none⟩ = some (.int .i64 t.k) ∧ w2.cell? ⟨w.heap.size, 1, none⟩ = some (.int .i64 t.n) ∧ w2.cell? ⟨w.heap.size, 2, none⟩ = some (.int .i64 t.x) ∧ w2.cell? ⟨w.heap.size, 3, none⟩ = some (.string t.s) ∧ w2.cell? ⟨w.heap.size, 4, none⟩ = some (.slice e.A e.n e.c)) ∧ Blk w2 w4.heap.size 62 #[.int .i64 t.k, .int .i64 t.n, .int .i64 t.x, .string t.s, .slice v.A v.n v.c] ∧ Blk w2 w.heap.size 57 #[.int .i64 t.k, .int .i64 t.n, .int .i64 t.x, .string t.s, .slice e.A e.n e.c] ∧ LsAt w2 t.l v ∧ w4.heap.size < w2.heap.size ∧ Below w.heap.size w w2) := fun w1 w2 hb h => by
      have D := h.2.2.1.below hb h.2.2.2.2.2.1
      have B := h.2.2.2.1.below hb h.2.2.2.1.lt
      exact ⟨⟨D.cell 0, D.cell 1, D.cell 2, D.cell 3, D.cell 4⟩, ⟨B.cell 0, B.cell 1, B.cell 2, B.cell 3, B.cell 4⟩, D, B, h.2.2.2.2.1.below (hvl.mono (Nat.le_of_lt h.2.2.2.2.2.1)) hb, D.lt, h.2.2.2.2.2.2.up hb⟩
    have hT : ∀ w', ((w'.cell? ⟨w4.heap.size, 0, none⟩ = some (.int .i64 t.k) ∧ w'.cell? ⟨w4.heap.size, 1, none⟩ = some (.int .i64 t.n) ∧ w'.cell? ⟨w4.heap.size, 2, none⟩ = some (.int .i64 t.x) ∧ w'.cell? ⟨w4.heap.size, 3, none⟩ = some (.string t.s) ∧ w'.cell? ⟨w4.heap.size, 4, none⟩ = some (.slice v.A v.n v.c)) ∧ (w'.cell? ⟨w.heap.size, 0, none⟩ = some (.int .i64 t.k) ∧ w'.cell? ⟨w.heap.size, 1, none⟩ = some (.int .i64 t.n) ∧ w'.cell? ⟨w.heap.size, 2, none⟩ = some (.int .i64 t.x) ∧ w'.cell? ⟨w.heap.size, 3, none⟩ = some (.string t.s) ∧ w'.cell? ⟨w.heap.size, 4, none⟩ = some (.slice e.A e.n e.c)) ∧ Blk w' w4.heap.size 62 #[.int .i64 t.k, .int .i64 t.n, .int .i64 t.x, .string t.s, .slice v.A v.n v.c] ∧ Blk w' w.heap.size 57 #[.int .i64 t.k, .int .i64 t.n, .int .i64 t.x, .string t.s, .slice e.A e.n e.c] ∧ LsAt w' t.l v ∧ w4.heap.size < w'.heap.size ∧ Below w.heap.size w w') → Calls Try.prog 46 #[.agg #[.int .i64 t.k, .int .i64 t.n, .int .i64 t.x, .string t.s, .slice e.A e.n e.c]] w' fun r w2 => ∃ u : El, r = .returned (trV t u) ∧ (LsAt w2 t.l u ∧ u.lt w2.heap.size) ∧ Below w'.heap.size w' w2 :=
      fun w' h => (ht2 w' h.2.2.2.2.2.2).mono fun r w2 ⟨u, h1, h2, h3, h4⟩ => ⟨u, h1, ⟨h2, fun g hg => h3.lt hg⟩, h4⟩
    have hE : ∀ w' z, ((w'.cell? ⟨w4.heap.size, 0, none⟩ = some (.int .i64 t.k) ∧ w'.cell? ⟨w4.heap.size, 1, none⟩ = some (.int .i64 t.n) ∧ w'.cell? ⟨w4.heap.size, 2, none⟩ = some (.int .i64 t.x) ∧ w'.cell? ⟨w4.heap.size, 3, none⟩ = some (.string t.s) ∧ w'.cell? ⟨w4.heap.size, 4, none⟩ = some (.slice v.A v.n v.c)) ∧ (w'.cell? ⟨w.heap.size, 0, none⟩ = some (.int .i64 t.k) ∧ w'.cell? ⟨w.heap.size, 1, none⟩ = some (.int .i64 t.n) ∧ w'.cell? ⟨w.heap.size, 2, none⟩ = some (.int .i64 t.x) ∧ w'.cell? ⟨w.heap.size, 3, none⟩ = some (.string t.s) ∧ w'.cell? ⟨w.heap.size, 4, none⟩ = some (.slice e.A e.n e.c)) ∧ Blk w' w4.heap.size 62 #[.int .i64 t.k, .int .i64 t.n, .int .i64 t.x, .string t.s, .slice v.A v.n v.c] ∧ Blk w' w.heap.size 57 #[.int .i64 t.k, .int .i64 t.n, .int .i64 t.x, .string t.s, .slice e.A e.n e.c] ∧ LsAt w' t.l v ∧ w4.heap.size < w'.heap.size ∧ Below w.heap.size w w') → (LsAt w' t.l z ∧ z.lt w'.heap.size) → Calls Try.prog 49 #[.agg #[.int .i64 t.k, .int .i64 t.n, .int .i64 t.x, .string t.s, .slice v.A v.n v.c], .agg #[.int .i64 t.k, .int .i64 t.n, .int .i64 t.x, .string t.s, .slice z.A z.n z.c]] w' fun r w2 => r = .returned (.bool true) ∧ Below w'.heap.size w' w2 :=
      fun w' z h hz => heq v z w' h.2.2.2.2.1 hz.1 (hvl.mono (Nat.le_of_lt h.2.2.2.2.2.1)) hz.2
    clear ht2 hs2 heq hb4 hb5 hb6 hc3 hc4 hc5 hf3 hf4 hf5 B1 B3 B4 B5 B6 D5 D6 L6 k1 k2 k3 k4 k5 k6
    go_wp2_with fail
    go_region_held3 (fun w' => (w'.cell? ⟨w4.heap.size, 0, none⟩ = some (.int .i64 t.k) ∧ w'.cell? ⟨w4.heap.size, 1, none⟩ = some (.int .i64 t.n) ∧ w'.cell? ⟨w4.heap.size, 2, none⟩ = some (.int .i64 t.x) ∧ w'.cell? ⟨w4.heap.size, 3, none⟩ = some (.string t.s) ∧ w'.cell? ⟨w4.heap.size, 4, none⟩ = some (.slice v.A v.n v.c)) ∧ (w'.cell? ⟨w.heap.size, 0, none⟩ = some (.int .i64 t.k) ∧ w'.cell? ⟨w.heap.size, 1, none⟩ = some (.int .i64 t.n) ∧ w'.cell? ⟨w.heap.size, 2, none⟩ = some (.int .i64 t.x) ∧ w'.cell? ⟨w.heap.size, 3, none⟩ = some (.string t.s) ∧ w'.cell? ⟨w.heap.size, 4, none⟩ = some (.slice e.A e.n e.c)) ∧ Blk w' w4.heap.size 62 #[.int .i64 t.k, .int .i64 t.n, .int .i64 t.x, .string t.s, .slice v.A v.n v.c] ∧ Blk w' w.heap.size 57 #[.int .i64 t.k, .int .i64 t.n, .int .i64 t.x, .string t.s, .slice e.A e.n e.c] ∧ LsAt w' t.l v ∧ w4.heap.size < w'.heap.size ∧ Below w.heap.size w w') (first | exact hdrew _ hS | (refine hnext _ _ hb2 ?_; assumption)) (first | (go_at_call 46; refine (hT _ (by assumption)).mono ?_; rintro e w2 ⟨z, rfl, hzz, hb2⟩) | (go_at_call 49; refine (hE _ _ (by assumption) (by assumption)).mono ?_; rintro e w2 ⟨rfl, hb2⟩))
    rename_i hHeld
    clear hT hE hnext hdrew hS
    go_wp2
    go_ret
    exact ⟨rfl, hHeld.2.2.2.2.2.2⟩
  · have hres : szRes 1048576 t.sz = -1 := by unfold szRes; rw [if_neg (by omega)]
    have hs2 := fun w2 (hb : Below w.heap.size w w2) => hsz e 1048576 w2 hwf (h.below hlt hb) (hlt.mono hb.size) (by decide) (by decide)
    rw [hres] at hs2
    clear hsz hto heq
    go_enter Try.func14, Try.ntmps14
    go_wp2_with (go_at_call 44; refine (hs2 _ (by exact Below.one _ _)).mono ?_; rintro r w1 ⟨rfl, hb1⟩)
    go_ret
    exact ⟨rfl, hb1.boxed⟩
end Go.Proofs.Ytkkfgbbedpcnoaa
