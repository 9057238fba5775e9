/- The packer: number, text, elements, value. (Written by wip/gen/packer.py.) -/
import Derived.Test.YtjjcdlghichmdaaPacker
import Derived.Test.YtjjcdlghichmdaaFlt
import Derived.Test.YtjjcdlghichmdaaVal
import Derived.Deep.LoopGhost
set_option linter.unusedVariables false
set_option maxRecDepth 100000
set_option linter.unusedSimpArgs false
namespace Go.Proofs.Ytjjcdlghichmdaa
open Go.RowKit

theorem ba_len (s : ByteArray) : s.data.toList.length = s.size := by simp
theorem lit1g (w : World) (g : Nat) (hg : w.heap.size = g) (x : Int) (h : 0 ≤ x ∧ x < 256) : Sl (w.alloc (.cells #[.int .u8 x] 5)) (g + 1) 1 (some ⟨g, 0, none⟩) 1 1 (u8s [UInt8.ofNat x.toNat]) := by subst hg; exact lit1 w x h
theorem numP_len (wd : Bool) (mj n : Int) : (numP wd mj n).length ≤ 9 := headP_len _ _ _ _
theorem Pk.put2 {w w1 : World} {g : Nat} {A A' : Option Addr} {n' c' : Nat} {b' : List UInt8} {v0 : Value} {wd op : Bool} (hb : Blk w g 55 #[v0, .bool wd, .bool op]) (h1 : BS w (g + 1) A' n' c' b') (hw : GP g A A' w1 w) :
    Pk (w.setCell ⟨g, 0, none⟩ (.slice A' n' c')) g A' n' c' b' wd op ∧ GP g A A' w1 (w.setCell ⟨g, 0, none⟩ (.slice A' n' c')) := by
  have hf := (Fr.refl [g] w).setCell (p := ⟨g, 0, none⟩) (by simp) (.slice A' n' c')
  refine ⟨⟨by simpa using hb.set_ 0 (.slice A' n' c'), h1.fr hf fun x hx h2 => ?_⟩, ⟨hw.fr.trans (hf.mono fun x hx => by rw [List.mem_singleton] at hx; subst hx; exact List.mem_cons_self), hw.own⟩⟩
  rw [List.mem_singleton] at h2
  subst h2
  exact Nat.lt_irrefl _ (Nat.lt_of_lt_of_le (Nat.lt_succ_self _) (h1.from_ x hx))
theorem pk_cells {w : World} {g : Nat} {v0 v1 v2 : Value} (h : Blk w g 55 #[v0, v1, v2]) : w.cell? ⟨g, 0, none⟩ = some v0 ∧ w.cell? ⟨g, 1, none⟩ = some v1 ∧ w.cell? ⟨g, 2, none⟩ = some v2 ∧ w.frozen? ⟨g, 0, none⟩ = false := ⟨h.cell 0, h.cell 1, h.cell 2, h.frozen 0⟩
set_option maxHeartbeats 800000 in
theorem i_number (g : Nat) (A : Option Addr) (m c : Nat) (b : List UInt8) (wd op : Bool) (mj n : Int) (w : World) (h : Pk w g A m c b wd op) (hm : m ≤ 137438953472) (hn : n ≤ 9223372036854775807) :
    Calls Try.prog 41 #[.pointer (some ⟨g, 0, none⟩), .int .i64 mj, .int .i64 n] w fun r w' => ∃ A' n' c', r = .returned (.tuple #[]) ∧ Pk w' g A' n' c' (b ++ numP wd mj n) wd op ∧ GP g A A' w w' := by
  cases hk : headOk mj n (headWide n)
  · have hF : ∀ w1, Calls Try.prog 48 #[.int .i64 mj, .int .i64 n] w1 fun r w' => r = .returned (.agg #[.int .i64 0, .int .i64 0, .int .i64 0]) ∧ Below w1.heap.size w1 w' := fun w1 =>
      (i_HeadFor mj n w1 hn).mono fun r w' ⟨h1, h2⟩ => ⟨by rw [h1, headForV_no rfl hk], h2⟩
    have HP := Lib.hid (show numP wd mj n = [] from by unfold numP headP; rw [hk]; rfl)
    have hne : ((0 : Int) == mj) = false ∨ (((0 : Int) == mj) = true ∧ ((0 : Int) == n) = false) := by
      by_cases h0 : mj = 0
      · right
        refine ⟨by rw [h0]; rfl, ?_⟩
        cases hn0 : ((0 : Int) == n)
        · rfl
        · have hn1 : (0 : Int) = n := eq_of_beq hn0
          exact absurd hk (by rw [h0, ← hn1]; decide)
      · left
        cases hq : ((0 : Int) == mj)
        · rfl
        · exact absurd (eq_of_beq hq).symm h0
    clear hk
    rcases hne with hne | ⟨hne, hne2⟩
    all_goals
      go_enter Try.func41, Try.ntmps41
      go_wp2_with (go_at_call 48; refine (hF _).mono ?_; rintro r w1 ⟨rfl, hb1⟩)
      refine bodyPost_end (results_none Try.results41 _ _ _) rfl ?_
      have hk := hb1.up (Below.one w1 (.cells #[.int .i64 0, .int .i64 0, .int .i64 0] 46))
      exact ⟨_, _, _, rfl, by rw [HP.out, List.append_nil]; exact h.below hk, GP.of_below hk⟩
  · have hF : ∀ w1, Calls Try.prog 48 #[.int .i64 mj, .int .i64 n] w1 fun r w' => r = .returned (.agg #[.int .i64 mj, .int .i64 n, .int .i64 (headWide n)]) ∧ Below w1.heap.size w1 w' := fun w1 =>
      (i_HeadFor mj n w1 hn).mono fun r w' ⟨h1, h2⟩ => ⟨by rw [h1, headForV_yes rfl hk], h2⟩
    clear hk
    go_enter Try.func41, Try.ntmps41
    go_wp2_with (first
      | (go_at_call 48; refine (hF _).mono ?_; rintro r w1 ⟨rfl, hb1⟩; have hk := hb1.up (Below.one w1 (.cells #[.int .i64 mj, .int .i64 n, .int .i64 (headWide n)] 46)))
      | (go_at_call 44; refine (i_head g A m c b wd op mj n _ _ (h.below hk) hm hn).mono ?_; rintro r w2 ⟨A2, n2, c2, rfl, h2, hg2⟩))
    refine bodyPost_end (results_none Try.results41 _ _ _) rfl ?_
    exact ⟨_, _, _, rfl, h2, (GP.of_below hk).trans hg2⟩
def textP (wd op : Bool) (mj : Int) (s : ByteArray) : List UInt8 :=
  if op = true then (if s.size = 0 then headP wd mj 0 (-1) ++ [255] else headP wd mj 0 (-1) ++ (numP wd mj s.size ++ s.data.toList) ++ [255]) else numP wd mj s.size ++ s.data.toList
set_option maxHeartbeats 1600000 in
theorem i_text (g : Nat) (A : Option Addr) (m c : Nat) (b : List UInt8) (wd op : Bool) (mj : Int) (s : ByteArray) (w : World) (h : Pk w g A m c b wd op) (hm : m ≤ 68719476736) (hs : s.size ≤ 68719476736) :
    Calls Try.prog 42 #[.pointer (some ⟨g, 0, none⟩), .int .i64 mj, .string s] w fun r w' => ∃ A' n' c', r = .returned (.tuple #[]) ∧ Pk w' g A' n' c' (b ++ textP wd op mj s) wd op ∧ GP g A A' w w' := by
  have hlen := h.own.len
  have hl9 := numP_len wd mj s.size
  have hh9 := headP_len wd mj 0 (-1)
  have g0 := GP.refl g A w
  obtain ⟨q0, q1, q2, q3⟩ := h.cells
  cases op
  · have HP := Lib.hid (show textP wd false mj s = numP wd mj s.size ++ s.data.toList from if_neg (by simp))
    go_enter Try.func42, Try.ntmps42
    go_wp2_with (first
      | (go_at_call 41; refine (i_number g _ _ _ _ _ _ mj (s.size : Nat) _ h (by omega) (by omega)).mono ?_; rintro r w1 ⟨A1, n1, c1, rfl, h1, hg1⟩; have g1 := g0.trans hg1; have l1 := h1.own.len; simp only [List.length_append] at l1; obtain ⟨q0, q1, q2, q3⟩ := h1.cells)
      | (at_builtin; refine app_strg rfl _ _ rfl h1.own rfl rfl (by omega) h1.lt ?_; intro A2 c2 w2 h2 hg2; have B2 := hg2.blk h1.blk h1.notin; have g2 := g1.trans (GP.of_gr hg2); obtain ⟨q0, q1, q2, q3⟩ := pk_cells B2))
    refine bodyPost_ret (results_none Try.results42 _ _ _) rfl ?_
    obtain ⟨r1, r2⟩ := Pk.put2 B2 h2 g2
    exact ⟨_, _, _, rfl, by rw [HP.out, ← List.append_assoc]; exact r1, r2⟩
  · by_cases h0 : s.size = 0
    · have HP := Lib.hid (show textP wd true mj s = headP wd mj 0 (-1) ++ [255] from by unfold textP; rw [if_pos rfl, if_pos h0])
      have hs0 : s = ⟨#[]⟩ := by
        apply ByteArray.ext
        exact Array.eq_empty_of_size_eq_zero h0
      subst hs0
      go_enter Try.func42, Try.ntmps42
      go_wp2_with (first
        | (go_at_call 44; refine (i_head g _ _ _ _ _ _ mj 0 (-1) _ h (by omega) (by omega)).mono ?_; rintro r w1 ⟨A1, n1, c1, rfl, h1, hg1⟩; have g1 := g0.trans hg1; have l1 := h1.own.len; simp only [List.length_append] at l1; obtain ⟨q0, q1, q2, q3⟩ := h1.cells)
        | (at_builtin; refine app_u8g rfl _ _ rfl (h1.own.alloc _) rfl (lit1g _ _ (by first | rfl | exact size_setCell _ _ _) _ (by decide)) rfl (by omega) (Nat.le_trans h1.lt (Below.one _ _).size) ?_; intro A2 c2 w2 h2 hg2; have B2 := hg2.blk (h1.blk.alloc _) h1.notin; have g2 := (g1.trans (GP.of_below (Below.one _ _))).trans (GP.of_gr hg2); obtain ⟨q0, q1, q2, q3⟩ := pk_cells B2))
      refine bodyPost_end (results_none Try.results42 _ _ _) rfl ?_
      obtain ⟨r1, r2⟩ := Pk.put2 B2 h2 g2
      exact ⟨_, _, _, rfl, by rw [HP.out, ← List.append_assoc]; exact r1, r2⟩
    · have HP := Lib.hid (show textP wd true mj s = headP wd mj 0 (-1) ++ (numP wd mj s.size ++ s.data.toList) ++ [255] from by unfold textP; rw [if_pos rfl, if_neg h0])
      have hne : s.toList.isEmpty = false := by
        rw [ByteArray.toList_eq]
        cases hx : s.data.toList.isEmpty
        · rfl
        · exact absurd (by rw [← ba_len, List.isEmpty_iff.1 hx]; rfl) h0
      go_enter Try.func42, Try.ntmps42
      go_wp2_with (first
        | (go_at_call 44; refine (i_head g _ _ _ _ _ _ mj 0 (-1) _ h (by omega) (by omega)).mono ?_; rintro r w1 ⟨A1, n1, c1, rfl, h1, hg1⟩; have g1 := g0.trans hg1; have l1 := h1.own.len; simp only [List.length_append] at l1; obtain ⟨q0, q1, q2, q3⟩ := h1.cells)
        | (go_at_call 41; refine (i_number g _ _ _ _ _ _ mj (s.size : Nat) _ h1 (by omega) (by omega)).mono ?_; rintro r w2 ⟨A2, n2, c2, rfl, h2, hg2⟩; have g2 := g1.trans hg2; have l2 := h2.own.len; simp only [List.length_append] at l2; obtain ⟨q0, q1, q2, q3⟩ := h2.cells)
        | (at_builtin; refine app_strg rfl _ _ rfl h2.own rfl rfl (by omega) h2.lt ?_; intro A3 c3 w3 h3 hg3; have B3 := hg3.blk h2.blk h2.notin; have g3 := g2.trans (GP.of_gr hg3); obtain ⟨q0, q1, q2, q3⟩ := pk_cells B3; have hx := Pk.put2 B3 h3 g3; have h4 := hx.1; have g4 := hx.2; have l4 := h4.own.len; simp only [List.length_append, ba_len] at l4; obtain ⟨q0, q1, q2, q3⟩ := h4.cells)
        | (at_builtin; refine app_u8g rfl _ _ rfl (h4.own.alloc _) rfl (lit1g _ _ (by first | rfl | exact size_setCell _ _ _) _ (by decide)) rfl (by omega) (Nat.le_trans h4.lt (Below.one _ _).size) ?_; intro A5 c5 w5 h5 hg5; have B5 := hg5.blk (h4.blk.alloc _) h4.notin; have g5 := (g4.trans (GP.of_below (Below.one _ _))).trans (GP.of_gr hg5); obtain ⟨q0, q1, q2, q3⟩ := pk_cells B5))
      refine bodyPost_end (results_none Try.results42 _ _ _) rfl ?_
      obtain ⟨r1, r2⟩ := Pk.put2 B5 h5 g5
      have r3 : Pk _ g _ _ _ (b ++ headP wd mj 0 (-1) ++ numP wd mj s.size ++ s.data.toList ++ [255]) wd true := r1
      exact ⟨_, _, _, rfl, by rw [HP.out]; simpa only [List.append_assoc] using r3, r2⟩
end Go.Proofs.Ytjjcdlghichmdaa
