/- MarkOk: impl and spec. (Written by wip/gen/mark.py.) -/
import Derived.Test.YtmelnaidjgpclaaGreatDoorFltNew
import Derived.Deep.RegionHeld3
set_option linter.unusedVariables false
set_option maxRecDepth 100000
set_option linter.unusedSimpArgs false
namespace Go.Proofs.YtmelnaidjgpclaaGreatDoor
open Go.RowKit

/-- What BitsFlt hands back, as data. -/
def fltOf : Value → Int × Int × Bool
  | .tuple #[.agg #[.int _ a, .int _ b], .bool ok] => (a, b, ok)
  | _ => (0, 0, false)
theorem fltOf_fltV (a b : Int) (ok : Bool) : fltOf (fltV a b ok) = (a, b, ok) := rfl
def markFlt (n : Int) : Bool := (fltOf (bitsFltV n)).2.2 && decide (fltBits (fltOf (bitsFltV n)).1 (fltOf (bitsFltV n)).2.1 = n)
theorem markFlt_no {n a b : Int} (h : bitsFltV n = fltV a b false) : markFlt n = false := by unfold markFlt; rw [h, fltOf_fltV]; rfl
theorem markFlt_yes {n a b : Int} (h : bitsFltV n = fltV a b true) : markFlt n = decide (fltBits a b = n) := by unfold markFlt; rw [h, fltOf_fltV]; rfl
def markOk (k n : Int) : Bool :=
  if k = 1 then decide (n = 0) else if k = 2 then decide (n = 0 ∨ n = 1) else if k = 3 then inR n (-1000000000000000) 1000000000000000
  else if k = 4 then markFlt n else if k = 5 then inR n 0 2 else if 7 ≤ k ∧ k ≤ 10 then inR n 0 65535 else false
/-- What BitsFlt hands back fits an int. -/
theorem strip_bd : ∀ (k : Nat) (m e : Int), e ≤ (strip k m e).2 ∧ (strip k m e).2 ≤ e + k
  | 0, m, e => by simp [strip]
  | k + 1, m, e => by
    have ih := strip_bd k (m.tdiv 2) (e + 1)
    unfold strip
    split
    · omega
    · simp; omega
theorem fltNew_e (m e : Int) : (fltOf (fltNewV m e)).2.1 = 0 ∨ (e ≤ (fltOf (fltNewV m e)).2.1 ∧ (fltOf (fltNewV m e)).2.1 ≤ e + 64) := by
  unfold fltNewV fltNewIn
  split
  · split
    · exact Or.inl rfl
    · split
      · exact Or.inr (strip_bd 64 m e)
      · exact Or.inl rfl
  · exact Or.inl rfl
theorem bitsFlt_e {n a b : Int} {ok : Bool} (h : bitsFltV n = fltV a b ok) : b ≤ 9223372036854775807 := by
  have hx : (fltOf (bitsFltV n)).2.1 = b := by rw [h]; rfl
  unfold bitsFltV at hx
  split at hx
  · have := fltNew_e (if 16777216 ≤ n then -(n % 65536) else n % 65536) (n / 65536 % 256 - 16)
    rw [hx] at this
    omega
  · have : (0 : Int) = b := hx
    omega
/-- Three cells and the frame, carried over a call that makes memory. -/
theorem three_next {w w1 w' w2 : World} {a b n : Value} (hb : Below w'.heap.size w' w2) (h : w'.cell? ⟨w1.heap.size, 0, none⟩ = some a ∧ w'.cell? ⟨w1.heap.size, 1, none⟩ = some b ∧ w'.cell? ⟨w.heap.size, 1, none⟩ = some n ∧ Below w.heap.size w w') :
    w2.cell? ⟨w1.heap.size, 0, none⟩ = some a ∧ w2.cell? ⟨w1.heap.size, 1, none⟩ = some b ∧ w2.cell? ⟨w.heap.size, 1, none⟩ = some n ∧ Below w.heap.size w w2 := by
  obtain ⟨h1, h2, h3, h4⟩ := h
  have l1 : w1.heap.size < w'.heap.size := World.block_lt_of_cell? w' ⟨w1.heap.size, 0, none⟩ h1
  have l2 : w.heap.size < w'.heap.size := World.block_lt_of_cell? w' ⟨w.heap.size, 1, none⟩ h3
  exact ⟨(hb.cell (p := ⟨w1.heap.size, 0, none⟩) l1).trans h1, (hb.cell (p := ⟨w1.heap.size, 1, none⟩) l1).trans h2, (hb.cell (p := ⟨w.heap.size, 1, none⟩) l2).trans h3, h4.up hb⟩
theorem markOk_other {k n : Int} (h1 : k ≠ 1) (h2 : k ≠ 2) (h3 : k ≠ 3) (h4 : k ≠ 4) (h5 : k ≠ 5) (h : ¬ (7 ≤ k ∧ k ≤ 10)) : false = markOk k n := by
  unfold markOk; rw [if_neg h1, if_neg h2, if_neg h3, if_neg h4, if_neg h5, if_neg h]
set_option maxHeartbeats 2000000 in
theorem i_MarkOk (k n : Int) (w : World) :
    Calls Tryz.prog 63 #[.agg #[.int .i64 k, .int .i64 n]] w fun e' w' => e' = .returned (.bool (markOk k n)) ∧ Below w.heap.size w w' := by
  by_cases h1 : k = 1
  · subst h1
    go_enter Tryz.func63, Tryz.ntmps63
    go_wp2_with fail
    go_ret
    exact ⟨ret_bool (by unfold markOk; rw [Bool.eq_iff_iff]; simp), Below.one _ _⟩
  by_cases h2 : k = 2
  · subst h2
    by_cases hn : n = 0
    · subst hn
      go_enter Tryz.func63, Tryz.ntmps63
      go_wp2_with fail
      go_ret
      exact ⟨ret_bool (by decide), Below.one _ _⟩
    by_cases hn1 : n = 1
    · subst hn1
      go_enter Tryz.func63, Tryz.ntmps63
      go_wp2_with fail
      go_ret
      exact ⟨ret_bool (by decide), Below.one _ _⟩
    have e0 : (n == 0) = false := by simpa using hn
    have e1 : (n == 1) = false := by simpa using hn1
    go_enter Tryz.func63, Tryz.ntmps63
    go_wp2_with fail
    go_ret
    exact ⟨ret_bool (by unfold markOk; rw [Bool.eq_iff_iff]; simp [hn, hn1]), Below.one _ _⟩
  by_cases h3 : k = 3
  · subst h3
    go_enter Tryz.func63, Tryz.ntmps63
    go_wp2_with (go_at_call 85; refine (i_within _ _ _ _).mono ?_; rintro e w' ⟨rfl, rfl⟩)
    go_ret
    exact ⟨ret_bool rfl, Below.one _ _⟩
  by_cases h4 : k = 4
  · subst h4
    obtain ⟨a, b, ok, hv⟩ := bitsFltV_shape n
    have HV := Lib.hid hv
    have hbe := bitsFlt_e hv; clear hv
    have hM : markOk 4 n = markFlt n := rfl
    cases ok with
    | false =>
      have HM := Lib.hid (hM.trans (markFlt_no HV.out)); clear hM
      go_enter Tryz.func63, Tryz.ntmps63
      go_wp2_with (go_at_call 103; refine (i_BitsFlt _ _).mono ?_; rintro e w1 ⟨rfl, hb1⟩; rw [HV.out]; unfold fltV; obtain ⟨hc1, hf1⟩ := bcell hb1; have hz1 : w.heap.size < w1.heap.size := by have := hb1.size; simp at this; omega)
      go_quiet (fail)
      go_wp2
      go_ret
      exact ⟨ret_bool HM.out.symm, below_drewN (hb1.boxed.up (Below.one _ _)) _⟩
    | true =>
      have HM := Lib.hid (hM.trans (markFlt_yes HV.out)); clear hM
      cases hq : (fltBits a b == n)
      all_goals
        have HQ := Lib.hid hq
        go_enter Tryz.func63, Tryz.ntmps63
        go_wp2_with (go_at_call 103; refine (i_BitsFlt _ _).mono ?_; rintro e w1 ⟨rfl, hb1⟩; rw [HV.out]; unfold fltV; obtain ⟨hc1, hf1⟩ := bcell hb1; have hz1 : w.heap.size < w1.heap.size := by have := hb1.size; simp at this; omega)
        have hS : (w1.alloc (.cells #[.int .i64 a, .int .i64 b] 51)).cell? ⟨w1.heap.size, 0, none⟩ = some (.int .i64 a) ∧ (w1.alloc (.cells #[.int .i64 a, .int .i64 b] 51)).cell? ⟨w1.heap.size, 1, none⟩ = some (.int .i64 b) ∧ (w1.alloc (.cells #[.int .i64 a, .int .i64 b] 51)).cell? ⟨w.heap.size, 1, none⟩ = some (.int .i64 n) ∧ Below w.heap.size w (w1.alloc (.cells #[.int .i64 a, .int .i64 b] 51)) := by
          refine ⟨by simp [go_sem], by simp [go_sem], ?_, hb1.boxed.up (Below.one _ _)⟩
          rw [World.cell?_alloc_lt _ _ _ hz1, hc1 _ _ (by simp)]; simp [go_sem]
        generalize w1.alloc (.cells #[.int .i64 a, .int .i64 b] 51) = w5 at hS ⊢
        clear hb1 hc1 hf1
        go_region_held3 (fun w' => w'.cell? ⟨w1.heap.size, 0, none⟩ = some (.int .i64 a) ∧ w'.cell? ⟨w1.heap.size, 1, none⟩ = some (.int .i64 b) ∧ w'.cell? ⟨w.heap.size, 1, none⟩ = some (.int .i64 n) ∧ Below w.heap.size w w') (first | exact ⟨hS.1, hS.2.1, hS.2.2.1, hS.2.2.2.drew⟩ | (refine three_next hb2 ?_; assumption)) (first | (go_at_call 91; refine (i_FltBits _ _ _ hbe).mono ?_; rintro e w2 ⟨rfl, hb2⟩))
        rename_i hHeld
        go_wp2
        go_ret
        exact ⟨ret_bool (by rw [HM.out]; have := HQ.out; simp at this ⊢; exact this), hHeld.2.2.2⟩
  by_cases h5 : k = 5
  · subst h5
    go_enter Tryz.func63, Tryz.ntmps63
    go_wp2_with (go_at_call 85; refine (i_within _ _ _ _).mono ?_; rintro e w' ⟨rfl, rfl⟩)
    go_ret
    exact ⟨ret_bool rfl, Below.one _ _⟩
  by_cases h7 : 7 ≤ k ∧ k ≤ 10
  · have h8 : k = 7 ∨ k = 8 ∨ k = 9 ∨ k = 10 := by omega
    clear h1 h2 h3 h4 h5 h7
    rcases h8 with rfl | rfl | rfl | rfl
    all_goals
      go_enter Tryz.func63, Tryz.ntmps63
      go_wp2_with (go_at_call 85; refine (i_within _ _ _ _).mono ?_; rintro e w' ⟨rfl, rfl⟩)
      go_ret
      exact ⟨ret_bool rfl, Below.one _ _⟩
  · have HM := Lib.hid (markOk_other (n := n) h1 h2 h3 h4 h5 h7)
    have e1 : (k == 1) = false := by simpa using h1
    have e2 : (k == 2) = false := by simpa using h2
    have e3 : (k == 3) = false := by simpa using h3
    have e4 : (k == 4) = false := by simpa using h4
    have e5 : (k == 5) = false := by simpa using h5
    have e7 : (k == 7) = false := by simp; omega
    have e8 : (k == 8) = false := by simp; omega
    have e9 : (k == 9) = false := by simp; omega
    have e10 : (k == 10) = false := by simp; omega
    clear h1 h2 h3 h4 h5 h7
    go_enter Tryz.func63, Tryz.ntmps63
    go_wp2_with fail
    go_ret
    exact ⟨ret_bool HM.out, Below.one _ _⟩
set_option maxHeartbeats 2000000 in
theorem s_MarkOk (k n : Int) (w : World) :
    Calls Tryz.prog 58 #[.agg #[.int .i64 k, .int .i64 n]] w fun e' w' => e' = .returned (.bool (markOk k n)) ∧ Below w.heap.size w w' := by
  by_cases h1 : k = 1
  · subst h1
    go_enter Tryz.func58, Tryz.ntmps58
    go_wp2_with fail
    go_ret
    exact ⟨ret_bool (by unfold markOk; rw [Bool.eq_iff_iff]; simp), Below.one _ _⟩
  by_cases h2 : k = 2
  · subst h2
    go_enter Tryz.func58, Tryz.ntmps58
    go_wp2_with (go_at_call 40; refine (s_l1In _ _ _ _).mono ?_; rintro e w' ⟨rfl, rfl⟩)
    go_ret
    exact ⟨ret_bool (by unfold markOk inR; rw [Bool.eq_iff_iff]; simp; omega), Below.one _ _⟩
  by_cases h3 : k = 3
  · subst h3
    go_enter Tryz.func58, Tryz.ntmps58
    go_wp2_with (go_at_call 40; refine (s_l1In _ _ _ _).mono ?_; rintro e w' ⟨rfl, rfl⟩)
    go_ret
    exact ⟨ret_bool rfl, Below.one _ _⟩
  by_cases h4 : k = 4
  · subst h4
    obtain ⟨a, b, ok, hv⟩ := bitsFltV_shape n
    have HV := Lib.hid hv
    have hbe := bitsFlt_e hv; clear hv
    have hM : markOk 4 n = markFlt n := rfl
    cases ok with
    | false =>
      have HM := Lib.hid (hM.trans (markFlt_no HV.out)); clear hM
      go_enter Tryz.func58, Tryz.ntmps58
      go_wp2_with (go_at_call 52; refine (s_BitsFlt _ _).mono ?_; rintro e w1 ⟨rfl, hb1⟩; rw [HV.out]; unfold fltV; obtain ⟨hc1, hf1⟩ := bcell hb1; have hz1 : w.heap.size < w1.heap.size := by have := hb1.size; simp at this; omega)
      go_quiet (fail)
      go_wp2
      go_ret
      exact ⟨ret_bool HM.out.symm, below_drewN (hb1.boxed.up (Below.one _ _)) _⟩
    | true =>
      have HM := Lib.hid (hM.trans (markFlt_yes HV.out)); clear hM
      cases hq : (fltBits a b == n)
      all_goals
        have HQ := Lib.hid hq
        go_enter Tryz.func58, Tryz.ntmps58
        go_wp2_with (go_at_call 52; refine (s_BitsFlt _ _).mono ?_; rintro e w1 ⟨rfl, hb1⟩; rw [HV.out]; unfold fltV; obtain ⟨hc1, hf1⟩ := bcell hb1; have hz1 : w.heap.size < w1.heap.size := by have := hb1.size; simp at this; omega)
        have hS : (w1.alloc (.cells #[.int .i64 a, .int .i64 b] 51)).cell? ⟨w1.heap.size, 0, none⟩ = some (.int .i64 a) ∧ (w1.alloc (.cells #[.int .i64 a, .int .i64 b] 51)).cell? ⟨w1.heap.size, 1, none⟩ = some (.int .i64 b) ∧ (w1.alloc (.cells #[.int .i64 a, .int .i64 b] 51)).cell? ⟨w.heap.size, 1, none⟩ = some (.int .i64 n) ∧ Below w.heap.size w (w1.alloc (.cells #[.int .i64 a, .int .i64 b] 51)) := by
          refine ⟨by simp [go_sem], by simp [go_sem], ?_, hb1.boxed.up (Below.one _ _)⟩
          rw [World.cell?_alloc_lt _ _ _ hz1, hc1 _ _ (by simp)]; simp [go_sem]
        generalize w1.alloc (.cells #[.int .i64 a, .int .i64 b] 51) = w5 at hS ⊢
        clear hb1 hc1 hf1
        go_region_held3 (fun w' => w'.cell? ⟨w1.heap.size, 0, none⟩ = some (.int .i64 a) ∧ w'.cell? ⟨w1.heap.size, 1, none⟩ = some (.int .i64 b) ∧ w'.cell? ⟨w.heap.size, 1, none⟩ = some (.int .i64 n) ∧ Below w.heap.size w w') (first | exact ⟨hS.1, hS.2.1, hS.2.2.1, hS.2.2.2.drew⟩ | (refine three_next hb2 ?_; assumption)) (first | (go_at_call 42; refine (s_FltBits _ _ _ hbe).mono ?_; rintro e w2 ⟨rfl, hb2⟩))
        rename_i hHeld
        go_wp2
        go_ret
        exact ⟨ret_bool (by rw [HM.out]; have := HQ.out; simp at this ⊢; exact this), hHeld.2.2.2⟩
  by_cases h5 : k = 5
  · subst h5
    go_enter Tryz.func58, Tryz.ntmps58
    go_wp2_with (go_at_call 40; refine (s_l1In _ _ _ _).mono ?_; rintro e w' ⟨rfl, rfl⟩)
    go_ret
    exact ⟨ret_bool rfl, Below.one _ _⟩
  by_cases h7 : 7 ≤ k ∧ k ≤ 10
  · have h8 : k = 7 ∨ k = 8 ∨ k = 9 ∨ k = 10 := by omega
    clear h1 h2 h3 h4 h5 h7
    rcases h8 with rfl | rfl | rfl | rfl
    all_goals
      go_enter Tryz.func58, Tryz.ntmps58
      go_wp2_with (go_at_call 40; refine (s_l1In _ _ _ _).mono ?_; rintro e w' ⟨rfl, rfl⟩)
      go_ret
      exact ⟨ret_bool rfl, Below.one _ _⟩
  · have HM := Lib.hid (markOk_other (n := n) h1 h2 h3 h4 h5 h7)
    have e1 : (k == 1) = false := by simpa using h1
    have e2 : (k == 2) = false := by simpa using h2
    have e3 : (k == 3) = false := by simpa using h3
    have e4 : (k == 4) = false := by simpa using h4
    have e5 : (k == 5) = false := by simpa using h5
    have e7 : (k == 7) = false := by simp; omega
    have e8 : (k == 8) = false := by simp; omega
    have e9 : (k == 9) = false := by simp; omega
    have e10 : (k == 10) = false := by simp; omega
    clear h1 h2 h3 h4 h5 h7
    go_enter Tryz.func58, Tryz.ntmps58
    go_wp2_with fail
    go_ret
    exact ⟨ret_bool HM.out, Below.one _ _⟩
end Go.Proofs.YtmelnaidjgpclaaGreatDoor
