/- A tree that came in, opened. MarkFor. -/
import Derived.Test.YtihhedmehlemmaaMkVal
import Derived.Test.YtihhedmehlemmaaMkM31
import Derived.Test.YtihhedmehlemmaaMkHex
set_option linter.unusedVariables false
set_option maxRecDepth 100000
set_option linter.unusedSimpArgs false
namespace Go.Proofs.Ytihhedmehlemmaa
open Go.ChangeShapes Go.WideShapes Go.ChangeAt Go.RowKit

theorem lists_of {Q : Nat → Tr → El → Prop} (n : Nat) (h : ∀ i, i < n → ∃ t e, Q i t e) : ∃ (l : List Tr) (es : List El), l.length = n ∧ es.length = n ∧ ∀ (i : Nat) (t : Tr) (e : El), l[i]? = some t → es[i]? = some e → Q i t e := by
  induction n with
  | zero => exact ⟨[], [], rfl, rfl, fun i t e h => by simp at h⟩
  | succ n ih =>
    obtain ⟨l, es, h1, h2, h3⟩ := ih fun i hi => h i (by omega)
    obtain ⟨t, e, hq⟩ := h n (by omega)
    refine ⟨l ++ [t], es ++ [e], by simp [h1], by simp [h2], fun i t2 e2 ht he => ?_⟩
    rcases Nat.lt_or_ge i n with hi | hi
    · rw [List.getElem?_append_left (by omega)] at ht he
      exact h3 i t2 e2 ht he
    · have : i < (l ++ [t]).length := (List.getElem?_eq_some_iff.1 ht).1
      obtain rfl : i = n := by simp [h1] at this; omega
      rw [List.getElem?_append_right (by omega)] at ht he
      simp [h1, h2] at ht he
      subst ht he
      exact hq
theorem five_of {α : Type} {cs : List α} (h : cs.length = 5) : ∃ a b c d e, cs = [a, b, c, d, e] := by
  match cs, h with
  | [a, b, c, d, e], _ => exact ⟨a, b, c, d, e, rfl⟩
theorem drop_get {α : Type} (xs : List α) (i j : Nat) (hj : j < 5) {cs : List α} (h : (xs.drop (i * 5)).take 5 = cs) : xs[i * 5 + j]? = cs[j]? := by
  subst h
  rw [List.getElem?_take, if_pos hj, List.getElem?_drop]
end Go.Proofs.Ytihhedmehlemmaa

namespace Go.Proofs.Ytihhedmehlemmaa
open Go.RowKit

def markFor (k n x : Int) (sl m : Nat) : Int × Int :=
  if k = 1 ∨ k = 2 ∨ k = 3 ∨ k = 5 then (k, n) else if k = 4 then (4, fltBits n x) else if k = 7 ∨ k = 8 then (k, sl) else if k = 9 then (9, m) else if k = 10 then (10, (m : Int) / 2) else (0, 0)
theorem tdiv2 (m : Nat) : Int.tdiv (m : Int) 2 = (m : Int) / 2 := by rw [Int.tdiv_eq_ediv]; simp
set_option maxHeartbeats 1600000 in
theorem i_MarkFor (k n x : Int) (s : ByteArray) (A : Option Addr) (m c : Nat) (w : World) (hx : x ≤ 9223372036854775807) (hm : m ≤ 9223372036854775807) :
    Calls Try.prog 21 #[.agg #[.int .i64 k, .int .i64 n, .int .i64 x, .string s, .slice A m c]] w fun e w' => e = .returned (.agg #[.int .i64 (markFor k n x s.size m).1, .int .i64 (markFor k n x s.size m).2]) ∧ Below w.heap.size w w' := by
  have hbl : ∀ (o : Obj) (a b : Value), Blk ((w.alloc o).alloc (.cells #[a, b] 36)) (w.heap.size + 1) 36 #[a, b] := fun o a b => by simpa using Blk.new (w.alloc o) 36 #[a, b]
  by_cases h : k = 1 ∨ k = 2 ∨ k = 3 ∨ k = 5 ∨ k = 7 ∨ k = 8 ∨ k = 9
  · rcases h with rfl | rfl | rfl | rfl | rfl | rfl | rfl
    all_goals
      go_enter Try.func21, Try.ntmps21
      go_wp2_with fail
      exact bodyPost_ret (results_blk Try.results21 Try.isAgg36 (by exact Try.sizeOf36) rfl (hbl _ _ _)) rfl ⟨rfl, Below.two _ _ _⟩
  by_cases h10 : k = 10
  · subst h10
    have ht := tdiv2 m
    have hm0 : (0 : Int) ≤ (m : Int) / 2 := by omega
    have hm1 : (m : Int) / 2 ≤ 9223372036854775807 := by omega
    go_enter Try.func21, Try.ntmps21
    go_wp2_with fail
    exact bodyPost_ret (results_blk Try.results21 Try.isAgg36 (by exact Try.sizeOf36) rfl (hbl _ _ _)) rfl ⟨rfl, Below.two _ _ _⟩
  by_cases h4 : k = 4
  · subst h4
    go_enter Try.func21, Try.ntmps21
    go_wp2_with (go_at_call 52; refine (i_FltBits _ _ _ hx).mono ?_; rintro e w2 ⟨rfl, hb2⟩; obtain ⟨hc1, hf1⟩ := bcell hb2; have hz1 : w.heap.size + 1 < w2.heap.size := (by have := hb2.size; simp at this; omega))
    have hblk : Blk w2 (w.heap.size + 1) 36 #[.int .i64 0, .int .i64 0] := Blk.below (by simpa using Blk.new (w.alloc (.cells #[.int .i64 4, .int .i64 n, .int .i64 x, .string s, .slice A m c] 26)) 36 #[.int .i64 0, .int .i64 0]) hb2 (by simp <;> omega)
    exact bodyPost_ret (results_blk Try.results21 Try.isAgg36 (by exact Try.sizeOf36) rfl (hblk.two _ _)) rfl ⟨rfl, (((Below.two w _ _).up hb2).setCell (by simp) _).setCell (by simp) _⟩
  have e1 : (k == 1) = false := by simp; omega
  have e2 : (k == 2) = false := by simp; omega
  have e3 : (k == 3) = false := by simp; omega
  have e4 : (k == 4) = false := by simp; omega
  have e5 : (k == 5) = false := by simp; omega
  have e7 : (k == 7) = false := by simp; omega
  have e8 : (k == 8) = false := by simp; omega
  have e9 : (k == 9) = false := by simp; omega
  have e10 : (k == 10) = false := by simp; omega
  have hm2 : markFor k n x s.size m = (0, 0) := by
    unfold markFor
    rw [if_neg (by omega), if_neg (by omega), if_neg (by omega), if_neg (by omega), if_neg (by omega)]
  have HM := Lib.hid hm2
  clear hm2 h h4 h10
  go_enter Try.func21, Try.ntmps21
  go_wp2_with fail
  exact bodyPost_ret (results_blk Try.results21 Try.isAgg36 (by exact Try.sizeOf36) rfl (hbl _ _ _)) rfl ⟨by rw [HM.out], Below.two _ _ _⟩
set_option maxHeartbeats 1600000 in
theorem s_MarkFor (k n x : Int) (s : ByteArray) (A : Option Addr) (m c : Nat) (w : World) (hx : x ≤ 9223372036854775807) (hm : m ≤ 9223372036854775807) :
    Calls Try.prog 22 #[.agg #[.int .i64 k, .int .i64 n, .int .i64 x, .string s, .slice A m c]] w fun e w' => e = .returned (.agg #[.int .i64 (markFor k n x s.size m).1, .int .i64 (markFor k n x s.size m).2]) ∧ Below w.heap.size w w' := by
  have hbl : ∀ (o : Obj) (a b : Value), Blk ((w.alloc o).alloc (.cells #[a, b] 36)) (w.heap.size + 1) 36 #[a, b] := fun o a b => by simpa using Blk.new (w.alloc o) 36 #[a, b]
  by_cases h : k = 1 ∨ k = 2 ∨ k = 3 ∨ k = 5 ∨ k = 7 ∨ k = 8 ∨ k = 9
  · rcases h with rfl | rfl | rfl | rfl | rfl | rfl | rfl
    all_goals
      go_enter Try.func22, Try.ntmps22
      go_wp2_with fail
      exact bodyPost_ret (results_blk Try.results22 Try.isAgg36 (by exact Try.sizeOf36) rfl (hbl _ _ _)) rfl ⟨rfl, Below.two _ _ _⟩
  by_cases h10 : k = 10
  · subst h10
    have ht := tdiv2 m
    have hm0 : (0 : Int) ≤ (m : Int) / 2 := by omega
    have hm1 : (m : Int) / 2 ≤ 9223372036854775807 := by omega
    go_enter Try.func22, Try.ntmps22
    go_wp2_with fail
    exact bodyPost_ret (results_blk Try.results22 Try.isAgg36 (by exact Try.sizeOf36) rfl (hbl _ _ _)) rfl ⟨rfl, Below.two _ _ _⟩
  by_cases h4 : k = 4
  · subst h4
    go_enter Try.func22, Try.ntmps22
    have hS : ∀ w2, Below (((w.alloc (.cells #[.int .i64 4, .int .i64 n, .int .i64 x, .string s, .slice A m c] 26)).alloc (.cells #[.int .i64 0, .int .i64 0] 36)).drew).heap.size (((w.alloc (.cells #[.int .i64 4, .int .i64 n, .int .i64 x, .string s, .slice A m c] 26)).alloc (.cells #[.int .i64 0, .int .i64 0] 36)).drew) w2 →
        Blk w2 (w.heap.size + 1) 36 #[.int .i64 0, .int .i64 0] ∧ w2.cell? ⟨w.heap.size + 1, 0, none⟩ = some (.int .i64 0) ∧ w2.cell? ⟨w.heap.size + 1, 1, none⟩ = some (.int .i64 0) ∧ w2.frozen? ⟨w.heap.size + 1, 0, none⟩ = false ∧ w2.frozen? ⟨w.heap.size + 1, 1, none⟩ = false ∧ w2.cell? ⟨w.heap.size, 0, none⟩ = some (.int .i64 4) := by
      intro w2 hb2
      have hblk : Blk w2 (w.heap.size + 1) 36 #[.int .i64 0, .int .i64 0] := Blk.below (w := ((w.alloc (.cells #[.int .i64 4, .int .i64 n, .int .i64 x, .string s, .slice A m c] 26)).alloc (.cells #[.int .i64 0, .int .i64 0] 36)).drew) (hbl _ _ _) hb2 (show w.heap.size + 1 < ((w.alloc _).alloc _).heap.size from by simp)
      have hbox : Blk w2 w.heap.size 26 #[.int .i64 4, .int .i64 n, .int .i64 x, .string s, .slice A m c] := Blk.below (w := ((w.alloc (.cells #[.int .i64 4, .int .i64 n, .int .i64 x, .string s, .slice A m c] 26)).alloc (.cells #[.int .i64 0, .int .i64 0] 36)).drew) ((Blk.new w _ _).alloc _) hb2 (show w.heap.size < ((w.alloc _).alloc _).heap.size from by simp <;> omega)
      exact ⟨hblk, hblk.cell 0, hblk.cell 1, hblk.frozen 0, hblk.frozen 1, hbox.cell 0⟩
    go_wp2_with fail
    go_region_law ((go_simp; go_at_call 55; refine (s_FltBits _ _ _ hx).mono ?_; rintro e w2 ⟨rfl, hb2⟩; obtain ⟨hk, hc0, hc1, hf0, hf1, hx0⟩ := hS w2 hb2))
    all_goals
      clear hS hbl
      go_wp2
      exact bodyPost_ret (results_blk Try.results22 Try.isAgg36 (by exact Try.sizeOf36) rfl (hk.two _ _)) rfl ⟨rfl, (((Below.two w _ _).drew.up hb2).setCell (by simp) _).setCell (by simp) _⟩
  have e1 : (k == 1) = false := by simp; omega
  have e2 : (k == 2) = false := by simp; omega
  have e3 : (k == 3) = false := by simp; omega
  have e4 : (k == 4) = false := by simp; omega
  have e5 : (k == 5) = false := by simp; omega
  have e7 : (k == 7) = false := by simp; omega
  have e8 : (k == 8) = false := by simp; omega
  have e9 : (k == 9) = false := by simp; omega
  have e10 : (k == 10) = false := by simp; omega
  have hm2 : markFor k n x s.size m = (0, 0) := by
    unfold markFor
    rw [if_neg (by omega), if_neg (by omega), if_neg (by omega), if_neg (by omega), if_neg (by omega)]
  have HM := Lib.hid hm2
  clear hm2 h h4 h10
  go_enter Try.func22, Try.ntmps22
  go_wp2_with fail
  exact bodyPost_ret (results_blk Try.results22 Try.isAgg36 (by exact Try.sizeOf36) rfl (hbl _ _ _)) rfl ⟨by rw [HM.out], Below.two _ _ _⟩
end Go.Proofs.Ytihhedmehlemmaa
