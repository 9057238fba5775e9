/- MarkFor. (Written by wip/gen/markfor.py.) -/
import Derived.Test.YtmelnaidjgpclaaGreatDoorMark
import Derived.Test.YtmelnaidjgpclaaGreatDoorHex
import Derived.Test.YtmelnaidjgpclaaGreatDoorOpenVal
set_option linter.unusedVariables false
set_option maxRecDepth 100000
set_option linter.unusedSimpArgs false
namespace Go.Proofs.YtmelnaidjgpclaaGreatDoor
open Go.RowKit

def markFor (k n x : Int) (sl m : Nat) : Int × Int :=
  if k = 1 ∨ k = 2 ∨ k = 3 ∨ k = 5 then (k, n) else if k = 4 then (4, fltBits n x) else if k = 7 ∨ k = 8 then (k, sl) else if k = 9 then (9, m) else if k = 10 then (10, (m : Int) / 2) else (0, 0)
theorem tdiv2 (m : Nat) : Int.tdiv (m : Int) 2 = (m : Int) / 2 := by rw [Int.tdiv_eq_ediv]; simp
set_option maxHeartbeats 1600000 in
theorem i_MarkFor (k n x : Int) (s : ByteArray) (A : Option Addr) (m c : Nat) (w : World) (hx : x ≤ 9223372036854775807) (hm : m ≤ 9223372036854775807) :
    Calls Tryz.prog 64 #[.agg #[.int .i64 k, .int .i64 n, .int .i64 x, .string s, .slice A m c]] w fun e w' => e = .returned (.agg #[.int .i64 (markFor k n x s.size m).1, .int .i64 (markFor k n x s.size m).2]) ∧ Below w.heap.size w w' := by
  have hbl : ∀ (o : Obj) (a b : Value), Blk ((w.alloc o).alloc (.cells #[a, b] 63)) (w.heap.size + 1) 63 #[a, b] := fun o a b => by simpa using Blk.new (w.alloc o) 63 #[a, b]
  by_cases h : k = 1 ∨ k = 2 ∨ k = 3 ∨ k = 5 ∨ k = 7 ∨ k = 8 ∨ k = 9
  · rcases h with rfl | rfl | rfl | rfl | rfl | rfl | rfl
    all_goals
      go_enter Tryz.func64, Tryz.ntmps64
      go_wp2_with fail
      exact bodyPost_ret (results_blk Tryz.results64 Tryz.isAgg63 (by exact Tryz.sizeOf63) rfl (hbl _ _ _)) rfl ⟨rfl, Below.two _ _ _⟩
  by_cases h10 : k = 10
  · subst h10
    have ht := tdiv2 m
    have hm0 : (0 : Int) ≤ (m : Int) / 2 := by omega
    have hm1 : (m : Int) / 2 ≤ 9223372036854775807 := by omega
    go_enter Tryz.func64, Tryz.ntmps64
    go_wp2_with fail
    exact bodyPost_ret (results_blk Tryz.results64 Tryz.isAgg63 (by exact Tryz.sizeOf63) rfl (hbl _ _ _)) rfl ⟨rfl, Below.two _ _ _⟩
  by_cases h4 : k = 4
  · subst h4
    go_enter Tryz.func64, Tryz.ntmps64
    go_wp2_with (go_at_call 91; refine (i_FltBits _ _ _ hx).mono ?_; rintro e w2 ⟨rfl, hb2⟩; obtain ⟨hc1, hf1⟩ := bcell hb2; have hz1 : w.heap.size + 1 < w2.heap.size := (by have := hb2.size; simp at this; omega))
    have hblk : Blk w2 (w.heap.size + 1) 63 #[.int .i64 0, .int .i64 0] := Blk.below (by simpa using Blk.new (w.alloc (.cells #[.int .i64 4, .int .i64 n, .int .i64 x, .string s, .slice A m c] 28)) 63 #[.int .i64 0, .int .i64 0]) hb2 (by simp <;> omega)
    exact bodyPost_ret (results_blk Tryz.results64 Tryz.isAgg63 (by exact Tryz.sizeOf63) rfl (hblk.two _ _)) rfl ⟨rfl, (((Below.two w _ _).up hb2).setCell (by simp) _).setCell (by simp) _⟩
  have e1 : (k == 1) = false := by simp; omega
  have e2 : (k == 2) = false := by simp; omega
  have e3 : (k == 3) = false := by simp; omega
  have e4 : (k == 4) = false := by simp; omega
  have e5 : (k == 5) = false := by simp; omega
  have e7 : (k == 7) = false := by simp; omega
  have e8 : (k == 8) = false := by simp; omega
  have e9 : (k == 9) = false := by simp; omega
  have e10 : (k == 10) = false := by simp; omega
  have hm2 : markFor k n x s.size m = (0, 0) := by
    unfold markFor
    rw [if_neg (by omega), if_neg (by omega), if_neg (by omega), if_neg (by omega), if_neg (by omega)]
  have HM := Lib.hid hm2
  clear hm2 h h4 h10
  go_enter Tryz.func64, Tryz.ntmps64
  go_wp2_with fail
  exact bodyPost_ret (results_blk Tryz.results64 Tryz.isAgg63 (by exact Tryz.sizeOf63) rfl (hbl _ _ _)) rfl ⟨by rw [HM.out], Below.two _ _ _⟩
set_option maxHeartbeats 1600000 in
theorem s_MarkFor (k n x : Int) (s : ByteArray) (A : Option Addr) (m c : Nat) (w : World) (hx : x ≤ 9223372036854775807) (hm : m ≤ 9223372036854775807) :
    Calls Tryz.prog 57 #[.agg #[.int .i64 k, .int .i64 n, .int .i64 x, .string s, .slice A m c]] w fun e w' => e = .returned (.agg #[.int .i64 (markFor k n x s.size m).1, .int .i64 (markFor k n x s.size m).2]) ∧ Below w.heap.size w w' := by
  have hbl : ∀ (o : Obj) (a b : Value), Blk ((w.alloc o).alloc (.cells #[a, b] 63)) (w.heap.size + 1) 63 #[a, b] := fun o a b => by simpa using Blk.new (w.alloc o) 63 #[a, b]
  by_cases h : k = 1 ∨ k = 2 ∨ k = 3 ∨ k = 5 ∨ k = 7 ∨ k = 8 ∨ k = 9
  · rcases h with rfl | rfl | rfl | rfl | rfl | rfl | rfl
    all_goals
      go_enter Tryz.func57, Tryz.ntmps57
      go_wp2_with fail
      exact bodyPost_ret (results_blk Tryz.results57 Tryz.isAgg63 (by exact Tryz.sizeOf63) rfl (hbl _ _ _)) rfl ⟨rfl, Below.two _ _ _⟩
  by_cases h10 : k = 10
  · subst h10
    have ht := tdiv2 m
    have hm0 : (0 : Int) ≤ (m : Int) / 2 := by omega
    have hm1 : (m : Int) / 2 ≤ 9223372036854775807 := by omega
    go_enter Tryz.func57, Tryz.ntmps57
    go_wp2_with fail
    exact bodyPost_ret (results_blk Tryz.results57 Tryz.isAgg63 (by exact Tryz.sizeOf63) rfl (hbl _ _ _)) rfl ⟨rfl, Below.two _ _ _⟩
  by_cases h4 : k = 4
  · subst h4
    go_enter Tryz.func57, Tryz.ntmps57
    have hS : ∀ w2, Below (((w.alloc (.cells #[.int .i64 4, .int .i64 n, .int .i64 x, .string s, .slice A m c] 28)).alloc (.cells #[.int .i64 0, .int .i64 0] 63)).drew).heap.size (((w.alloc (.cells #[.int .i64 4, .int .i64 n, .int .i64 x, .string s, .slice A m c] 28)).alloc (.cells #[.int .i64 0, .int .i64 0] 63)).drew) w2 →
        Blk w2 (w.heap.size + 1) 63 #[.int .i64 0, .int .i64 0] ∧ w2.cell? ⟨w.heap.size + 1, 0, none⟩ = some (.int .i64 0) ∧ w2.cell? ⟨w.heap.size + 1, 1, none⟩ = some (.int .i64 0) ∧ w2.frozen? ⟨w.heap.size + 1, 0, none⟩ = false ∧ w2.frozen? ⟨w.heap.size + 1, 1, none⟩ = false ∧ w2.cell? ⟨w.heap.size, 0, none⟩ = some (.int .i64 4) := by
      intro w2 hb2
      have hblk : Blk w2 (w.heap.size + 1) 63 #[.int .i64 0, .int .i64 0] := Blk.below (w := ((w.alloc (.cells #[.int .i64 4, .int .i64 n, .int .i64 x, .string s, .slice A m c] 28)).alloc (.cells #[.int .i64 0, .int .i64 0] 63)).drew) (hbl _ _ _) hb2 (show w.heap.size + 1 < ((w.alloc _).alloc _).heap.size from by simp)
      have hbox : Blk w2 w.heap.size 28 #[.int .i64 4, .int .i64 n, .int .i64 x, .string s, .slice A m c] := Blk.below (w := ((w.alloc (.cells #[.int .i64 4, .int .i64 n, .int .i64 x, .string s, .slice A m c] 28)).alloc (.cells #[.int .i64 0, .int .i64 0] 63)).drew) ((Blk.new w _ _).alloc _) hb2 (show w.heap.size < ((w.alloc _).alloc _).heap.size from by simp <;> omega)
      exact ⟨hblk, hblk.cell 0, hblk.cell 1, hblk.frozen 0, hblk.frozen 1, hbox.cell 0⟩
    go_wp2_with fail
    go_region_law ((go_simp; go_at_call 42; refine (s_FltBits _ _ _ hx).mono ?_; rintro e w2 ⟨rfl, hb2⟩; obtain ⟨hk, hc0, hc1, hf0, hf1, hx0⟩ := hS w2 hb2))
    all_goals
      clear hS hbl
      go_wp2
      exact bodyPost_ret (results_blk Tryz.results57 Tryz.isAgg63 (by exact Tryz.sizeOf63) rfl (hk.two _ _)) rfl ⟨rfl, (((Below.two w _ _).drew.up hb2).setCell (by simp) _).setCell (by simp) _⟩
  have e1 : (k == 1) = false := by simp; omega
  have e2 : (k == 2) = false := by simp; omega
  have e3 : (k == 3) = false := by simp; omega
  have e4 : (k == 4) = false := by simp; omega
  have e5 : (k == 5) = false := by simp; omega
  have e7 : (k == 7) = false := by simp; omega
  have e8 : (k == 8) = false := by simp; omega
  have e9 : (k == 9) = false := by simp; omega
  have e10 : (k == 10) = false := by simp; omega
  have hm2 : markFor k n x s.size m = (0, 0) := by
    unfold markFor
    rw [if_neg (by omega), if_neg (by omega), if_neg (by omega), if_neg (by omega), if_neg (by omega)]
  have HM := Lib.hid hm2
  clear hm2 h h4 h10
  go_enter Tryz.func57, Tryz.ntmps57
  go_wp2_with fail
  exact bodyPost_ret (results_blk Tryz.results57 Tryz.isAgg63 (by exact Tryz.sizeOf63) rfl (hbl _ _ _)) rfl ⟨by rw [HM.out], Below.two _ _ _⟩
end Go.Proofs.YtmelnaidjgpclaaGreatDoor
