/- Contracts of the small number functions. -/
import Derived.Test.YtnfeplbdipajaaaRows
import Derived.WalkKit
import Derived.WalkSpells
import Derived.Lib.Hide
import Derived.Deep.QuietTactic
import Derived.BigQuiet
set_option linter.unusedVariables false
set_option maxRecDepth 100000
set_option linter.unusedSimpArgs false
namespace Go.RowKit
theorem Below.up {w w1 w2 : World} (h : Below w.heap.size w w1) (k : Below w1.heap.size w1 w2) : Below w.heap.size w w2 := h.trans (k.mono h.size)
theorem Below.one (w : World) (o : Obj) : Below w.heap.size w (w.alloc o) := (Below.refl _ _).alloc (Nat.le_refl _) _
theorem Below.two (w : World) (o o2 : Obj) : Below w.heap.size w ((w.alloc o).alloc o2) := (Below.one w o).up (Below.one _ o2)
theorem Below.three (w : World) (o o2 o3 : Obj) : Below w.heap.size w (((w.alloc o).alloc o2).alloc o3) := (Below.two w o o2).up (Below.one _ o3)
theorem Below.boxed {w w1 : World} {o : Obj} (h : Below (w.alloc o).heap.size (w.alloc o) w1) : Below w.heap.size w w1 := (Below.one w o).up h
theorem Below.boxed_up {w w1 w2 : World} {o : Obj} (h : Below w.heap.size w w1) (k : Below (w1.alloc o).heap.size (w1.alloc o) w2) : Below w.heap.size w w2 := h.up k.boxed
end Go.RowKit
namespace Go.Proofs.Ytnfeplbdipajaaa
open Go.RowKit

theorem ret_int {k : IntKind} {a b : Int} (h : a = b) : Ending.returned (.int k a) = .returned (.int k b) := by rw [h]
theorem ret_bool {a b : Bool} (h : a = b) : Ending.returned (.bool a) = .returned (.bool b) := by rw [h]
theorem ret_str {a b : ByteArray} (h : a = b) : Ending.returned (.string a) = .returned (.string b) := by rw [h]

theorem bcell {W w1 : World} (hb : Below W.heap.size W w1) : (∀ b o, b < W.heap.size → w1.cell? ⟨b, o, none⟩ = W.cell? ⟨b, o, none⟩) ∧ (∀ b o, b < W.heap.size → w1.frozen? ⟨b, o, none⟩ = W.frozen? ⟨b, o, none⟩) :=
  ⟨fun b o h => hb.cell (p := ⟨b, o, none⟩) h, fun b o h => hb.frozen (p := ⟨b, o, none⟩) h⟩
/-- In a region that draws its order: a call that leaves the world alone. -/
theorem quiet_left {P : Program} {f : FuncId} {args : Array Value} {w : World} {n : Nat} {v : Value}
    (h : Calls P f args (w.drewN n) fun e w' => e = .returned v ∧ w.drewN n = w') : Calls P f args (w.drewN n) fun e w'' => e = .returned v ∧ ∃ m, w'' = w.drewN m :=
  h.mono fun _ _ ⟨he, hm⟩ => ⟨he, n, hm.symm⟩
theorem quiet_add_left {P : Program} {f : FuncId} {args : Array Value} {w : World} {a n : Nat} {v : Value}
    (h : Calls P f args (w.drewN (a + n)) fun e w' => e = .returned v ∧ w.drewN (a + n) = w') :
    Calls P f args (w.drewN (a + n)) fun e w'' => e = .returned v ∧ ∃ m, w'' = w.drewN (a + m) :=
  h.mono fun _ _ ⟨he, hm⟩ => ⟨he, n, hm.symm⟩
theorem below_drewN {B : Nat} {a w : World} (h : Below B a w) (n : Nat) : Below B a (w.drewN n) := ⟨h.os, h.tape, h.output, h.size, h.block⟩
/-- 'lo <= n <= hi'. -/
def inR (n lo hi : Int) : Bool := decide (lo ≤ n ∧ n ≤ hi)
theorem inR_yes {n lo hi : Int} (h1 : lo ≤ n) (h2 : n ≤ hi) : inR n lo hi = true := by simp [inR, h1, h2]
theorem inR_no {n lo hi : Int} (h : n < lo ∨ hi < n) : inR n lo hi = false := by simp [inR]; omega
theorem inR_iff {n lo hi : Int} : inR n lo hi = true ↔ lo ≤ n ∧ n ≤ hi := by simp [inR]
theorem inR_not {n lo hi : Int} : inR n lo hi = false ↔ n < lo ∨ hi < n := by simp [inR]; omega

theorem i_within (n lo hi : Int) (w : World) :
    Calls Try.prog 57 #[.int .i64 n, .int .i64 lo, .int .i64 hi] w fun e w' => e = .returned (.bool (inR n lo hi)) ∧ w = w' := by
  go_enter Try.func57, Try.ntmps57
  go_wp2
  all_goals (go_ret; exact ⟨ret_bool (by rw [Bool.eq_iff_iff]; simp [inR] <;> omega), rfl⟩)
theorem s_l1In (n lo hi : Int) (w : World) :
    Calls Try.prog 59 #[.int .i64 n, .int .i64 lo, .int .i64 hi] w fun e w' => e = .returned (.bool (inR n lo hi)) ∧ w = w' := by
  go_enter Try.func59, Try.ntmps59
  go_wp2
  all_goals (go_ret; exact ⟨ret_bool (by rw [Bool.eq_iff_iff]; simp [inR] <;> omega), rfl⟩)
def signed (n w : Int) : Int :=
  if 0 ≤ n ∧ n ≤ 1000000000000000 then
    if w = 1 then (if 128 ≤ n then n - 256 else n) else if w = 2 then (if 32768 ≤ n then n - 65536 else n) else if w = 4 then (if 2147483648 ≤ n then n - 4294967296 else n) else n
  else n
theorem signed_out {n w : Int} (h : ¬ (0 ≤ n ∧ n ≤ 1000000000000000)) : signed n w = n := if_neg h
theorem signed_else {n w : Int} (h1 : w ≠ 1) (h2 : w ≠ 2) (h4 : w ≠ 4) : signed n w = n := by
  unfold signed; rw [if_neg h1, if_neg h2, if_neg h4]; simp
set_option maxHeartbeats 1000000 in
theorem i_Signed (n v : Int) (w : World) :
    Calls Try.prog 45 #[.int .i64 n, .int .i64 v] w fun e w' => e = .returned (.int .i64 (signed n v)) ∧ w = w' := by
  by_cases hn : 0 ≤ n ∧ n ≤ 1000000000000000
  · have hb := inR_yes hn.1 hn.2
    obtain ⟨hn1, hn2⟩ := hn
    by_cases hv : v = 1 ∨ v = 2 ∨ v = 4
    · rcases hv with rfl | rfl | rfl
      all_goals
        go_enter Try.func45, Try.ntmps45
        go_wp2_with (go_at_call 57; refine (i_within _ _ _ _).mono ?_; rintro e w' ⟨rfl, rfl⟩)
        all_goals (go_ret; exact ⟨ret_int (by unfold signed; rw [if_pos ⟨hn1, hn2⟩]; simp; omega), rfl⟩)
    · have h1 : (v == 1) = false := by simp; omega
      have h2 : (v == 2) = false := by simp; omega
      have h4 : (v == 4) = false := by simp; omega
      have h1' : (v != 1) = true := by simp; omega
      have h2' : (v != 2) = true := by simp; omega
      have h4' : (v != 4) = true := by simp; omega
      go_enter Try.func45, Try.ntmps45
      go_wp2_with (go_at_call 57; refine (i_within _ _ _ _).mono ?_; rintro e w' ⟨rfl, rfl⟩)
      go_ret
      exact ⟨ret_int (signed_else (by omega) (by omega) (by omega)).symm, rfl⟩
  · have hb : inR n 0 1000000000000000 = false := inR_no (by omega)
    go_enter Try.func45, Try.ntmps45
    go_wp2_with (go_at_call 57; refine (i_within _ _ _ _).mono ?_; rintro e w' ⟨rfl, rfl⟩)
    go_ret
    exact ⟨ret_int (signed_out hn).symm, rfl⟩
set_option maxHeartbeats 1000000 in
theorem s_Signed (n v : Int) (w : World) :
    Calls Try.prog 46 #[.int .i64 n, .int .i64 v] w fun e w' => e = .returned (.int .i64 (signed n v)) ∧ w = w' := by
  by_cases hv : v = 1 ∨ v = 2 ∨ v = 4
  · by_cases hn : 0 ≤ n ∧ n ≤ 1000000000000000
    · have hb := inR_yes hn.1 hn.2
      obtain ⟨hn1, hn2⟩ := hn
      rcases hv with rfl | rfl | rfl
      all_goals
        go_enter Try.func46, Try.ntmps46
        go_wp2_with (go_at_call 59; refine (s_l1In _ _ _ _).mono ?_; rintro e w' ⟨rfl, rfl⟩)
        all_goals (go_ret; exact ⟨ret_int (by unfold signed; rw [if_pos ⟨hn1, hn2⟩]; simp; omega), rfl⟩)
    · have hb : inR n 0 1000000000000000 = false := inR_no (by omega)
      rcases hv with rfl | rfl | rfl
      all_goals
        go_enter Try.func46, Try.ntmps46
        go_wp2_with (go_at_call 59; refine (s_l1In _ _ _ _).mono ?_; rintro e w' ⟨rfl, rfl⟩)
        go_ret
        exact ⟨ret_int (signed_out hn).symm, rfl⟩
  · have h1 : (v == 1) = false := by simp; omega
    have h2 : (v == 2) = false := by simp; omega
    have h4 : (v == 4) = false := by simp; omega
    have h1' : (v != 1) = true := by simp; omega
    have h2' : (v != 2) = true := by simp; omega
    have h4' : (v != 4) = true := by simp; omega
    go_enter Try.func46, Try.ntmps46
    go_wp2_with fail
    go_ret
    exact ⟨ret_int (signed_else (by omega) (by omega) (by omega)).symm, rfl⟩
end Go.Proofs.Ytnfeplbdipajaaa
