/- Rows of trees: nothing else changes; what is new lies apart. The reference's Slice. -/
import Derived.Test.YtmelnaidjgpclaaGreatDoorRowVal
import Derived.Test.YtmelnaidjgpclaaGreatDoorGetMarkW
set_option linter.unusedVariables false
set_option maxRecDepth 100000
set_option linter.unusedSimpArgs false
namespace Go.Proofs.YtmelnaidjgpclaaGreatDoor
open Go.RowKit

theorem RV.frg {w w' : World} {lo n c g : Nat} {A : Option Addr} {l : List Tr} {es : List El} (h : RV w lo A n c l es) (hf : Fr [g] w w') (hg : g < lo) : RV w' lo A n c l es :=
  h.fr hf (fun x hx => by have := (row_lt h.row hx).1; simp; omega) (fun x hx => by have := (h.own.2 x hx).1; simp; omega)
theorem RV.newOwn {w w5 : World} {lo n c : Nat} {A : Option Addr} {l : List Tr} {es : List El} {fp : List Nat} (h : RV w lo A n c l es) (ho : Own w5 w.heap.size fp) : ∀ x ∈ fp, x ∉ blkOf A ∧ x ∉ elFp es :=
  fun x hx => ⟨fun h1 => by have := (row_lt h.row h1).2; have := (ho.2 x hx).1; omega, fun h1 => by have := h.own.lt h1; have := (ho.2 x hx).1; omega⟩
end Go.Proofs.YtmelnaidjgpclaaGreatDoor

namespace Go.Proofs.YtmelnaidjgpclaaGreatDoor
open Go.RowKit

set_option maxHeartbeats 1000000 in
theorem s_Slice_no (A : Option Addr) (n c : Nat) (b : List UInt8) (q m : Nat) (w : World) (B : Nat) (h : Sl w B 1 A n c (u8s b)) (hn : n ≤ 1048576) (hq : q ≤ n) (hm : m ≤ 1000000000000000) (hlt : n < q + m) :
    Calls Tryz.prog 54 #[.slice A n c, .int .i64 q, .int .i64 m] w fun r w' => r = .returned (.tuple #[.slice (some ⟨w.heap.size, 0, none⟩) 0 0, .bool false]) ∧ Below w.heap.size w w' := by
  have q0 : ¬ (q : Int) < 0 := by omega
  have q1 : ¬ (m : Int) < 0 := by omega
  have q2 : ¬ (n : Int) < (q : Int) := by omega
  have q3 : (n : Int) - (q : Int) < (m : Int) := by omega
  have hwr : IntKind.i64.wrap ((n : Int) - (q : Int)) = (n : Int) - (q : Int) := by rw [IntKind.wrap_i64]; omega
  go_enter Tryz.func54, Tryz.ntmps54
  go_wp2_with fail
  refine bodyPost_ret (results_tmp2 Tryz.results54 _ _ _) rfl ⟨rfl, Below.one _ _⟩
set_option maxHeartbeats 1000000 in
theorem s_Slice_yes (A : Option Addr) (n c : Nat) (b : List UInt8) (q m : Nat) (w : World) (B : Nat) (h : Sl w B 1 A n c (u8s b)) (hB : B ≤ w.heap.size) (hn : n ≤ 1048576) (hm0 : 0 < m) (hlt : q + m ≤ n) :
    Calls Tryz.prog 54 #[.slice A n c, .int .i64 q, .int .i64 m] w fun r w' => ∃ A' c', r = .returned (.tuple #[.slice A' m c', .bool true]) ∧ BS w' w.heap.size A' m c' (part b q m) ∧ Below w.heap.size w w' := by
  have hl := h.blen
  have hcap := h.cap
  have hmax := h.max
  obtain ⟨g, o, rfl, hg, _⟩ := h.at_ (by omega)
  have hs : Sl (w.alloc (.cells #[] 5)) B 1 (some ⟨g, o + q, none⟩) (q + m - q) (c - q) (u8s (part b q m)) := by rw [Nat.add_sub_cancel_left]; exact (h.sub_ q m (by omega) hm0).alloc hB _
  have q0 : ¬ (q : Int) < 0 := by omega
  have q1 : ¬ (m : Int) < 0 := by omega
  have q2 : ¬ (n : Int) < (q : Int) := by omega
  have q3 : ¬ (n : Int) - (q : Int) < (m : Int) := by omega
  have hwr : IntKind.i64.wrap ((n : Int) - (q : Int)) = (n : Int) - (q : Int) := by rw [IntKind.wrap_i64]; omega
  have hwr2 : IntKind.i64.wrap ((q : Int) + (m : Int)) = (q : Int) + (m : Int) := by rw [IntKind.wrap_i64]; omega
  go_enter Tryz.func54, Tryz.ntmps54
  go_wp2_with (at_builtin; refine app_u8 rfl _ _ rfl (BS.new' w w.heap.size (by simp)) rfl hs rfl (by omega) (by simp) ?_; intro A1 c1 w1 h1 hb1; rw [Nat.zero_add, List.nil_append] at h1)
  have hqm : q + m - q = m := by omega
  rw [hqm] at h1
  refine bodyPost_ret (results_tmp2 Tryz.results54 _ _ _) rfl ⟨A1, c1, by first | rfl | simp [hqm], h1, (Below.one _ _).trans hb1⟩
set_option maxHeartbeats 1000000 in
theorem s_Slice_zero (A : Option Addr) (n c : Nat) (b : List UInt8) (q : Nat) (w : World) (B : Nat) (h : Sl w B 1 A n c (u8s b)) (hB : B ≤ w.heap.size) (hn : n ≤ 1048576) (hlt : q ≤ n) :
    Calls Tryz.prog 54 #[.slice A n c, .int .i64 q, .int .i64 (0 : Nat)] w fun r w' => ∃ A' c', r = .returned (.tuple #[.slice A' 0 c', .bool true]) ∧ BS w' w.heap.size A' 0 c' [] ∧ Below w.heap.size w w' := by
  have hcap := h.cap
  have hmax := h.max
  have hs : ∀ A1 (w1 : World), Sl w1 0 1 A1 0 (c - q) (u8s []) := fun A1 w1 => ⟨rfl, Nat.zero_le _, by omega, fun h0 => absurd h0 (by decide)⟩
  have q0 : ¬ (q : Int) < 0 := by omega
  have q2 : ¬ (n : Int) < (q : Int) := by omega
  have q3 : ¬ (n : Int) - (q : Int) < 0 := by omega
  have hwr : IntKind.i64.wrap ((n : Int) - (q : Int)) = (n : Int) - (q : Int) := by rw [IntKind.wrap_i64]; omega
  go_enter Tryz.func54, Tryz.ntmps54
  go_wp2_with (at_builtin; refine app_u8 (B := 0) rfl _ _ rfl (BS.new' w w.heap.size (by simp)) rfl (hs _ _) rfl (by omega) (by simp) ?_; intro A1 c1 w1 h1 hb1; rw [List.nil_append] at h1)
  all_goals
    refine bodyPost_ret (results_tmp2 Tryz.results54 _ _ _) rfl ⟨A1, c1, rfl, h1, (Below.one _ _).trans hb1⟩
theorem s_Slice_ok (A : Option Addr) (n c : Nat) (b : List UInt8) (q m : Nat) (w : World) (B : Nat) (h : Sl w B 1 A n c (u8s b)) (hB : B ≤ w.heap.size) (hn : n ≤ 1048576) (hlt : q + m ≤ n) :
    Calls Tryz.prog 54 #[.slice A n c, .int .i64 q, .int .i64 m] w fun r w' => ∃ A' c', r = .returned (.tuple #[.slice A' m c', .bool true]) ∧ BS w' w.heap.size A' m c' (part b q m) ∧ Below w.heap.size w w' := by
  rcases Nat.eq_zero_or_pos m with rfl | hm
  · have e : part b q 0 = [] := by unfold part; simp
    rw [e]
    exact s_Slice_zero A n c b q w B h hB hn (by omega)
  · exact s_Slice_yes A n c b q m w B h hB hn hm hlt
end Go.Proofs.YtmelnaidjgpclaaGreatDoor
