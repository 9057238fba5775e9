/- The cursor over a code: what it draws lies in bounds. -/
import Derived.Test.YtihhedmehlemmaaDoorBs
import Derived.Deep.QuietTactic
import Derived.BigQuiet
set_option linter.unusedVariables false
set_option maxRecDepth 100000
set_option linter.unusedSimpArgs false
namespace Go.Proofs.YtihhedmehlemmaaDoor
open Go.RowKit

theorem and_255 (y : Int) : 0 ≤ bits .and .i64 y 255 ∧ bits .and .i64 y 255 ≤ 255 := by
  have h : bits .and .i64 y 255 = IntKind.i64.wrap ((BitVec.ofInt 64 y &&& BitVec.ofInt 64 255).toNat : Int) := rfl
  have h2 : (BitVec.ofInt 64 y &&& BitVec.ofInt 64 255).toNat ≤ 255 := by
    rw [BitVec.toNat_and]
    exact Nat.le_trans Nat.and_le_right (by decide)
  rw [h, IntKind.wrap_i64]
  omega
/-- A cursor in block g over the bytes b, which lie below B. -/
def Cur (w : World) (B g : Nat) (A : Option Addr) (n c : Nat) (b : List UInt8) : Prop :=
  B ≤ g ∧ n ≤ 1048576 ∧ Sl w B 1 A n c (u8s b) ∧ ∃ (i : Nat) (h : Int), i ≤ n ∧ Blk w g 81 #[.slice A n c, .int .i64 i, .int .i64 h]
section
variable {w w' : World} {B g n c : Nat} {A : Option Addr} {b : List UInt8}
theorem Cur.lt (h : Cur w B g A n c b) : g < w.heap.size := by
  obtain ⟨_, _, _, i, x, _, hb⟩ := h
  exact hb.lt
theorem Cur.below (h : Cur w B g A n c b) (hb : Below w.heap.size w w') : Cur w' B g A n c b := by
  have hl := h.lt
  obtain ⟨h1, h2, h3, i, x, h4, h5⟩ := h
  exact ⟨h1, h2, h3.below (hb.mono (by omega)), i, x, h4, h5.below hb hl⟩
end
set_option maxHeartbeats 1000000 in
theorem s_l1Byte (B g n c : Nat) (A : Option Addr) (b : List UInt8) (w : World) (h : Cur w B g A n c b) :
    Calls Tryd.prog 96 #[.pointer (some ⟨g, 0, none⟩)] w fun r w' => ∃ x : Int, r = .returned (.int .i64 x) ∧ (0 ≤ x ∧ x ≤ 255) ∧ Cur w' B g A n c b ∧ Fr [g] w w' := by
  obtain ⟨h1, h2, h3, i, y, h4, h5⟩ := h
  obtain ⟨c0, c1, c2⟩ : w.cell? ⟨g, 0, none⟩ = some (.slice A n c) ∧ w.cell? ⟨g, 1, none⟩ = some (.int .i64 i) ∧ w.cell? ⟨g, 2, none⟩ = some (.int .i64 y) := ⟨h5.cell 0, h5.cell 1, h5.cell 2⟩
  have f0 := h5.frozen 0
  have f1 := h5.frozen 1
  have f2 := h5.frozen 2
  have hlt := h5.lt
  have H1 : ∀ v : Int, Blk (w.setCell ⟨g, 2, none⟩ (.int .i64 v)) g 81 #[.slice A n c, .int .i64 i, .int .i64 v] := fun v => by simpa using h5.set_ 2 (.int .i64 v)
  have F1 : ∀ v : Int, Fr [g] w (w.setCell ⟨g, 2, none⟩ (.int .i64 v)) := fun v => (Fr.refl _ _).setCell (by simp) _
  have S1 : ∀ v : Int, Sl (w.setCell ⟨g, 2, none⟩ (.int .i64 v)) B 1 A n c (u8s b) := fun v => h3.setCell h1 _
  by_cases hi : i < n
  · obtain ⟨g2, o, rfl, hg2, hb, hc⟩ := h3.byte hi
    have hne : g2 ≠ g := by omega
    have hne2 : g ≠ g2 := by omega
    have H2 : ∀ v u : Int, Blk ((w.setCell ⟨g, 2, none⟩ (.int .i64 v)).setCell ⟨g, 1, none⟩ (.int .i64 u)) g 81 #[.slice (some ⟨g2, o, none⟩) n c, .int .i64 u, .int .i64 v] := fun v u => by simpa using (H1 v).set_ 1 (.int .i64 u)
    go_enter Tryd.func96, Tryd.ntmps96
    go_wp2_with fail
    go_quiet (fail)
    go_wp2_with fail
    go_quiet (fail)
    go_wp2_with fail
    go_quiet (fail)
    go_wp2_with fail
    go_ret
    exact ⟨_, rfl, and_255 _, ⟨h1, h2, ((S1 _).drewN _).setCell h1 _, i + 1, wrap64 (wrap64 (y * 6364136223846793005) + 1442695040888963407), by omega, by simpa using ((H1 _).drewN _).set_ 1 (.int .i64 ((i : Int) + 1))⟩, ((F1 _).drewN _).setCell (by simp) _⟩
  · go_enter Tryd.func96, Tryd.ntmps96
    go_wp2_with fail
    go_quiet (fail)
    go_wp2_with fail
    go_quiet (fail)
    go_wp2_with fail
    go_ret
    exact ⟨_, rfl, and_255 _, ⟨h1, h2, ((S1 _).drewN _).drewN _, i, wrap64 (wrap64 (y * 6364136223846793005) + 1442695040888963407), h4, ((H1 _).drewN _).drewN _⟩, ((F1 _).drewN _).drewN _⟩
/-- What is drawn below m. -/
def InBelow (x m : Int) : Prop := (m ≤ 0 → x = 0) ∧ (0 < m → 0 ≤ x ∧ x < m)
set_option maxHeartbeats 1000000 in
theorem s_l1Below (B g n c : Nat) (A : Option Addr) (b : List UInt8) (m : Int) (w : World) (h : Cur w B g A n c b) (hm : m ≤ 9223372036854775807) :
    Calls Tryd.prog 65 #[.pointer (some ⟨g, 0, none⟩), .int .i64 m] w fun r w' => ∃ x : Int, r = .returned (.int .i64 x) ∧ InBelow x m ∧ Cur w' B g A n c b ∧ Fr [g] w w' := by
  by_cases h0 : m ≤ 0
  · go_enter Tryd.func65, Tryd.ntmps65
    go_wp2_with fail
    go_ret
    exact ⟨0, rfl, ⟨fun _ => rfl, fun h => by omega⟩, h, Fr.refl _ _⟩
  · have hm0 : ¬ m = 0 := by omega
    have hmz : (m == 0) = false := by simp; omega
    by_cases h1 : m ≤ 256
    · go_enter Tryd.func65, Tryd.ntmps65
      go_wp2_with (go_at_call 96; refine (s_l1Byte B g n c A b _ h).mono ?_; rintro r w1 ⟨x, rfl, hx, hC, hf⟩)
      go_ret
      exact ⟨_, rfl, ⟨fun h => by omega, fun h => ⟨Int.emod_nonneg _ (by omega), Int.emod_lt_of_pos _ h⟩⟩, hC, hf⟩
    · go_enter Tryd.func65, Tryd.ntmps65
      go_wp2_with fail
      refine (s_l1Byte B g n c A b _ h).mono ?_; rintro r w1 ⟨x, rfl, hx, hC1, hf1⟩
      go_wp2_with fail
      refine (s_l1Byte B g n c A b _ hC1).mono ?_; rintro r w2 ⟨y, rfl, hy, hC2, hf2⟩
      go_wp2_with fail
      refine (s_l1Byte B g n c A b _ hC2).mono ?_; rintro r w3 ⟨z, rfl, hz, hC3, hf3⟩
      go_wp2_with fail
      go_ret
      exact ⟨_, rfl, ⟨fun h => by omega, fun h => ⟨Int.emod_nonneg _ (by omega), Int.emod_lt_of_pos _ h⟩⟩, hC3, (hf1.trans hf2).trans hf3⟩
theorem s_l1Once (B g n c : Nat) (A : Option Addr) (b : List UInt8) (m : Int) (w : World) (h : Cur w B g A n c b) (hm : m ≤ 9223372036854775807) :
    Calls Tryd.prog 51 #[.pointer (some ⟨g, 0, none⟩), .int .i64 m] w fun r w' => ∃ x : Bool, r = .returned (.bool x) ∧ Cur w' B g A n c b ∧ Fr [g] w w' := by
  go_enter Tryd.func51, Tryd.ntmps51
  go_wp2_with (go_at_call 65; refine (s_l1Below B g n c A b m _ h hm).mono ?_; rintro r w1 ⟨x, rfl, hx, hC, hf⟩)
  go_ret
  exact ⟨_, rfl, hC, hf⟩
/-- One of the numbers of a list; the list lies in memory of its own, below the world's end. -/
theorem s_l1Int (B g n c : Nat) (A : Option Addr) (b : List UInt8) (A2 : Option Addr) (m c2 : Nat) (l : List Int) (w : World) (h : Cur w B g A n c b) (hl : Sl w w.heap.size 1 A2 m c2 (i64s l)) (hg : ∀ x ∈ blkOf A2, x ≠ g) (hm : 0 < m) :
    Calls Tryd.prog 53 #[.pointer (some ⟨g, 0, none⟩), .slice A2 m c2] w fun r w' => ∃ x : Int, r = .returned (.int .i64 x) ∧ x ∈ l ∧ Cur w' B g A n c b ∧ Fr [g] w w' := by
  have hm9 : (m : Int) ≤ 9223372036854775807 := by have := hl.cap; have := hl.max; unfold maxLen at *; omega
  have hll : l.length = m := by have := hl.len; simp [i64s] at this; omega
  go_enter Tryd.func53, Tryd.ntmps53
  go_wp2_with (go_at_call 65; refine (s_l1Below B g n c A b m _ h hm9).mono ?_; rintro r w1 ⟨x, rfl, hx, hC, hf⟩; obtain ⟨hx0, hx1⟩ := hx.2 (by omega); obtain ⟨k, rfl⟩ := Int.eq_ofNat_of_zero_le hx0; obtain ⟨g2, o, rfl, hg2, hb2, hc⟩ := hl.int (k := k) (by omega); have hc1 := (World.cell?_of_block (w := w) (w' := w1) (a := ⟨g2, o + k, none⟩) (hf.block g2 hg2 (by simpa using hg g2 (by simp [blkOf])))).trans hc)
  go_ret
  exact ⟨_, rfl, List.getElem_mem _, hC, hf⟩
end Go.Proofs.YtihhedmehlemmaaDoor
