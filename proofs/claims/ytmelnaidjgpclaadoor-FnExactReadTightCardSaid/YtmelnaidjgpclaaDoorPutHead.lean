/- PutHead: impl and spec. -/
import Derived.Test.YtmelnaidjgpclaaDoorBig
import Derived.Deep.RegionHeld3
set_option linter.unusedVariables false
set_option maxRecDepth 100000
set_option linter.unusedSimpArgs false
namespace Go.Proofs.YtmelnaidjgpclaaDoor
open Go.RowKit

def infoOf (n wd : Int) : Int := if wd = 0 then n else if wd = 1 then 24 else if wd = 2 then 25 else if wd = 4 then 26 else if wd = 8 then 27 else 31
def headB (mj n wd : Int) : List UInt8 := if headOk mj n wd = true then UInt8.ofNat ((32 * mj + infoOf n wd).toNat % 256) :: putBig n wd else []
theorem headOk_facts {mj n wd : Int} (h : headOk mj n wd = true) : 0 ≤ mj ∧ mj ≤ 7 ∧ 0 ≤ n ∧ n ≤ 1000000000000000 ∧ (wd = 0 ∨ wd = 1 ∨ wd = 2 ∨ wd = 4 ∨ wd = 8 ∨ wd = -1) ∧ (wd = 0 → n ≤ 23) := by
  have h := of_decide_eq_true (show decide (0 ≤ mj ∧ mj ≤ 7 ∧ 0 ≤ n ∧ n ≤ 1000000000000000 ∧ ((wd = 0 ∧ n ≤ 23) ∨ (wd = 1 ∧ n < 256) ∨ (wd = 2 ∧ n < 65536) ∨ (wd = 4 ∧ n < 4294967296) ∨ wd = 8 ∨ (wd = -1 ∧ n = 0 ∧ 2 ≤ mj ∧ mj ≠ 6))) = true from h)
  omega
theorem headB_no {mj n wd : Int} (h : headOk mj n wd = false) : headB mj n wd = [] := by unfold headB; rw [h]; rfl
theorem headB_yes {mj n wd : Int} (h : headOk mj n wd = true) : headB mj n wd = [UInt8.ofNat ((32 * mj + infoOf n wd).toNat % 256)] ++ putBig n wd := by unfold headB; rw [h]; rfl
theorem infoOf_bd {mj n wd : Int} (h : headOk mj n wd = true) : 0 ≤ infoOf n wd ∧ infoOf n wd ≤ 31 := by
  have h := headOk_facts h
  unfold infoOf; (repeat' split) <;> omega
theorem putBig_none {n wd : Int} (h : wd ≤ 0) : putBig n wd = [] := putBig_no (Or.inl (decide_eq_false (by omega)))
theorem putBig_len (n w : Int) : (putBig n w).length ≤ 8 := by
  unfold putBig; split
  · rename_i h
    rw [beI_len]
    have := h.1
    simp only [isW, Bool.or_eq_true, beq_iff_eq, decide_eq_true_eq] at this
    omega
  · simp
theorem headB_len (mj n wd : Int) : (headB mj n wd).length ≤ 9 := by
  unfold headB; split
  · have := putBig_len n wd; simp; omega
  · simp
theorem blk3 {w w1 : World} {T : TypeId} {cs : Array Value} {o : Obj} (h : Below (w.heap.size + 1) ((w.alloc (.cells cs T)).alloc o) w1) : Blk w1 w.heap.size T cs ∧ Below w.heap.size w w1 :=
  ⟨((Blk.new w _ _).alloc o).below h (Nat.lt_succ_self _), (Below.two w _ _).trans (h.mono (Nat.le_succ _))⟩
theorem Blk.cells3 {w : World} {g : Nat} {T : TypeId} {a b c : Value} (h : Blk w g T #[a, b, c]) : w.cell? ⟨g, 0, none⟩ = some a ∧ w.cell? ⟨g, 1, none⟩ = some b ∧ w.cell? ⟨g, 2, none⟩ = some c := ⟨h.cell 0, h.cell 1, h.cell 2⟩
theorem blk_app {w1 w2 : World} {T : TypeId} {cs : Array Value} {o : Obj} {g : Nat} {x : World} (h : Below (g + 1) (w1.alloc o) w2) (hb : Blk w1 g T cs) (hk : Below g x w1) : Blk w2 g T cs ∧ Below g x w2 :=
  ⟨(hb.alloc o).below h (Nat.lt_succ_self _), hk.trans (((Below.one w1 o).mono (Nat.le_of_lt hb.lt)).trans (h.mono (Nat.le_succ _)))⟩
end Go.Proofs.YtmelnaidjgpclaaDoor
