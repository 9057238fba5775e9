/- The laws' marks on trees: markVal, heldVal. -/
import Derived.Test.YtmnlkedacnemcaaGreatDoorTwM4
import Derived.Test.YtmnlkedacnemcaaGreatDoorTwVal
import Derived.Deep.RegionHeld3
set_option linter.unusedVariables false
set_option maxRecDepth 100000
set_option linter.unusedSimpArgs false
namespace Go.Proofs.YtmnlkedacnemcaaGreatDoor
open Go.RowKit

def cntGo : List (Nat × (Nat → List Tr)) → Nat
  | [] => 0
  | (c, _) :: r => 4 + c + cntGo r
def mkGo : List (Nat × (Nat → List Tr)) → Nat → List Tr
  | [], _ => []
  | (c, f) :: r, k => ⟨k, k + 1, k + 2, mkT (k + 3), f (k + 4)⟩ :: mkGo r (k + 4 + c)
noncomputable def Tr.mk_ : Tr → Nat × (Nat → List Tr) := Tr.fold fun _ _ _ _ _ ih => (cntGo ih, mkGo ih)
/-- How many marks a list of trees takes. -/
noncomputable def cntL (l : List Tr) : Nat := cntGo (l.map Tr.mk_)
/-- The list that the marks from k on leave. -/
noncomputable def mkL (l : List Tr) (k : Nat) : List Tr := mkGo (l.map Tr.mk_) k
theorem Tr.mk_eq (t : Tr) : t.mk_ = (cntL t.l, mkL t.l) := by
  obtain ⟨k, n, x, s, l⟩ := t
  exact Tr.fold_mk _ _ _ _ _ _
/-- The marks of the first j trees. -/
noncomputable def cntT (l : List Tr) (j : Nat) : Nat := cntL (l.take j)
theorem cntGo_app (a b : List (Nat × (Nat → List Tr))) : cntGo (a ++ b) = cntGo a + cntGo b := by
  induction a with
  | nil => simp [cntGo]
  | cons x a ih => obtain ⟨c, f⟩ := x; simp only [List.cons_append, cntGo, ih]; omega
theorem cntT_zero (l : List Tr) : cntT l 0 = 0 := rfl
theorem cntT_succ {l : List Tr} {j : Nat} (h : j < l.length) : cntT l (j + 1) = cntT l j + 4 + cntL l[j].l := by
  unfold cntT
  rw [List.take_succ_eq_append_getElem h]
  unfold cntL
  rw [List.map_append, cntGo_app, List.map_singleton, Tr.mk_eq]
  simp only [cntGo, cntL]
  omega
theorem cntT_all {l : List Tr} {j : Nat} (h : l.length ≤ j) : cntT l j = cntL l := by unfold cntT; rw [List.take_of_length_le h]
theorem cntT_le (l : List Tr) (j : Nat) : cntT l j ≤ cntL l := by
  unfold cntT
  conv => rhs; rw [← List.take_append_drop j l]
  unfold cntL
  rw [List.map_append, cntGo_app]; omega
theorem mkL_len (l : List Tr) (k : Nat) : (mkL l k).length = l.length := by
  unfold mkL
  induction l generalizing k with
  | nil => rfl
  | cons t l ih => rw [List.map_cons, Tr.mk_eq]; simp only [mkGo, List.length_cons, ih]
theorem mkL_get {l : List Tr} {j : Nat} (k : Nat) (h : j < l.length) : (mkL l k)[j]'(by rw [mkL_len]; exact h) = ⟨(k + cntT l j : Nat), (k + cntT l j : Nat) + 1, (k + cntT l j : Nat) + 2, mkT (k + cntT l j + 3), mkL l[j].l (k + cntT l j + 4)⟩ := by
  induction l generalizing k j with
  | nil => cases h
  | cons t l ih =>
    cases j with
    | zero => simp [mkL, Tr.mk_eq, mkGo, cntT_zero]
    | succ j =>
      have h2 : j < l.length := by simpa using h
      have e : (mkL (t :: l) k)[j + 1]'(by rw [mkL_len]; exact h) = (mkL l (k + 4 + cntL t.l))[j]'(by rw [mkL_len]; exact h2) := by
        simp [mkL, Tr.mk_eq, mkGo]
      have e2 : cntT (t :: l) (j + 1) = 4 + cntL t.l + cntT l j := by
        unfold cntT
        rw [List.take_succ_cons]
        simp only [cntL, List.map_cons, cntGo]
        rw [Tr.mk_eq]
        simp only [cntL]
      rw [e, ih _ h2, e2]
      have e3 : k + (4 + cntL t.l + cntT l j) = k + 4 + cntL t.l + cntT l j := by omega
      rw [e3]
      simp
/-- The list when the first j trees bear marks. -/
noncomputable def mkP (l : List Tr) (k j : Nat) : List Tr := (mkL l k).take j ++ l.drop j
theorem mkP_zero (l : List Tr) (k : Nat) : mkP l k 0 = l := by simp [mkP]
theorem mkP_all {l : List Tr} {k j : Nat} (h : l.length ≤ j) : mkP l k j = mkL l k := by
  unfold mkP
  rw [List.take_of_length_le (by rw [mkL_len]; exact h), List.drop_eq_nil_of_le h, List.append_nil]
theorem mkP_get {l : List Tr} {k j : Nat} (h : j < l.length) : (mkP l k j)[j]? = some l[j] := by
  unfold mkP
  rw [List.getElem?_append_right (by simp [mkL_len]; omega), List.length_take, mkL_len, Nat.min_eq_left (by omega), Nat.sub_self, List.getElem?_drop, Nat.add_zero]
  exact List.getElem?_eq_getElem h
theorem mkP_succ {l : List Tr} {k j : Nat} (h : j < l.length) : (mkP l k j).set j ⟨(k + cntT l j : Nat), (k + cntT l j : Nat) + 1, (k + cntT l j : Nat) + 2, mkT (k + cntT l j + 3), mkL l[j].l (k + cntT l j + 4)⟩ = mkP l k (j + 1) := by
  rw [← mkL_get k h]
  exact set_take_step l (mkL l k) j (mkL_len l k) h (by rw [mkL_len]; exact h)
theorem mkP_len (l : List Tr) (k j : Nat) : (mkP l k j).length = l.length := by
  unfold mkP; rw [List.length_append, List.length_take, mkL_len, List.length_drop]; omega
theorem Blk.size_of {w : World} {g i : Nat} {T : TypeId} {cs : Array Value} {x : Value} (h : Blk w g T cs) (hc : w.cell? ⟨g, i, none⟩ = some x) : i < cs.size := by
  rw [h.cell] at hc
  exact (Array.getElem?_eq_some_iff.1 hc).1
theorem cntGo_le (l : List Tr) (h : ∀ u ∈ l, cntL u.l ≤ 4 * u.sz) : cntL l ≤ 4 * szL l := by
  unfold szL cntL
  induction l with
  | nil => simp [cntGo]
  | cons t l ih =>
    have h1 := h t List.mem_cons_self
    have h2 := ih fun u hu => h u (List.mem_cons_of_mem _ hu)
    rw [List.map_cons, Tr.mk_eq]
    simp only [cntGo, List.length_cons, List.map_cons, List.sum_cons]
    omega
theorem cntT_sz (t : Tr) : cntL t.l ≤ 4 * t.sz := by
  refine Tr.ind (P := fun t => cntL t.l ≤ 4 * t.sz) (fun t ih => ?_) t
  rw [t.sz_eq]
  have := cntGo_le t.l ih
  omega
/-- The cells of a boxed tree. -/
abbrev BoxV (w' : World) (g : Nat) (t : Tr) (e : El) : Prop :=
  w'.cell? ⟨g, 0, none⟩ = some (.int .i64 t.k) ∧ w'.cell? ⟨g, 1, none⟩ = some (.int .i64 t.n) ∧ w'.cell? ⟨g, 2, none⟩ = some (.int .i64 t.x) ∧ w'.cell? ⟨g, 3, none⟩ = some (.string t.s) ∧ w'.cell? ⟨g, 4, none⟩ = some (.slice e.A e.n e.c)
abbrev valCells (t : Tr) (e : El) : Array Value := #[.int .i64 t.k, .int .i64 t.n, .int .i64 t.x, .string t.s, .slice e.A e.n e.c]
theorem Blk.boxV {w : World} {g : Nat} {T : TypeId} {t : Tr} {e : El} (h : Blk w g T (valCells t e)) : BoxV w g t e := ⟨h.cell 0, h.cell 1, h.cell 2, h.cell 3, h.cell 4⟩
abbrev Box1 (w0 : World) (p : Addr) (a : Value) (w' : World) : Prop := w'.cell? p = some a ∧ Below w0.heap.size w0 w'
end Go.Proofs.YtmnlkedacnemcaaGreatDoor
