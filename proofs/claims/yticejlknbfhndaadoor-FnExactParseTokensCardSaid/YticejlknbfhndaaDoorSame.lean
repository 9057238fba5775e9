/- SameVal: both sides. -/
import Derived.Test.YticejlknbfhndaaDoorOwn
set_option linter.unusedVariables false
set_option maxRecDepth 100000
set_option linter.unusedSimpArgs false
namespace Go.Proofs.YticejlknbfhndaaDoor
open Go.RowKit

/-- The same tree. -/
noncomputable def sameT (a b : Tr) : Bool := @decide (a = b) (Classical.propDecidable _)
noncomputable def sameL (a b : List Tr) : Bool := @decide (a = b) (Classical.propDecidable _)
theorem sameT_iff {a b : Tr} : sameT a b = true ↔ a = b := by unfold sameT; simp
theorem sameL_iff {a b : List Tr} : sameL a b = true ↔ a = b := by unfold sameL; simp
theorem sameT_eq (a b : Tr) : sameT a b = ((a.k == b.k) && ((a.n == b.n) && ((a.x == b.x) && (decide (a.s = b.s) && sameL a.l b.l)))) := by
  rw [Bool.eq_iff_iff, sameT_iff]
  simp only [Bool.and_eq_true, beq_iff_eq, decide_eq_true_eq, sameL_iff]
  obtain ⟨k, n, x, s, l⟩ := a
  obtain ⟨k2, n2, x2, s2, l2⟩ := b
  simp
theorem sameL_step {l m : List Tr} {j : Nat} (h1 : j < l.length) (h2 : j < m.length) : sameL (l.drop j) (m.drop j) = (sameT l[j] m[j] && sameL (l.drop (j + 1)) (m.drop (j + 1))) := by
  rw [List.drop_eq_getElem_cons h1, List.drop_eq_getElem_cons h2, Bool.eq_iff_iff]
  simp only [Bool.and_eq_true, sameL_iff, sameT_iff, List.cons.injEq]
theorem sameL_len {l m : List Tr} (h : l.length ≠ m.length) : sameL l m = false := by
  rw [Bool.eq_false_iff]
  intro h2
  exact h (congrArg List.length (sameL_iff.1 h2))
theorem sameL_end {l m : List Tr} {j : Nat} (h1 : l.length ≤ j) (h2 : m.length ≤ j) : sameL (l.drop j) (m.drop j) = true := by
  rw [List.drop_eq_nil_of_le h1, List.drop_eq_nil_of_le h2]; exact sameL_iff.2 rfl
theorem toList_inj {a b : ByteArray} (h : a.toList = b.toList) : a = b := by
  rw [ByteArray.toList_eq, ByteArray.toList_eq] at h
  cases a; cases b
  simp only [ByteArray.mk.injEq]
  exact Array.toList_inj.1 h
def SvSays (a : Tr) : Prop := ∀ (b : Tr) (ea eb : El) (w : World), LsAt w a.l ea → LsAt w b.l eb → ea.lt w.heap.size → eb.lt w.heap.size →
  Calls Tryd.prog 96 #[trV a ea, trV b eb] w fun r w' => r = .returned (.bool (sameT a b)) ∧ Below w.heap.size w w'
theorem enters_SameVal : EntersF 96 := enters_of Tryd.func96 (by kernel_rfl) rfl
set_option maxHeartbeats 2000000 in
theorem g_EqualFunc (l m : List Tr) (ih : ∀ u ∈ l, SvSays u) (e1 e2 : El) (w : World) (h1 : LsAt w l e1) (h2 : LsAt w m e2) (hl1 : e1.lt w.heap.size) (hl2 : e2.lt w.heap.size) :
    Calls Tryd.prog 135 #[.slice e1.A e1.n e1.c, .slice e2.A e2.n e2.c, .func (.func 96) #[] #[]] w fun r w' => r = .returned (.bool (sameL l m)) ∧ Below w.heap.size w w' := by
  obtain ⟨A1, n1, c1, fp1⟩ := e1
  obtain ⟨A2, n2, c2, fp2⟩ := e2
  have hn1 : l.length = n1 := h1.len
  have hn2 : m.length = n2 := h2.len
  have hc1 : n1 ≤ 9223372036854775807 := by have := ((lsAt_iff _ _).1 h1).2.1; have := ((lsAt_iff _ _).1 h1).2.2.1; unfold maxLen at *; simp at *; omega
  have hc2 : n2 ≤ 9223372036854775807 := by have := ((lsAt_iff _ _).1 h2).2.1; have := ((lsAt_iff _ _).1 h2).2.2.1; unfold maxLen at *; simp at *; omega
  by_cases hne : n1 = n2
  · subst hne
    have HV0 : Hid (sameL l m = sameL (l.drop 0) (m.drop 0)) := Lib.hid (by rw [List.drop_zero, List.drop_zero])
    go_enter Tryd.func135, Tryd.ntmps135
    go_wp2_with fail
    go_loopg [7, 8, 9, 17] n1 (fun f v7 v8 v9 i wr => ∃ j : Nat, j + f = n1 ∧ i = .int .i64 j ∧ Below w.heap.size w wr ∧ Hid (sameL l m = sameL (l.drop j) (m.drop j)))
    case atStart => exact ⟨0, by omega, rfl, Below.refl _ _, HV0⟩
    case round =>
      obtain ⟨j, hjf, rfl, hb, hH⟩ := hrel
      clear HV0
      by_cases hlt : j < n1
      · obtain ⟨f, rfl⟩ : ∃ f, gk = f + 1 := ⟨gk - 1, by omega⟩
        obtain ⟨g1, o1, u1, hj1, hA1, hg1, ⟨a0, a1, a2, a3, a4⟩, hch1, hsub1⟩ := (h1.below hl1 hb).elem hlt
        obtain ⟨g2, o2, u2, hj2, hA2, hg2, ⟨b0, b1, b2, b3, b4⟩, hch2, hsub2⟩ := (h2.below hl2 hb).elem hlt
        have hA1 : A1 = some ⟨g1, o1, none⟩ := hA1
        have hA2 : A2 = some ⟨g2, o2, none⟩ := hA2
        subst hA1 hA2
        have hU1 : u1.lt wr.heap.size := fun y hy => Nat.lt_of_lt_of_le (hl1 y (hsub1 y hy)) hb.size
        have hU2 : u2.lt wr.heap.size := fun y hy => Nat.lt_of_lt_of_le (hl2 y (hsub2 y hy)) hb.size
        have hG2 : g2 < wr.heap.size := Nat.lt_of_lt_of_le (hl2 g2 hg2) hb.size
        have hih := fun w2 (hb2 : Below wr.heap.size wr w2) => ih l[j] (List.getElem_mem hj1) m[j] u1 u2 w2 (hch1.below hU1 hb2) (hch2.below hU2 hb2) (hU1.mono hb2.size) (hU2.mono hb2.size)
        have hh := hH.out
        rw [sameL_step hj1 hj2] at hh
        have HH : Hid (sameL l m = (sameT l[j] m[j] && sameL (l.drop (j + 1)) (m.drop (j + 1)))) := Lib.hid hh
        clear ih hch1 hch2 hh hH h1 h2
        cases hq : sameT l[j] m[j] with
        | false =>
          rw [hq] at hih HH
          clear hq
          go_wp2_with (go_at_call 96; refine (hih _ (by exact Below.two wr _ _)).mono ?_; rintro r w2 ⟨rfl, hb2⟩)
          go_ret
          exact ⟨ret_bool (by rw [HH.out]; rfl), (hb.up (Below.two wr _ _)).up hb2⟩
        | true =>
          rw [hq] at hih HH
          clear hq
          have HH2 : Hid (sameL l m = sameL (l.drop (j + 1)) (m.drop (j + 1))) := Lib.hid (by rw [HH.out]; rfl)
          clear HH
          go_wp2_with (go_at_call 96; refine (hih _ (by exact Below.two wr _ _)).mono ?_; rintro r w2 ⟨rfl, hb2⟩)
          go_roundg f
          case measure => omega
          case rel => exact ⟨j + 1, by omega, by go_num, (hb.up (Below.two wr _ _)).up hb2, HH2⟩
      · have hh := hH.out
        rw [sameL_end (by omega) (by omega)] at hh
        have HH := Lib.hid hh
        clear hh hH
        go_wp2_with fail
        go_ret
        exact ⟨ret_bool HH.out.symm, hb⟩
  · have hq : (n1 == n2) = false := by simpa using hne
    have hs : sameL l m = false := sameL_len (by omega)
    rw [hs]
    have hq2 : ((n1 : Int) == (n2 : Int)) = false := by simp; omega
    have hq3 : ((n1 : Int) != (n2 : Int)) = true := by simp; omega
    go_enter Tryd.func135, Tryd.ntmps135
    go_wp2_with fail
    all_goals (go_ret; exact ⟨rfl, Below.refl _ _⟩)
set_option maxHeartbeats 2000000 in
theorem i_SameVal (a : Tr) : SvSays a := by
  refine Tr.ind (P := SvSays) (fun a ih => ?_) a
  intro b ea eb w ha hb hla hlb
  have k2 := Below.two w (.cells (valCells a ea) 29) (.cells (valCells b eb) 29)
  have hEF := g_EqualFunc a.l b.l ih ea eb _ (ha.below hla k2) (hb.below hlb k2) (hla.mono k2.size) (hlb.mono k2.size)
  have he := sameT_eq a b
  obtain ⟨R, hR⟩ : ∃ R, sameT a b = R := ⟨_, rfl⟩
  rw [hR] at he ⊢
  clear ih hR ha hb
  obtain ⟨k1, n1, x1, s1, l1⟩ := a
  obtain ⟨k2', n2, x2, s2, l2⟩ := b
  obtain ⟨A1, m1, c1, fp1⟩ := ea
  obtain ⟨A2, m2, c2, fp2⟩ := eb
  simp only at hEF he
  have HE := Lib.hid he
  clear he
  generalize sameL l1 l2 = S at hEF HE
  by_cases hk : k1 = k2'
  rotate_left
  · have q1 : (k1 == k2') = false := by simpa using hk
    have HE2 : Hid (R = false) := Lib.hid (by rw [HE.out]; simp [hk])
    clear HE hEF
    go_enter Tryd.func96, Tryd.ntmps96
    go_wp2_with fail
    all_goals (go_ret; exact ⟨ret_bool HE2.out.symm, k2⟩)
  subst hk
  by_cases hn : n1 = n2
  rotate_left
  · have q1 : (n1 == n2) = false := by simpa using hn
    have HE2 : Hid (R = false) := Lib.hid (by rw [HE.out]; simp [hn])
    clear HE hEF
    go_enter Tryd.func96, Tryd.ntmps96
    go_wp2_with fail
    all_goals (go_ret; exact ⟨ret_bool HE2.out.symm, k2⟩)
  subst hn
  by_cases hx : x1 = x2
  rotate_left
  · have q1 : (x1 == x2) = false := by simpa using hx
    have HE2 : Hid (R = false) := Lib.hid (by rw [HE.out]; simp [hx])
    clear HE hEF
    go_enter Tryd.func96, Tryd.ntmps96
    go_wp2_with fail
    all_goals (go_ret; exact ⟨ret_bool HE2.out.symm, k2⟩)
  subst hx
  by_cases hs : s1 = s2
  rotate_left
  · have q1 : (s1.toList == s2.toList) = false := by rw [beq_eq_false_iff_ne]; exact fun h => hs (toList_inj h)
    have q2 : ¬ s1.toList = s2.toList := fun h => hs (toList_inj h)
    have HE2 : Hid (R = false) := Lib.hid (by rw [HE.out]; simp [hs])
    clear HE hEF
    go_enter Tryd.func96, Tryd.ntmps96
    go_wp2_with fail
    all_goals (go_ret; exact ⟨ret_bool HE2.out.symm, k2⟩)
  subst hs
  have HE2 : Hid (R = S) := Lib.hid (by rw [HE.out]; simp)
  clear HE
  go_enter Tryd.func96, Tryd.ntmps96
  go_wp2_with (go_at_call 135; refine hEF.mono ?_; rintro r w1 ⟨rfl, hb1⟩)
  go_ret
  exact ⟨ret_bool HE2.out.symm, k2.up hb1⟩
end Go.Proofs.YticejlknbfhndaaDoor
