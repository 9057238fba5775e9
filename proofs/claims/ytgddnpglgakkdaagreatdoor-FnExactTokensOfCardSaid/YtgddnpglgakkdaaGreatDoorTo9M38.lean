/- ValOk (spec). Written by gen/owns.py. SameVal: both sides. -/
import Derived.Test.YtgddnpglgakkdaaGreatDoorTo9Own
import Derived.Test.YtgddnpglgakkdaaGreatDoorTo9Copy
set_option linter.unusedVariables false
set_option maxRecDepth 100000
set_option linter.unusedSimpArgs false
namespace Go.Proofs.YtgddnpglgakkdaaGreatDoor
open Go.RowKit

theorem valOk_eq (t : Tr) : valOk t = (ownT t && t.l.all valOk) := allT_eq ownT t
theorem s_l6Leaf (k n x : Int) (s : ByteArray) (A : Option Addr) (m c : Nat) (w : World) (hm : m ≤ 1048576) :
    Calls Tryz.prog 105 #[.agg #[.int .i64 k, .int .i64 n, .int .i64 x, .string s, .slice A m c]] w fun r w' => r = .returned (.bool (m == 0)) ∧ Below w.heap.size w w' := by
  go_enter Tryz.func105, Tryz.ntmps105
  go_wp2_with fail
  go_ret
  exact ⟨ret_bool (by rw [Bool.eq_iff_iff]; simp), Below.one _ _⟩
def VkSays (t : Tr) : Prop := Fit t → ∀ (e : El) (w : World), LsAt w t.l e → e.lt w.heap.size → TabUP w →
  Calls Tryz.prog 74 #[trV t e] w fun r w' => r = .returned (.bool (valOk t)) ∧ Below w.heap.size w w'
set_option maxHeartbeats 8000000 in
theorem s_ValOk (t : Tr) : VkSays t := by
  refine Tr.ind (P := VkSays) (fun t ih => ?_) t
  intro hF e w hl hel hT
  have hwf := (Tr.wf_iff t).1 hF.1
  have hlen := hF.len
  have hsz := hF.size
  have hv := valOk_eq t
  have hkid := fun u hu => @Fit.kid t u hF hu
  unfold ownT at hv
  obtain ⟨k, n, x, s, l⟩ := t
  obtain ⟨eA, en, ec, efp⟩ := e
  simp only at hwf hlen hsz hv hl ih hkid
  have hen : l.length = en := hl.len
  rw [hen] at hv hlen
  obtain ⟨hk, hn, hx, _, _⟩ := hwf
  obtain ⟨V, hV⟩ : ∃ V, valOk ⟨k, n, x, s, l⟩ = V := ⟨_, rfl⟩
  rw [hV] at hv ⊢
  have HV : Hid (V = (ownB k n x s en && (l.drop 0).all valOk)) := Lib.hid (by rw [List.drop_zero]; exact hv)
  have k1 := Below.one w (.cells #[.int .i64 k, .int .i64 n, .int .i64 x, .string s, .slice eA en ec] 33)
  have hB := Blk.new w 33 #[.int .i64 k, .int .i64 n, .int .i64 x, .string s, .slice eA en ec]
  clear hv hV hF
  go_enter Tryz.func74, Tryz.ntmps74
  go_wp2_with fail
  go_loopg [3] en (fun f z wr => ∃ j : Nat, j + f = en ∧ z = .int .i64 j ∧ Hid (V = (ownB k n x s en && (l.drop j).all valOk)) ∧ Blk wr w.heap.size 33 #[.int .i64 k, .int .i64 n, .int .i64 x, .string s, .slice eA en ec] ∧ Below w.heap.size w wr)
  case atStart => exact ⟨0, by omega, rfl, HV, hB, k1⟩
  case round =>
    obtain ⟨j, hjf, rfl, hH, hBr, hb⟩ := hrel
    clear HV hB k1
    have hz : w.heap.size < wr.heap.size := hBr.lt
    have p0 := hBr.cell 0
    have p1 := hBr.cell 1
    have p2 := hBr.cell 2
    have p3 := hBr.cell 3
    have p4 := hBr.cell 4
    by_cases hlt : j < en
    · obtain ⟨f, rfl⟩ : ∃ f, gk = f + 1 := ⟨gk - 1, by omega⟩
      obtain ⟨g, o, u, hj, hAe, hgm, ⟨c0, c1, c2, c3, c4⟩, hch, hsub⟩ := (hl.below hel hb).elem hlt
      have hAe : eA = some ⟨g, o, none⟩ := hAe
      subst hAe
      have hul : u.lt wr.heap.size := fun y hy => Nat.lt_of_lt_of_le (hel y (hsub y hy)) hb.size
      have hih := ih l[j] (List.getElem_mem hj) (hkid _ (List.getElem_mem hj)) u wr hch hul (hT.below hb)
      have hd : (l.drop j).all valOk = (valOk l[j] && (l.drop (j + 1)).all valOk) := by rw [List.drop_eq_getElem_cons hj]; rfl
      have hh := hH.out
      rw [hd] at hh
      have HH : Hid (V = (ownB k n x s en && (valOk l[j] && (l.drop (j + 1)).all valOk))) := Lib.hid hh
      clear ih hch hd hh hH hkid
      cases hq : valOk l[j] with
      | false =>
        rw [hq] at hih HH
        clear hq
        go_wp2_with (go_at_call 74; refine hih.mono ?_; rintro r w2 ⟨rfl, hb2⟩)
        go_ret
        exact ⟨ret_bool (by rw [HH.out]; simp), hb.up hb2⟩
      | true =>
        rw [hq] at hih HH
        clear hq
        have HH2 : Hid (V = (ownB k n x s en && (l.drop (j + 1)).all valOk)) := Lib.hid (by rw [HH.out]; simp)
        clear HH
        go_wp2_with (go_at_call 74; refine hih.mono ?_; rintro r w2 ⟨rfl, hb2⟩)
        go_roundg f
        case measure => omega
        case rel => exact ⟨j + 1, by omega, by go_num, HH2, hBr.below hb2 hz, hb.up hb2⟩
    · have hh := hH.out
      rw [List.drop_eq_nil_of_le (by omega)] at hh
      have hT2 := hT.below hb
      have hVV : V = ownB k n x s en := by rw [hh]; simp
      have HV := Lib.hid hVV
      clear hh hH ih hT hkid hVV hl hel hBr
      have hjn : ¬ ((j : Int) < (en : Int)) := by omega
      by_cases hr : k < 1 ∨ 11 < k
      · as_aux_lemma =>
        have q1 : (k == 1) = false := by simp; omega
        have q2 : (k == 2) = false := by simp; omega
        have q3 : (k == 3) = false := by simp; omega
        have q4 : (k == 4) = false := by simp; omega
        have q5 : (k == 5) = false := by simp; omega
        have q6 : (k == 6) = false := by simp; omega
        have q7 : (k == 7) = false := by simp; omega
        have q8 : (k == 8) = false := by simp; omega
        have q9 : (k == 9) = false := by simp; omega
        have q10 : (k == 10) = false := by simp; omega
        have q11 : (k == 11) = false := by simp; omega
        have e : ownB k n x s en = false := by
          unfold ownB
          rw [if_neg (by omega), if_neg (by omega), if_neg (by omega), if_neg (by omega), if_neg (by omega), if_neg (by omega), if_neg (by omega), if_neg (by omega), if_neg (by omega), if_neg (by omega), if_neg (by omega)]
        have HV2 := Lib.hid (HV.out.trans e)
        clear HV e hr
        go_wp2_with fail
        go_ret
        exact ⟨ret_bool HV2.out.symm, hb⟩
      have hc : k = 1 ∨ k = 2 ∨ k = 3 ∨ k = 4 ∨ k = 5 ∨ k = 6 ∨ k = 7 ∨ k = 8 ∨ k = 9 ∨ k = 10 ∨ k = 11 := by omega
      clear hr hk
      rcases hc with rfl | rfl | rfl | rfl | rfl | rfl | rfl | rfl | rfl | rfl | rfl
      · as_aux_lemma =>
        go_wp2_with (go_at_call 105; refine (s_l6Leaf _ _ _ _ _ _ _ _ hlen).mono ?_; rintro e w3 ⟨rfl, hb3⟩)
        all_goals (go_ret; refine ⟨ret_bool ?_, by first | exact hb | exact hb.up hb3 | exact hb.up hb2 | exact (hb.up hb2).up hb3⟩)
        all_goals first | (rw [HV.out]; simp [ownB, *]; done) | (rw [HV.out]; simp [ownB, *]; omega) | (rw [HV.out]; simp only [ownB]; rw [Bool.eq_iff_iff]; simp [*]; done) | (rw [HV.out]; simp only [ownB]; rw [Bool.eq_iff_iff]; simp [*]; omega)
      · as_aux_lemma =>
        go_wp2_with (first
          | (go_at_call 35; refine (s_l1In _ _ _ _).mono ?_; rintro e w1 ⟨rfl, rfl⟩)
          | (go_at_call 105; refine (s_l6Leaf _ _ _ _ _ _ _ _ hlen).mono ?_; rintro e w3 ⟨rfl, hb3⟩))
        all_goals (go_ret; refine ⟨ret_bool ?_, by first | exact hb | exact hb.up hb3 | exact hb.up hb2 | exact (hb.up hb2).up hb3⟩)
        all_goals first | (rw [HV.out]; simp [ownB, *]; done) | (rw [HV.out]; simp [ownB, *]; omega) | (rw [HV.out]; simp only [ownB]; rw [Bool.eq_iff_iff]; simp [*]; done) | (rw [HV.out]; simp only [ownB]; rw [Bool.eq_iff_iff]; simp [*]; omega)
      · as_aux_lemma =>
        go_wp2_with (first
          | (go_at_call 35; refine (s_l1In _ _ _ _).mono ?_; rintro e w1 ⟨rfl, rfl⟩)
          | (go_at_call 105; refine (s_l6Leaf _ _ _ _ _ _ _ _ hlen).mono ?_; rintro e w3 ⟨rfl, hb3⟩))
        all_goals (go_ret; refine ⟨ret_bool ?_, by first | exact hb | exact hb.up hb3 | exact hb.up hb2 | exact (hb.up hb2).up hb3⟩)
        all_goals first | (rw [HV.out]; simp [ownB, *]; done) | (rw [HV.out]; simp [ownB, *]; omega) | (rw [HV.out]; simp only [ownB]; rw [Bool.eq_iff_iff]; simp [*]; done) | (rw [HV.out]; simp only [ownB]; rw [Bool.eq_iff_iff]; simp [*]; omega)
      · as_aux_lemma =>
        go_wp2_with (first
          | (go_at_call 106; refine (s_FltOk n x _ hx.2).mono ?_; rintro e w2 ⟨rfl, hb2⟩; obtain ⟨hc2, hf2⟩ := bcell hb2)
          | (go_at_call 105; refine (s_l6Leaf _ _ _ _ _ _ _ _ hlen).mono ?_; rintro e w3 ⟨rfl, hb3⟩))
        all_goals (go_ret; refine ⟨ret_bool ?_, by first | exact hb | exact hb.up hb3 | exact hb.up hb2 | exact (hb.up hb2).up hb3⟩)
        all_goals first | (rw [HV.out]; simp [ownB, *]; done) | (rw [HV.out]; simp [ownB, *]; omega) | (rw [HV.out]; simp only [ownB]; rw [Bool.eq_iff_iff]; simp [*]; done) | (rw [HV.out]; simp only [ownB]; rw [Bool.eq_iff_iff]; simp [*]; omega)
      · as_aux_lemma =>
        go_wp2_with (first
          | (go_at_call 35; refine (s_l1In _ _ _ _).mono ?_; rintro e w1 ⟨rfl, rfl⟩)
          | (go_at_call 105; refine (s_l6Leaf _ _ _ _ _ _ _ _ hlen).mono ?_; rintro e w3 ⟨rfl, hb3⟩))
        all_goals (go_ret; refine ⟨ret_bool ?_, by first | exact hb | exact hb.up hb3 | exact hb.up hb2 | exact (hb.up hb2).up hb3⟩)
        all_goals first | (rw [HV.out]; simp [ownB, *]; done) | (rw [HV.out]; simp [ownB, *]; omega) | (rw [HV.out]; simp only [ownB]; rw [Bool.eq_iff_iff]; simp [*]; done) | (rw [HV.out]; simp only [ownB]; rw [Bool.eq_iff_iff]; simp [*]; omega)
      · as_aux_lemma =>
        go_wp2_with (first
          | (go_at_call 107; refine (s_DecOk n x _ hn hx).mono ?_; rintro e w2 ⟨rfl, hb2⟩; obtain ⟨hc2, hf2⟩ := bcell hb2)
          | (go_at_call 105; refine (s_l6Leaf _ _ _ _ _ _ _ _ hlen).mono ?_; rintro e w3 ⟨rfl, hb3⟩))
        all_goals (go_ret; refine ⟨ret_bool ?_, by first | exact hb | exact hb.up hb3 | exact hb.up hb2 | exact (hb.up hb2).up hb3⟩)
        all_goals first | (rw [HV.out]; simp [ownB, *]; done) | (rw [HV.out]; simp [ownB, *]; omega) | (rw [HV.out]; simp only [ownB]; rw [Bool.eq_iff_iff]; simp [*]; done) | (rw [HV.out]; simp only [ownB]; rw [Bool.eq_iff_iff]; simp [*]; omega)
      · as_aux_lemma =>
        go_wp2_with (first
          | (go_at_call 97; refine (s_TextOk s _ (by omega)).mono ?_; rintro e w2 ⟨rfl, hb2⟩; obtain ⟨hc2, hf2⟩ := bcell hb2)
          | (go_at_call 105; refine (s_l6Leaf _ _ _ _ _ _ _ _ hlen).mono ?_; rintro e w3 ⟨rfl, hb3⟩))
        all_goals (go_ret; refine ⟨ret_bool ?_, by first | exact hb | exact hb.up hb3 | exact hb.up hb2 | exact (hb.up hb2).up hb3⟩)
        all_goals first | (rw [HV.out]; simp [ownB, *]; done) | (rw [HV.out]; simp [ownB, *]; omega) | (rw [HV.out]; simp only [ownB]; rw [Bool.eq_iff_iff]; simp [*]; done) | (rw [HV.out]; simp only [ownB]; rw [Bool.eq_iff_iff]; simp [*]; omega)
      · as_aux_lemma =>
        go_wp2_with (go_at_call 105; refine (s_l6Leaf _ _ _ _ _ _ _ _ hlen).mono ?_; rintro e w3 ⟨rfl, hb3⟩)
        all_goals (go_ret; refine ⟨ret_bool ?_, by first | exact hb | exact hb.up hb3 | exact hb.up hb2 | exact (hb.up hb2).up hb3⟩)
        all_goals first | (rw [HV.out]; simp [ownB, *]; done) | (rw [HV.out]; simp [ownB, *]; omega) | (rw [HV.out]; simp only [ownB]; rw [Bool.eq_iff_iff]; simp [*]; done) | (rw [HV.out]; simp only [ownB]; rw [Bool.eq_iff_iff]; simp [*]; omega)
      · as_aux_lemma =>
        go_wp2_with fail
        all_goals (go_ret; refine ⟨ret_bool ?_, by first | exact hb | exact hb.up hb3 | exact hb.up hb2 | exact (hb.up hb2).up hb3⟩)
        all_goals first | (rw [HV.out]; simp [ownB, *]; done) | (rw [HV.out]; simp [ownB, *]; omega) | (rw [HV.out]; simp only [ownB]; rw [Bool.eq_iff_iff]; simp [*]; done) | (rw [HV.out]; simp only [ownB]; rw [Bool.eq_iff_iff]; simp [*]; omega)
      · as_aux_lemma =>
        go_wp2_with fail
        all_goals (go_ret; refine ⟨ret_bool ?_, by first | exact hb | exact hb.up hb3 | exact hb.up hb2 | exact (hb.up hb2).up hb3⟩)
        all_goals first | (rw [HV.out]; simp [ownB, *]; done) | (rw [HV.out]; simp [ownB, *]; omega) | (rw [HV.out]; simp only [ownB]; rw [Bool.eq_iff_iff]; simp [*]; done) | (rw [HV.out]; simp only [ownB]; rw [Bool.eq_iff_iff]; simp [*]; omega)
      · as_aux_lemma =>
        go_wp2_with (go_at_call 35; refine (s_l1In _ _ _ _).mono ?_; rintro e w1 ⟨rfl, rfl⟩)
        all_goals (go_ret; refine ⟨ret_bool ?_, by first | exact hb | exact hb.up hb3 | exact hb.up hb2 | exact (hb.up hb2).up hb3⟩)
        all_goals first | (rw [HV.out]; simp [ownB, *]; done) | (rw [HV.out]; simp [ownB, *]; omega) | (rw [HV.out]; simp only [ownB]; rw [Bool.eq_iff_iff]; simp [*]; done) | (rw [HV.out]; simp only [ownB]; rw [Bool.eq_iff_iff]; simp [*]; omega)
end Go.Proofs.YtgddnpglgakkdaaGreatDoor

namespace Go.Proofs.YtgddnpglgakkdaaGreatDoor
open Go.RowKit

/-- The same tree. -/
noncomputable def sameT (a b : Tr) : Bool := @decide (a = b) (Classical.propDecidable _)
noncomputable def sameL (a b : List Tr) : Bool := @decide (a = b) (Classical.propDecidable _)
theorem sameT_iff {a b : Tr} : sameT a b = true ↔ a = b := by unfold sameT; simp
theorem sameL_iff {a b : List Tr} : sameL a b = true ↔ a = b := by unfold sameL; simp
theorem sameT_eq (a b : Tr) : sameT a b = ((a.k == b.k) && ((a.n == b.n) && ((a.x == b.x) && (decide (a.s = b.s) && sameL a.l b.l)))) := by
  rw [Bool.eq_iff_iff, sameT_iff]
  simp only [Bool.and_eq_true, beq_iff_eq, decide_eq_true_eq, sameL_iff]
  obtain ⟨k, n, x, s, l⟩ := a
  obtain ⟨k2, n2, x2, s2, l2⟩ := b
  simp
theorem sameL_step {l m : List Tr} {j : Nat} (h1 : j < l.length) (h2 : j < m.length) : sameL (l.drop j) (m.drop j) = (sameT l[j] m[j] && sameL (l.drop (j + 1)) (m.drop (j + 1))) := by
  rw [List.drop_eq_getElem_cons h1, List.drop_eq_getElem_cons h2, Bool.eq_iff_iff]
  simp only [Bool.and_eq_true, sameL_iff, sameT_iff, List.cons.injEq]
theorem sameL_len {l m : List Tr} (h : l.length ≠ m.length) : sameL l m = false := by
  rw [Bool.eq_false_iff]
  intro h2
  exact h (congrArg List.length (sameL_iff.1 h2))
theorem sameL_end {l m : List Tr} {j : Nat} (h1 : l.length ≤ j) (h2 : m.length ≤ j) : sameL (l.drop j) (m.drop j) = true := by
  rw [List.drop_eq_nil_of_le h1, List.drop_eq_nil_of_le h2]; exact sameL_iff.2 rfl
theorem toList_inj {a b : ByteArray} (h : a.toList = b.toList) : a = b := by
  rw [ByteArray.toList_eq, ByteArray.toList_eq] at h
  cases a; cases b
  simp only [ByteArray.mk.injEq]
  exact Array.toList_inj.1 h
def SvSays (a : Tr) : Prop := ∀ (b : Tr) (ea eb : El) (w : World), LsAt w a.l ea → LsAt w b.l eb → ea.lt w.heap.size → eb.lt w.heap.size →
  Calls Tryz.prog 146 #[trV a ea, trV b eb] w fun r w' => r = .returned (.bool (sameT a b)) ∧ Below w.heap.size w w'
theorem enters_SameVal : EntersF 146 := enters_of Tryz.func146 (by kernel_rfl) rfl
set_option maxHeartbeats 2000000 in
theorem g_EqualFunc (l m : List Tr) (ih : ∀ u ∈ l, SvSays u) (e1 e2 : El) (w : World) (h1 : LsAt w l e1) (h2 : LsAt w m e2) (hl1 : e1.lt w.heap.size) (hl2 : e2.lt w.heap.size) :
    Calls Tryz.prog 162 #[.slice e1.A e1.n e1.c, .slice e2.A e2.n e2.c, .func (.func 146) #[] #[]] w fun r w' => r = .returned (.bool (sameL l m)) ∧ Below w.heap.size w w' := by
  obtain ⟨A1, n1, c1, fp1⟩ := e1
  obtain ⟨A2, n2, c2, fp2⟩ := e2
  have hn1 : l.length = n1 := h1.len
  have hn2 : m.length = n2 := h2.len
  have hc1 : n1 ≤ 9223372036854775807 := by have := ((lsAt_iff _ _).1 h1).2.1; have := ((lsAt_iff _ _).1 h1).2.2.1; unfold maxLen at *; simp at *; omega
  have hc2 : n2 ≤ 9223372036854775807 := by have := ((lsAt_iff _ _).1 h2).2.1; have := ((lsAt_iff _ _).1 h2).2.2.1; unfold maxLen at *; simp at *; omega
  by_cases hne : n1 = n2
  · subst hne
    have HV0 : Hid (sameL l m = sameL (l.drop 0) (m.drop 0)) := Lib.hid (by rw [List.drop_zero, List.drop_zero])
    go_enter Tryz.func162, Tryz.ntmps162
    go_wp2_with fail
    go_loopg [7, 8, 9, 17] n1 (fun f v7 v8 v9 i wr => ∃ j : Nat, j + f = n1 ∧ i = .int .i64 j ∧ Below w.heap.size w wr ∧ Hid (sameL l m = sameL (l.drop j) (m.drop j)))
    case atStart => exact ⟨0, by omega, rfl, Below.refl _ _, HV0⟩
    case round =>
      obtain ⟨j, hjf, rfl, hb, hH⟩ := hrel
      clear HV0
      by_cases hlt : j < n1
      · obtain ⟨f, rfl⟩ : ∃ f, gk = f + 1 := ⟨gk - 1, by omega⟩
        obtain ⟨g1, o1, u1, hj1, hA1, hg1, ⟨a0, a1, a2, a3, a4⟩, hch1, hsub1⟩ := (h1.below hl1 hb).elem hlt
        obtain ⟨g2, o2, u2, hj2, hA2, hg2, ⟨b0, b1, b2, b3, b4⟩, hch2, hsub2⟩ := (h2.below hl2 hb).elem hlt
        have hA1 : A1 = some ⟨g1, o1, none⟩ := hA1
        have hA2 : A2 = some ⟨g2, o2, none⟩ := hA2
        subst hA1 hA2
        have hU1 : u1.lt wr.heap.size := fun y hy => Nat.lt_of_lt_of_le (hl1 y (hsub1 y hy)) hb.size
        have hU2 : u2.lt wr.heap.size := fun y hy => Nat.lt_of_lt_of_le (hl2 y (hsub2 y hy)) hb.size
        have hG2 : g2 < wr.heap.size := Nat.lt_of_lt_of_le (hl2 g2 hg2) hb.size
        have hih := fun w2 (hb2 : Below wr.heap.size wr w2) => ih l[j] (List.getElem_mem hj1) m[j] u1 u2 w2 (hch1.below hU1 hb2) (hch2.below hU2 hb2) (hU1.mono hb2.size) (hU2.mono hb2.size)
        have hh := hH.out
        rw [sameL_step hj1 hj2] at hh
        have HH : Hid (sameL l m = (sameT l[j] m[j] && sameL (l.drop (j + 1)) (m.drop (j + 1)))) := Lib.hid hh
        clear ih hch1 hch2 hh hH h1 h2
        cases hq : sameT l[j] m[j] with
        | false =>
          rw [hq] at hih HH
          clear hq
          go_wp2_with (go_at_call 146; refine (hih _ (by exact Below.two wr _ _)).mono ?_; rintro r w2 ⟨rfl, hb2⟩)
          go_ret
          exact ⟨ret_bool (by rw [HH.out]; rfl), (hb.up (Below.two wr _ _)).up hb2⟩
        | true =>
          rw [hq] at hih HH
          clear hq
          have HH2 : Hid (sameL l m = sameL (l.drop (j + 1)) (m.drop (j + 1))) := Lib.hid (by rw [HH.out]; rfl)
          clear HH
          go_wp2_with (go_at_call 146; refine (hih _ (by exact Below.two wr _ _)).mono ?_; rintro r w2 ⟨rfl, hb2⟩)
          go_roundg f
          case measure => omega
          case rel => exact ⟨j + 1, by omega, by go_num, (hb.up (Below.two wr _ _)).up hb2, HH2⟩
      · have hh := hH.out
        rw [sameL_end (by omega) (by omega)] at hh
        have HH := Lib.hid hh
        clear hh hH
        go_wp2_with fail
        go_ret
        exact ⟨ret_bool HH.out.symm, hb⟩
  · have hq : (n1 == n2) = false := by simpa using hne
    have hs : sameL l m = false := sameL_len (by omega)
    rw [hs]
    have hq2 : ((n1 : Int) == (n2 : Int)) = false := by simp; omega
    have hq3 : ((n1 : Int) != (n2 : Int)) = true := by simp; omega
    go_enter Tryz.func162, Tryz.ntmps162
    go_wp2_with fail
    all_goals (go_ret; exact ⟨rfl, Below.refl _ _⟩)
set_option maxHeartbeats 2000000 in
theorem i_SameVal (a : Tr) : SvSays a := by
  refine Tr.ind (P := SvSays) (fun a ih => ?_) a
  intro b ea eb w ha hb hla hlb
  have k2 := Below.two w (.cells (valCells a ea) 33) (.cells (valCells b eb) 33)
  have hEF := g_EqualFunc a.l b.l ih ea eb _ (ha.below hla k2) (hb.below hlb k2) (hla.mono k2.size) (hlb.mono k2.size)
  have he := sameT_eq a b
  obtain ⟨R, hR⟩ : ∃ R, sameT a b = R := ⟨_, rfl⟩
  rw [hR] at he ⊢
  clear ih hR ha hb
  obtain ⟨k1, n1, x1, s1, l1⟩ := a
  obtain ⟨k2', n2, x2, s2, l2⟩ := b
  obtain ⟨A1, m1, c1, fp1⟩ := ea
  obtain ⟨A2, m2, c2, fp2⟩ := eb
  simp only at hEF he
  have HE := Lib.hid he
  clear he
  generalize sameL l1 l2 = S at hEF HE
  by_cases hk : k1 = k2'
  rotate_left
  · have q1 : (k1 == k2') = false := by simpa using hk
    have HE2 : Hid (R = false) := Lib.hid (by rw [HE.out]; simp [hk])
    clear HE hEF
    go_enter Tryz.func146, Tryz.ntmps146
    go_wp2_with fail
    all_goals (go_ret; exact ⟨ret_bool HE2.out.symm, k2⟩)
  subst hk
  by_cases hn : n1 = n2
  rotate_left
  · have q1 : (n1 == n2) = false := by simpa using hn
    have HE2 : Hid (R = false) := Lib.hid (by rw [HE.out]; simp [hn])
    clear HE hEF
    go_enter Tryz.func146, Tryz.ntmps146
    go_wp2_with fail
    all_goals (go_ret; exact ⟨ret_bool HE2.out.symm, k2⟩)
  subst hn
  by_cases hx : x1 = x2
  rotate_left
  · have q1 : (x1 == x2) = false := by simpa using hx
    have HE2 : Hid (R = false) := Lib.hid (by rw [HE.out]; simp [hx])
    clear HE hEF
    go_enter Tryz.func146, Tryz.ntmps146
    go_wp2_with fail
    all_goals (go_ret; exact ⟨ret_bool HE2.out.symm, k2⟩)
  subst hx
  by_cases hs : s1 = s2
  rotate_left
  · have q1 : (s1.toList == s2.toList) = false := by rw [beq_eq_false_iff_ne]; exact fun h => hs (toList_inj h)
    have q2 : ¬ s1.toList = s2.toList := fun h => hs (toList_inj h)
    have HE2 : Hid (R = false) := Lib.hid (by rw [HE.out]; simp [hs])
    clear HE hEF
    go_enter Tryz.func146, Tryz.ntmps146
    go_wp2_with fail
    all_goals (go_ret; exact ⟨ret_bool HE2.out.symm, k2⟩)
  subst hs
  have HE2 : Hid (R = S) := Lib.hid (by rw [HE.out]; simp)
  clear HE
  go_enter Tryz.func146, Tryz.ntmps146
  go_wp2_with (go_at_call 162; refine hEF.mono ?_; rintro r w1 ⟨rfl, hb1⟩)
  go_ret
  exact ⟨ret_bool HE2.out.symm, k2.up hb1⟩
end Go.Proofs.YtgddnpglgakkdaaGreatDoor
