/- ValOk (spec). Written by gen/owns.py. SameVal: both sides. The names of a map: a row whose trees' lists are borrowed; names (impl). OnceEach, textNames, FitsText (impl). SameVal: the reference's. NamesOf, OnceEach (spec). -/
import Derived.Test.YtmelnaidjgpclaaGreatDoorOkM6
import Derived.Deep.RegionHeld3
set_option linter.unusedVariables false
set_option maxRecDepth 100000
set_option linter.unusedSimpArgs false
namespace Go.Proofs.YtmelnaidjgpclaaGreatDoor
open Go.RowKit

theorem valOk_eq (t : Tr) : valOk t = (ownT t && t.l.all valOk) := allT_eq ownT t
theorem s_l6Leaf (k n x : Int) (s : ByteArray) (A : Option Addr) (m c : Nat) (w : World) (hm : m ≤ 1048576) :
    Calls Tryz.prog 69 #[.agg #[.int .i64 k, .int .i64 n, .int .i64 x, .string s, .slice A m c]] w fun r w' => r = .returned (.bool (m == 0)) ∧ Below w.heap.size w w' := by
  go_enter Tryz.func69, Tryz.ntmps69
  go_wp2_with fail
  go_ret
  exact ⟨ret_bool (by rw [Bool.eq_iff_iff]; simp), Below.one _ _⟩
def VkSays (t : Tr) : Prop := Fit t → ∀ (e : El) (w : World), LsAt w t.l e → e.lt w.heap.size → TabUP w →
  Calls Tryz.prog 37 #[trV t e] w fun r w' => r = .returned (.bool (valOk t)) ∧ Below w.heap.size w w'
set_option maxHeartbeats 8000000 in
theorem s_ValOk (t : Tr) : VkSays t := by
  refine Tr.ind (P := VkSays) (fun t ih => ?_) t
  intro hF e w hl hel hT
  have hwf := (Tr.wf_iff t).1 hF.1
  have hlen := hF.len
  have hsz := hF.size
  have hv := valOk_eq t
  have hkid := fun u hu => @Fit.kid t u hF hu
  unfold ownT at hv
  obtain ⟨k, n, x, s, l⟩ := t
  obtain ⟨eA, en, ec, efp⟩ := e
  simp only at hwf hlen hsz hv hl ih hkid
  have hen : l.length = en := hl.len
  rw [hen] at hv hlen
  obtain ⟨hk, hn, hx, _, _⟩ := hwf
  obtain ⟨V, hV⟩ : ∃ V, valOk ⟨k, n, x, s, l⟩ = V := ⟨_, rfl⟩
  rw [hV] at hv ⊢
  have HV : Hid (V = (ownB k n x s en && (l.drop 0).all valOk)) := Lib.hid (by rw [List.drop_zero]; exact hv)
  have k1 := Below.one w (.cells #[.int .i64 k, .int .i64 n, .int .i64 x, .string s, .slice eA en ec] 28)
  have hB := Blk.new w 28 #[.int .i64 k, .int .i64 n, .int .i64 x, .string s, .slice eA en ec]
  clear hv hV hF
  go_enter Tryz.func37, Tryz.ntmps37
  go_wp2_with fail
  go_loopg [3] en (fun f z wr => ∃ j : Nat, j + f = en ∧ z = .int .i64 j ∧ Hid (V = (ownB k n x s en && (l.drop j).all valOk)) ∧ Blk wr w.heap.size 28 #[.int .i64 k, .int .i64 n, .int .i64 x, .string s, .slice eA en ec] ∧ Below w.heap.size w wr)
  case atStart => exact ⟨0, by omega, rfl, HV, hB, k1⟩
  case round =>
    obtain ⟨j, hjf, rfl, hH, hBr, hb⟩ := hrel
    clear HV hB k1
    have hz : w.heap.size < wr.heap.size := hBr.lt
    have p0 := hBr.cell 0
    have p1 := hBr.cell 1
    have p2 := hBr.cell 2
    have p3 := hBr.cell 3
    have p4 := hBr.cell 4
    by_cases hlt : j < en
    · obtain ⟨f, rfl⟩ : ∃ f, gk = f + 1 := ⟨gk - 1, by omega⟩
      obtain ⟨g, o, u, hj, hAe, hgm, ⟨c0, c1, c2, c3, c4⟩, hch, hsub⟩ := (hl.below hel hb).elem hlt
      have hAe : eA = some ⟨g, o, none⟩ := hAe
      subst hAe
      have hul : u.lt wr.heap.size := fun y hy => Nat.lt_of_lt_of_le (hel y (hsub y hy)) hb.size
      have hih := ih l[j] (List.getElem_mem hj) (hkid _ (List.getElem_mem hj)) u wr hch hul (hT.below hb)
      have hd : (l.drop j).all valOk = (valOk l[j] && (l.drop (j + 1)).all valOk) := by rw [List.drop_eq_getElem_cons hj]; rfl
      have hh := hH.out
      rw [hd] at hh
      have HH : Hid (V = (ownB k n x s en && (valOk l[j] && (l.drop (j + 1)).all valOk))) := Lib.hid hh
      clear ih hch hd hh hH hkid
      cases hq : valOk l[j] with
      | false =>
        rw [hq] at hih HH
        clear hq
        go_wp2_with (go_at_call 37; refine hih.mono ?_; rintro r w2 ⟨rfl, hb2⟩)
        go_ret
        exact ⟨ret_bool (by rw [HH.out]; simp), hb.up hb2⟩
      | true =>
        rw [hq] at hih HH
        clear hq
        have HH2 : Hid (V = (ownB k n x s en && (l.drop (j + 1)).all valOk)) := Lib.hid (by rw [HH.out]; simp)
        clear HH
        go_wp2_with (go_at_call 37; refine hih.mono ?_; rintro r w2 ⟨rfl, hb2⟩)
        go_roundg f
        case measure => omega
        case rel => exact ⟨j + 1, by omega, by go_num, HH2, hBr.below hb2 hz, hb.up hb2⟩
    · have hh := hH.out
      rw [List.drop_eq_nil_of_le (by omega)] at hh
      have hT2 := hT.below hb
      have hVV : V = ownB k n x s en := by rw [hh]; simp
      have HV := Lib.hid hVV
      clear hh hH ih hT hkid hVV hl hel hBr
      have hjn : ¬ ((j : Int) < (en : Int)) := by omega
      by_cases hr : k < 1 ∨ 11 < k
      · as_aux_lemma =>
        have q1 : (k == 1) = false := by simp; omega
        have q2 : (k == 2) = false := by simp; omega
        have q3 : (k == 3) = false := by simp; omega
        have q4 : (k == 4) = false := by simp; omega
        have q5 : (k == 5) = false := by simp; omega
        have q6 : (k == 6) = false := by simp; omega
        have q7 : (k == 7) = false := by simp; omega
        have q8 : (k == 8) = false := by simp; omega
        have q9 : (k == 9) = false := by simp; omega
        have q10 : (k == 10) = false := by simp; omega
        have q11 : (k == 11) = false := by simp; omega
        have e : ownB k n x s en = false := by
          unfold ownB
          rw [if_neg (by omega), if_neg (by omega), if_neg (by omega), if_neg (by omega), if_neg (by omega), if_neg (by omega), if_neg (by omega), if_neg (by omega), if_neg (by omega), if_neg (by omega), if_neg (by omega)]
        have HV2 := Lib.hid (HV.out.trans e)
        clear HV e hr
        go_wp2_with fail
        go_ret
        exact ⟨ret_bool HV2.out.symm, hb⟩
      have hc : k = 1 ∨ k = 2 ∨ k = 3 ∨ k = 4 ∨ k = 5 ∨ k = 6 ∨ k = 7 ∨ k = 8 ∨ k = 9 ∨ k = 10 ∨ k = 11 := by omega
      clear hr hk
      rcases hc with rfl | rfl | rfl | rfl | rfl | rfl | rfl | rfl | rfl | rfl | rfl
      · as_aux_lemma =>
        go_wp2_with (go_at_call 69; refine (s_l6Leaf _ _ _ _ _ _ _ _ hlen).mono ?_; rintro e w3 ⟨rfl, hb3⟩)
        all_goals (go_ret; refine ⟨ret_bool ?_, by first | exact hb | exact hb.up hb3 | exact hb.up hb2 | exact (hb.up hb2).up hb3⟩)
        all_goals first | (rw [HV.out]; simp [ownB, *]; done) | (rw [HV.out]; simp [ownB, *]; omega) | (rw [HV.out]; simp only [ownB]; rw [Bool.eq_iff_iff]; simp [*]; done) | (rw [HV.out]; simp only [ownB]; rw [Bool.eq_iff_iff]; simp [*]; omega)
      · as_aux_lemma =>
        go_wp2_with (first
          | (go_at_call 40; refine (s_l1In _ _ _ _).mono ?_; rintro e w1 ⟨rfl, rfl⟩)
          | (go_at_call 69; refine (s_l6Leaf _ _ _ _ _ _ _ _ hlen).mono ?_; rintro e w3 ⟨rfl, hb3⟩))
        all_goals (go_ret; refine ⟨ret_bool ?_, by first | exact hb | exact hb.up hb3 | exact hb.up hb2 | exact (hb.up hb2).up hb3⟩)
        all_goals first | (rw [HV.out]; simp [ownB, *]; done) | (rw [HV.out]; simp [ownB, *]; omega) | (rw [HV.out]; simp only [ownB]; rw [Bool.eq_iff_iff]; simp [*]; done) | (rw [HV.out]; simp only [ownB]; rw [Bool.eq_iff_iff]; simp [*]; omega)
      · as_aux_lemma =>
        go_wp2_with (first
          | (go_at_call 40; refine (s_l1In _ _ _ _).mono ?_; rintro e w1 ⟨rfl, rfl⟩)
          | (go_at_call 69; refine (s_l6Leaf _ _ _ _ _ _ _ _ hlen).mono ?_; rintro e w3 ⟨rfl, hb3⟩))
        all_goals (go_ret; refine ⟨ret_bool ?_, by first | exact hb | exact hb.up hb3 | exact hb.up hb2 | exact (hb.up hb2).up hb3⟩)
        all_goals first | (rw [HV.out]; simp [ownB, *]; done) | (rw [HV.out]; simp [ownB, *]; omega) | (rw [HV.out]; simp only [ownB]; rw [Bool.eq_iff_iff]; simp [*]; done) | (rw [HV.out]; simp only [ownB]; rw [Bool.eq_iff_iff]; simp [*]; omega)
      · as_aux_lemma =>
        go_wp2_with (first
          | (go_at_call 70; refine (s_FltOk n x _ hx.2).mono ?_; rintro e w2 ⟨rfl, hb2⟩; obtain ⟨hc2, hf2⟩ := bcell hb2)
          | (go_at_call 69; refine (s_l6Leaf _ _ _ _ _ _ _ _ hlen).mono ?_; rintro e w3 ⟨rfl, hb3⟩))
        all_goals (go_ret; refine ⟨ret_bool ?_, by first | exact hb | exact hb.up hb3 | exact hb.up hb2 | exact (hb.up hb2).up hb3⟩)
        all_goals first | (rw [HV.out]; simp [ownB, *]; done) | (rw [HV.out]; simp [ownB, *]; omega) | (rw [HV.out]; simp only [ownB]; rw [Bool.eq_iff_iff]; simp [*]; done) | (rw [HV.out]; simp only [ownB]; rw [Bool.eq_iff_iff]; simp [*]; omega)
      · as_aux_lemma =>
        go_wp2_with (first
          | (go_at_call 40; refine (s_l1In _ _ _ _).mono ?_; rintro e w1 ⟨rfl, rfl⟩)
          | (go_at_call 69; refine (s_l6Leaf _ _ _ _ _ _ _ _ hlen).mono ?_; rintro e w3 ⟨rfl, hb3⟩))
        all_goals (go_ret; refine ⟨ret_bool ?_, by first | exact hb | exact hb.up hb3 | exact hb.up hb2 | exact (hb.up hb2).up hb3⟩)
        all_goals first | (rw [HV.out]; simp [ownB, *]; done) | (rw [HV.out]; simp [ownB, *]; omega) | (rw [HV.out]; simp only [ownB]; rw [Bool.eq_iff_iff]; simp [*]; done) | (rw [HV.out]; simp only [ownB]; rw [Bool.eq_iff_iff]; simp [*]; omega)
      · as_aux_lemma =>
        go_wp2_with (first
          | (go_at_call 71; refine (s_DecOk n x _ hn hx).mono ?_; rintro e w2 ⟨rfl, hb2⟩; obtain ⟨hc2, hf2⟩ := bcell hb2)
          | (go_at_call 69; refine (s_l6Leaf _ _ _ _ _ _ _ _ hlen).mono ?_; rintro e w3 ⟨rfl, hb3⟩))
        all_goals (go_ret; refine ⟨ret_bool ?_, by first | exact hb | exact hb.up hb3 | exact hb.up hb2 | exact (hb.up hb2).up hb3⟩)
        all_goals first | (rw [HV.out]; simp [ownB, *]; done) | (rw [HV.out]; simp [ownB, *]; omega) | (rw [HV.out]; simp only [ownB]; rw [Bool.eq_iff_iff]; simp [*]; done) | (rw [HV.out]; simp only [ownB]; rw [Bool.eq_iff_iff]; simp [*]; omega)
      · as_aux_lemma =>
        go_wp2_with (first
          | (go_at_call 55; refine (s_TextOk s _ (by omega)).mono ?_; rintro e w2 ⟨rfl, hb2⟩; obtain ⟨hc2, hf2⟩ := bcell hb2)
          | (go_at_call 69; refine (s_l6Leaf _ _ _ _ _ _ _ _ hlen).mono ?_; rintro e w3 ⟨rfl, hb3⟩))
        all_goals (go_ret; refine ⟨ret_bool ?_, by first | exact hb | exact hb.up hb3 | exact hb.up hb2 | exact (hb.up hb2).up hb3⟩)
        all_goals first | (rw [HV.out]; simp [ownB, *]; done) | (rw [HV.out]; simp [ownB, *]; omega) | (rw [HV.out]; simp only [ownB]; rw [Bool.eq_iff_iff]; simp [*]; done) | (rw [HV.out]; simp only [ownB]; rw [Bool.eq_iff_iff]; simp [*]; omega)
      · as_aux_lemma =>
        go_wp2_with (go_at_call 69; refine (s_l6Leaf _ _ _ _ _ _ _ _ hlen).mono ?_; rintro e w3 ⟨rfl, hb3⟩)
        all_goals (go_ret; refine ⟨ret_bool ?_, by first | exact hb | exact hb.up hb3 | exact hb.up hb2 | exact (hb.up hb2).up hb3⟩)
        all_goals first | (rw [HV.out]; simp [ownB, *]; done) | (rw [HV.out]; simp [ownB, *]; omega) | (rw [HV.out]; simp only [ownB]; rw [Bool.eq_iff_iff]; simp [*]; done) | (rw [HV.out]; simp only [ownB]; rw [Bool.eq_iff_iff]; simp [*]; omega)
      · as_aux_lemma =>
        go_wp2_with fail
        all_goals (go_ret; refine ⟨ret_bool ?_, by first | exact hb | exact hb.up hb3 | exact hb.up hb2 | exact (hb.up hb2).up hb3⟩)
        all_goals first | (rw [HV.out]; simp [ownB, *]; done) | (rw [HV.out]; simp [ownB, *]; omega) | (rw [HV.out]; simp only [ownB]; rw [Bool.eq_iff_iff]; simp [*]; done) | (rw [HV.out]; simp only [ownB]; rw [Bool.eq_iff_iff]; simp [*]; omega)
      · as_aux_lemma =>
        go_wp2_with fail
        all_goals (go_ret; refine ⟨ret_bool ?_, by first | exact hb | exact hb.up hb3 | exact hb.up hb2 | exact (hb.up hb2).up hb3⟩)
        all_goals first | (rw [HV.out]; simp [ownB, *]; done) | (rw [HV.out]; simp [ownB, *]; omega) | (rw [HV.out]; simp only [ownB]; rw [Bool.eq_iff_iff]; simp [*]; done) | (rw [HV.out]; simp only [ownB]; rw [Bool.eq_iff_iff]; simp [*]; omega)
      · as_aux_lemma =>
        go_wp2_with (go_at_call 40; refine (s_l1In _ _ _ _).mono ?_; rintro e w1 ⟨rfl, rfl⟩)
        all_goals (go_ret; refine ⟨ret_bool ?_, by first | exact hb | exact hb.up hb3 | exact hb.up hb2 | exact (hb.up hb2).up hb3⟩)
        all_goals first | (rw [HV.out]; simp [ownB, *]; done) | (rw [HV.out]; simp [ownB, *]; omega) | (rw [HV.out]; simp only [ownB]; rw [Bool.eq_iff_iff]; simp [*]; done) | (rw [HV.out]; simp only [ownB]; rw [Bool.eq_iff_iff]; simp [*]; omega)
end Go.Proofs.YtmelnaidjgpclaaGreatDoor

namespace Go.Proofs.YtmelnaidjgpclaaGreatDoor
open Go.RowKit

/-- The same tree. -/
noncomputable def sameT (a b : Tr) : Bool := @decide (a = b) (Classical.propDecidable _)
noncomputable def sameL (a b : List Tr) : Bool := @decide (a = b) (Classical.propDecidable _)
theorem sameT_iff {a b : Tr} : sameT a b = true ↔ a = b := by unfold sameT; simp
theorem sameL_iff {a b : List Tr} : sameL a b = true ↔ a = b := by unfold sameL; simp
theorem sameT_eq (a b : Tr) : sameT a b = ((a.k == b.k) && ((a.n == b.n) && ((a.x == b.x) && (decide (a.s = b.s) && sameL a.l b.l)))) := by
  rw [Bool.eq_iff_iff, sameT_iff]
  simp only [Bool.and_eq_true, beq_iff_eq, decide_eq_true_eq, sameL_iff]
  obtain ⟨k, n, x, s, l⟩ := a
  obtain ⟨k2, n2, x2, s2, l2⟩ := b
  simp
theorem sameL_step {l m : List Tr} {j : Nat} (h1 : j < l.length) (h2 : j < m.length) : sameL (l.drop j) (m.drop j) = (sameT l[j] m[j] && sameL (l.drop (j + 1)) (m.drop (j + 1))) := by
  rw [List.drop_eq_getElem_cons h1, List.drop_eq_getElem_cons h2, Bool.eq_iff_iff]
  simp only [Bool.and_eq_true, sameL_iff, sameT_iff, List.cons.injEq]
theorem sameL_len {l m : List Tr} (h : l.length ≠ m.length) : sameL l m = false := by
  rw [Bool.eq_false_iff]
  intro h2
  exact h (congrArg List.length (sameL_iff.1 h2))
theorem sameL_end {l m : List Tr} {j : Nat} (h1 : l.length ≤ j) (h2 : m.length ≤ j) : sameL (l.drop j) (m.drop j) = true := by
  rw [List.drop_eq_nil_of_le h1, List.drop_eq_nil_of_le h2]; exact sameL_iff.2 rfl
theorem toList_inj {a b : ByteArray} (h : a.toList = b.toList) : a = b := by
  rw [ByteArray.toList_eq, ByteArray.toList_eq] at h
  cases a; cases b
  simp only [ByteArray.mk.injEq]
  exact Array.toList_inj.1 h
def SvSays (a : Tr) : Prop := ∀ (b : Tr) (ea eb : El) (w : World), LsAt w a.l ea → LsAt w b.l eb → ea.lt w.heap.size → eb.lt w.heap.size →
  Calls Tryz.prog 106 #[trV a ea, trV b eb] w fun r w' => r = .returned (.bool (sameT a b)) ∧ Below w.heap.size w w'
theorem enters_SameVal : EntersF 106 := enters_of Tryz.func106 (by kernel_rfl) rfl
set_option maxHeartbeats 2000000 in
theorem g_EqualFunc (l m : List Tr) (ih : ∀ u ∈ l, SvSays u) (e1 e2 : El) (w : World) (h1 : LsAt w l e1) (h2 : LsAt w m e2) (hl1 : e1.lt w.heap.size) (hl2 : e2.lt w.heap.size) :
    Calls Tryz.prog 132 #[.slice e1.A e1.n e1.c, .slice e2.A e2.n e2.c, .func (.func 106) #[] #[]] w fun r w' => r = .returned (.bool (sameL l m)) ∧ Below w.heap.size w w' := by
  obtain ⟨A1, n1, c1, fp1⟩ := e1
  obtain ⟨A2, n2, c2, fp2⟩ := e2
  have hn1 : l.length = n1 := h1.len
  have hn2 : m.length = n2 := h2.len
  have hc1 : n1 ≤ 9223372036854775807 := by have := ((lsAt_iff _ _).1 h1).2.1; have := ((lsAt_iff _ _).1 h1).2.2.1; unfold maxLen at *; simp at *; omega
  have hc2 : n2 ≤ 9223372036854775807 := by have := ((lsAt_iff _ _).1 h2).2.1; have := ((lsAt_iff _ _).1 h2).2.2.1; unfold maxLen at *; simp at *; omega
  by_cases hne : n1 = n2
  · subst hne
    have HV0 : Hid (sameL l m = sameL (l.drop 0) (m.drop 0)) := Lib.hid (by rw [List.drop_zero, List.drop_zero])
    go_enter Tryz.func132, Tryz.ntmps132
    go_wp2_with fail
    go_loopg [7, 8, 9, 17] n1 (fun f v7 v8 v9 i wr => ∃ j : Nat, j + f = n1 ∧ i = .int .i64 j ∧ Below w.heap.size w wr ∧ Hid (sameL l m = sameL (l.drop j) (m.drop j)))
    case atStart => exact ⟨0, by omega, rfl, Below.refl _ _, HV0⟩
    case round =>
      obtain ⟨j, hjf, rfl, hb, hH⟩ := hrel
      clear HV0
      by_cases hlt : j < n1
      · obtain ⟨f, rfl⟩ : ∃ f, gk = f + 1 := ⟨gk - 1, by omega⟩
        obtain ⟨g1, o1, u1, hj1, hA1, hg1, ⟨a0, a1, a2, a3, a4⟩, hch1, hsub1⟩ := (h1.below hl1 hb).elem hlt
        obtain ⟨g2, o2, u2, hj2, hA2, hg2, ⟨b0, b1, b2, b3, b4⟩, hch2, hsub2⟩ := (h2.below hl2 hb).elem hlt
        have hA1 : A1 = some ⟨g1, o1, none⟩ := hA1
        have hA2 : A2 = some ⟨g2, o2, none⟩ := hA2
        subst hA1 hA2
        have hU1 : u1.lt wr.heap.size := fun y hy => Nat.lt_of_lt_of_le (hl1 y (hsub1 y hy)) hb.size
        have hU2 : u2.lt wr.heap.size := fun y hy => Nat.lt_of_lt_of_le (hl2 y (hsub2 y hy)) hb.size
        have hG2 : g2 < wr.heap.size := Nat.lt_of_lt_of_le (hl2 g2 hg2) hb.size
        have hih := fun w2 (hb2 : Below wr.heap.size wr w2) => ih l[j] (List.getElem_mem hj1) m[j] u1 u2 w2 (hch1.below hU1 hb2) (hch2.below hU2 hb2) (hU1.mono hb2.size) (hU2.mono hb2.size)
        have hh := hH.out
        rw [sameL_step hj1 hj2] at hh
        have HH : Hid (sameL l m = (sameT l[j] m[j] && sameL (l.drop (j + 1)) (m.drop (j + 1)))) := Lib.hid hh
        clear ih hch1 hch2 hh hH h1 h2
        cases hq : sameT l[j] m[j] with
        | false =>
          rw [hq] at hih HH
          clear hq
          go_wp2_with (go_at_call 106; refine (hih _ (by exact Below.two wr _ _)).mono ?_; rintro r w2 ⟨rfl, hb2⟩)
          go_ret
          exact ⟨ret_bool (by rw [HH.out]; rfl), (hb.up (Below.two wr _ _)).up hb2⟩
        | true =>
          rw [hq] at hih HH
          clear hq
          have HH2 : Hid (sameL l m = sameL (l.drop (j + 1)) (m.drop (j + 1))) := Lib.hid (by rw [HH.out]; rfl)
          clear HH
          go_wp2_with (go_at_call 106; refine (hih _ (by exact Below.two wr _ _)).mono ?_; rintro r w2 ⟨rfl, hb2⟩)
          go_roundg f
          case measure => omega
          case rel => exact ⟨j + 1, by omega, by go_num, (hb.up (Below.two wr _ _)).up hb2, HH2⟩
      · have hh := hH.out
        rw [sameL_end (by omega) (by omega)] at hh
        have HH := Lib.hid hh
        clear hh hH
        go_wp2_with fail
        go_ret
        exact ⟨ret_bool HH.out.symm, hb⟩
  · have hq : (n1 == n2) = false := by simpa using hne
    have hs : sameL l m = false := sameL_len (by omega)
    rw [hs]
    have hq2 : ((n1 : Int) == (n2 : Int)) = false := by simp; omega
    have hq3 : ((n1 : Int) != (n2 : Int)) = true := by simp; omega
    go_enter Tryz.func132, Tryz.ntmps132
    go_wp2_with fail
    all_goals (go_ret; exact ⟨rfl, Below.refl _ _⟩)
set_option maxHeartbeats 2000000 in
theorem i_SameVal (a : Tr) : SvSays a := by
  refine Tr.ind (P := SvSays) (fun a ih => ?_) a
  intro b ea eb w ha hb hla hlb
  have k2 := Below.two w (.cells (valCells a ea) 28) (.cells (valCells b eb) 28)
  have hEF := g_EqualFunc a.l b.l ih ea eb _ (ha.below hla k2) (hb.below hlb k2) (hla.mono k2.size) (hlb.mono k2.size)
  have he := sameT_eq a b
  obtain ⟨R, hR⟩ : ∃ R, sameT a b = R := ⟨_, rfl⟩
  rw [hR] at he ⊢
  clear ih hR ha hb
  obtain ⟨k1, n1, x1, s1, l1⟩ := a
  obtain ⟨k2', n2, x2, s2, l2⟩ := b
  obtain ⟨A1, m1, c1, fp1⟩ := ea
  obtain ⟨A2, m2, c2, fp2⟩ := eb
  simp only at hEF he
  have HE := Lib.hid he
  clear he
  generalize sameL l1 l2 = S at hEF HE
  by_cases hk : k1 = k2'
  rotate_left
  · have q1 : (k1 == k2') = false := by simpa using hk
    have HE2 : Hid (R = false) := Lib.hid (by rw [HE.out]; simp [hk])
    clear HE hEF
    go_enter Tryz.func106, Tryz.ntmps106
    go_wp2_with fail
    all_goals (go_ret; exact ⟨ret_bool HE2.out.symm, k2⟩)
  subst hk
  by_cases hn : n1 = n2
  rotate_left
  · have q1 : (n1 == n2) = false := by simpa using hn
    have HE2 : Hid (R = false) := Lib.hid (by rw [HE.out]; simp [hn])
    clear HE hEF
    go_enter Tryz.func106, Tryz.ntmps106
    go_wp2_with fail
    all_goals (go_ret; exact ⟨ret_bool HE2.out.symm, k2⟩)
  subst hn
  by_cases hx : x1 = x2
  rotate_left
  · have q1 : (x1 == x2) = false := by simpa using hx
    have HE2 : Hid (R = false) := Lib.hid (by rw [HE.out]; simp [hx])
    clear HE hEF
    go_enter Tryz.func106, Tryz.ntmps106
    go_wp2_with fail
    all_goals (go_ret; exact ⟨ret_bool HE2.out.symm, k2⟩)
  subst hx
  by_cases hs : s1 = s2
  rotate_left
  · have q1 : (s1.toList == s2.toList) = false := by rw [beq_eq_false_iff_ne]; exact fun h => hs (toList_inj h)
    have q2 : ¬ s1.toList = s2.toList := fun h => hs (toList_inj h)
    have HE2 : Hid (R = false) := Lib.hid (by rw [HE.out]; simp [hs])
    clear HE hEF
    go_enter Tryz.func106, Tryz.ntmps106
    go_wp2_with fail
    all_goals (go_ret; exact ⟨ret_bool HE2.out.symm, k2⟩)
  subst hs
  have HE2 : Hid (R = S) := Lib.hid (by rw [HE.out]; simp)
  clear HE
  go_enter Tryz.func106, Tryz.ntmps106
  go_wp2_with (go_at_call 132; refine hEF.mono ?_; rintro r w1 ⟨rfl, hb1⟩)
  go_ret
  exact ⟨ret_bool HE2.out.symm, k2.up hb1⟩
end Go.Proofs.YtmelnaidjgpclaaGreatDoor

namespace Go.Proofs.YtmelnaidjgpclaaGreatDoor
open Go.RowKit

/-- A row of trees of the call's own; the trees' lists lie below lo. -/
structure NV (w : World) (lo : Nat) (A : Option Addr) (n c : Nat) (l : List Tr) (es : List El) : Prop where
  row : w.ownsRow lo 28 5 (.slice A n c) n (cellsOf l es)
  len : l.length = n
  eslen : es.length = n
  kids : ∀ (j : Nat) (t : Tr) (u : El), l[j]? = some t → es[j]? = some u → LsAt w t.l u
  low : ∀ g ∈ elFp es, g < lo
theorem NV.nil_ (w : World) (lo : Nat) : NV w lo none 0 0 [] [] := ⟨World.ownsRow_nil _ _ _ _, rfl, rfl, fun j t u h => by simp at h, fun g hg => by simp [elFp] at hg⟩
theorem NV.new (w : World) (g : Nat) (hg : w.heap.size = g) : NV (w.alloc (.cells #[] 28)) g (some ⟨g, 0, none⟩) 0 0 [] [] := by
  subst hg
  exact ⟨World.ownsRow_lit w #[] 0 (Nat.le_refl _) (by decide) rfl, rfl, rfl, fun j t u h => by simp at h, fun g hg => by simp [elFp] at hg⟩
theorem NV.below {w w' : World} {lo n c : Nat} {A : Option Addr} {l : List Tr} {es : List El} (h : NV w lo A n c l es) (hlo : lo ≤ w.heap.size) (hb : Below w.heap.size w w') : NV w' lo A n c l es :=
  ⟨row_heap h.row fun g hg => hb.block g (row_lt h.row hg).2, h.len, h.eslen, fun j t u a b => (h.kids j t u a b).below (fun g hg => Nat.lt_of_lt_of_le (h.low g (elFp_mem b hg)) hlo) hb, h.low⟩
theorem NV.cap {w : World} {lo n c : Nat} {A : Option Addr} {l : List Tr} {es : List El} (h : NV w lo A n c l es) : n ≤ c ∧ c ≤ maxLen := by
  rcases h.row.2 with ⟨e, e2⟩ | ⟨g, cap, cur, e, _, _, h3, h4, _⟩
  · simp only [Value.slice.injEq] at e; omega
  · simp only [Value.slice.injEq] at e; omega
/-- The row as a list. -/
theorem NV.list {w : World} {lo n c : Nat} {A : Option Addr} {l : List Tr} {es : List El} (h : NV w lo A n c l es) (hlo : lo ≤ w.heap.size) : ∃ fp, LsAt w l ⟨A, n, c, fp⟩ ∧ ∀ g ∈ fp, g < w.heap.size := by
  obtain ⟨hc, hm⟩ := h.cap
  rcases Nat.eq_zero_or_pos n with h0 | h0
  · subst h0
    obtain rfl := List.eq_nil_of_length_eq_zero h.len
    exact ⟨[], (lsAt_iff _ _).2 ⟨rfl, hc, hm, [], rfl, fun _ => rfl, fun h => absurd h (Nat.lt_irrefl 0), fun j t u h => by simp at h⟩, fun g hg => by cases hg⟩
  · rcases h.row.2 with ⟨e, _⟩ | ⟨g, cap, cur, e, hb, hh, _⟩
    · simp only [Value.slice.injEq] at e; omega
    · simp only [Value.slice.injEq] at e
      have hA : A = some ⟨g, 0, none⟩ := e.1
      have hg : g ∈ blkOf A := by rw [hA]; simp [blkOf]
      have hcl := h.row.cells (g := g) (by rw [hA]; rfl)
      have ea : ∀ k, (⟨g, 0, none⟩ : Addr).add k = ⟨g, 0 + k, none⟩ := fun k => by unfold Addr.add; split <;> simp_all
      have f := fun k v hv => by have := hcl k v hv; rw [ea] at this; exact this
      refine ⟨g :: elFp es, (lsAt_iff _ _).2 ⟨h.len, hc, hm, es, h.eslen, fun h => absurd h (Nat.ne_of_gt h0), fun _ => ⟨g, 0, hA, rfl, fun j t u a b => ?_⟩, fun j t u a b => (trAt_ls _ _).2 (h.kids j t u a b)⟩, fun x hx => ?_⟩
      · obtain ⟨a0, a1, a2, a3, a4⟩ := cellsOf_get l es j t u a b (by rw [h.len, h.eslen])
        exact ⟨f _ _ a0, f _ _ a1, f _ _ a2, f _ _ a3, f _ _ a4⟩
      · rcases List.mem_cons.1 hx with rfl | hx
        · exact (row_lt h.row hg).2
        · exact Nat.lt_of_lt_of_le (h.low x hx) hlo
/-- append(row, t), t's list borrowed. -/
theorem app_ref {ops : Array Oper} {rest : List Oper} {o : Oper} {a : Act} {Q : Exit → Act → World → Prop} {w : World} (hgd : o.guard = none) (s x : Operand)
    (ho : o.op = .call { callee := .builtin .append, args := #[s, x], argTypes := #[26, 26] })
    {lo : Nat} {A : Option Addr} {n c : Nat} {l : List Tr} {es : List El} {t : Tr} {u : El} (h : NV w lo A n c l es) (hs : a.eval s = .slice A n c)
    {gx : Nat} (hgx : w.heap.size = gx) (hx : a.eval x = .slice (some ⟨gx, 0, none⟩) 1 1) (hl : LsAt w t.l u) (hu : ∀ g ∈ u.fp, g < lo) (hn : n + 1 ≤ 1099511627776) (hbase : lo ≤ w.heap.size)
    (hK : ∀ A' c' w', NV w' lo A' (n + 1) c' (l ++ [t]) (es ++ [u]) → Below lo w w' → wpList Tryz.prog ops Q rest (a.put o.dst (.slice A' (n + 1) c')) w') :
    wpList Tryz.prog ops Q (o :: rest) a (w.alloc (.cells #[.int .i64 t.k, .int .i64 t.n, .int .i64 t.x, .string t.s, .slice u.A u.n u.c] 28)) := by
  subst hgx
  obtain ⟨i0, hi, hz0, hz1, hz2⟩ := info_parts info_val
  have hb1 := Below.one w (.cells #[.int .i64 t.k, .int .i64 t.n, .int .i64 t.x, .string t.s, .slice u.A u.n u.c] 28)
  have h1 := h.below hbase hb1
  have hsl := Sl.lit w 28 #[.int .i64 t.k, .int .i64 t.n, .int .i64 t.x, .string t.s, .slice u.A u.n u.c] 5 1 rfl (by decide) (w.heap.size + 1) (Nat.lt_succ_self _)
  refine wpList_append_sl _ hgd s x 26 ho lo 28 i0 (.agg #[.int .i64 0, .int .i64 0, .int .i64 0, .string ByteArray.empty, .slice none 0 0]) 5 64 Tryz.underlying26 hi hz0 hz1 hz2 rfl (by decide) (.slice A n c) n (cellsOf l es) hs h1.row _ _ 1 1 _ hx hsl (fun v hv => ?_) (by unfold maxLen; omega) (by omega) (by simp; omega) ?_
  · simp only [List.mem_cons, List.not_mem_nil, or_false] at hv
    rcases hv with rfl | rfl | rfl | rfl | rfl <;> rfl
  intro A' c' w' h2 h3 h4
  have hg := gr_of (n' := n + 1) (c' := c') h3 h4
  have hbel : Below lo w w' := (hb1.mono hbase).trans (hg.fr.below (fun g hg2 => (row_lt h1.row hg2).1) (Nat.le_trans hbase hb1.size))
  refine hK A' c' w' ⟨?_, by simp [h.len], by simp [h.eslen], fun j t2 u2 a b => ?_, ?_⟩ hbel
  · rw [cellsOf_snoc l es t u (by rw [h.len, h.eslen])]; exact h2
  · rcases Nat.lt_or_ge j n with hj | hj
    · rw [List.getElem?_append_left (by rw [h.len]; exact hj)] at a
      rw [List.getElem?_append_left (by rw [h.eslen]; exact hj)] at b
      exact (h.kids j t2 u2 a b).below (fun g hg2 => h.low g (elFp_mem b hg2)) hbel
    · have hj2 : j = n := by have := (List.getElem?_eq_some_iff.1 a).1; simp [h.len] at this; omega
      subst hj2
      rw [List.getElem?_append_right (by rw [h.len]; exact Nat.le_refl _), h.len, Nat.sub_self] at a
      rw [List.getElem?_append_right (by rw [h.eslen]; exact Nat.le_refl _), h.eslen, Nat.sub_self] at b
      simp only [List.getElem?_cons_zero, Option.some.injEq] at a b
      subst a b
      exact hl.below hu hbel
  · intro g hg2
    rw [elFp_snoc] at hg2
    rcases List.mem_append.1 hg2 with h6 | h6
    · exact h.low g h6
    · exact hu g h6
/-- The list's trees at even places. -/
def evens : List Tr → List Tr
  | [] => []
  | [a] => [a]
  | a :: _ :: r => a :: evens r
def namesT (t : Tr) : List Tr := if t.k = 10 then evens t.l else []
theorem evens_get : ∀ (l : List Tr) (j : Nat), (evens l)[j]? = l[2 * j]?
  | [], j => by simp [evens]
  | [a], 0 => rfl
  | [a], j + 1 => by simp [evens]
  | a :: b :: r, 0 => rfl
  | a :: b :: r, j + 1 => by
    have := evens_get r j
    simp only [evens, List.getElem?_cons_succ, this]
    rw [show 2 * (j + 1) = 2 * j + 1 + 1 by omega]
    simp
theorem evens_len (l : List Tr) : (evens l).length = (l.length + 1) / 2 := by
  rcases Nat.lt_trichotomy (evens l).length ((l.length + 1) / 2) with h | h | h
  · have h1 := evens_get l (evens l).length
    rw [List.getElem?_eq_none (Nat.le_refl _)] at h1
    have := List.getElem?_eq_none_iff.1 h1.symm
    omega
  · exact h
  · have h1 := evens_get l ((l.length + 1) / 2)
    rw [List.getElem?_eq_getElem h] at h1
    have := (List.getElem?_eq_some_iff.1 h1.symm).1
    omega
theorem evens_take {l : List Tr} {j : Nat} (h : 2 * j < l.length) : (evens l).take (j + 1) = (evens l).take j ++ [l[2 * j]] := by
  have hl := evens_len l
  have hj : j < (evens l).length := by omega
  rw [List.take_succ_eq_append_getElem hj]
  have := evens_get l j
  rw [List.getElem?_eq_getElem hj, List.getElem?_eq_getElem h] at this
  rw [Option.some.inj this]
theorem evens_mem {l : List Tr} {u : Tr} (h : u ∈ evens l) : u ∈ l := by
  obtain ⟨j, hj, rfl⟩ := List.mem_iff_getElem.1 h
  have h1 := evens_get l j
  rw [List.getElem?_eq_getElem hj] at h1
  exact List.mem_of_getElem? h1.symm
theorem names_kid {t u : Tr} (h : u ∈ namesT t) : u ∈ t.l := by
  unfold namesT at h
  split at h
  · exact evens_mem h
  · cases h
theorem names_len (t : Tr) : (namesT t).length ≤ t.l.length := by
  unfold namesT
  split
  · rw [evens_len]; omega
  · simp
def NamesAt (w w' : World) (l : List Tr) (r : Ending) : Prop := ∃ e : El, r = .returned (.slice e.A e.n e.c) ∧ LsAt w' l e ∧ e.lt w'.heap.size ∧ Below w.heap.size w w'
set_option maxHeartbeats 2000000 in
theorem i_names (t : Tr) (e : El) (w : World) (hF : Fit t) (hl : LsAt w t.l e) (hel : e.lt w.heap.size) :
    Calls Tryz.prog 48 #[trV t e] w fun r w' => NamesAt w w' (namesT t) r := by
  have hlen := hF.len
  obtain ⟨k, n, x, s, l⟩ := t
  obtain ⟨eA, en, ec, efp⟩ := e
  simp only at hl hlen
  have hen : l.length = en := hl.len
  rw [hen] at hlen
  have k1 := Below.one w (.cells #[.int .i64 k, .int .i64 n, .int .i64 x, .string s, .slice eA en ec] 28)
  have k2 := Below.two w (.cells #[.int .i64 k, .int .i64 n, .int .i64 x, .string s, .slice eA en ec] 28) (.cells #[] 28)
  have hB : Blk ((w.alloc (.cells #[.int .i64 k, .int .i64 n, .int .i64 x, .string s, .slice eA en ec] 28)).alloc (.cells #[] 28)) w.heap.size 28 #[.int .i64 k, .int .i64 n, .int .i64 x, .string s, .slice eA en ec] := (Blk.new w _ _).alloc _
  have hN : NV ((w.alloc (.cells #[.int .i64 k, .int .i64 n, .int .i64 x, .string s, .slice eA en ec] 28)).alloc (.cells #[] 28)) (w.heap.size + 1) (some ⟨w.heap.size + 1, 0, none⟩) 0 0 [] [] := NV.new _ _ (by simp)
  by_cases hk : k = 10
  rotate_left
  · have q1 : (k == 10) = false := by simpa using hk
    have hn : namesT ⟨k, n, x, s, l⟩ = [] := by unfold namesT; rw [if_neg hk]
    rw [hn]
    obtain ⟨fp, f1, f2⟩ := hN.list (by simp)
    go_enter Tryz.func48, Tryz.ntmps48
    go_wp2_with fail
    go_ret
    exact ⟨⟨_, _, _, fp⟩, rfl, f1, f2, k2⟩
  subst hk
  have hn : namesT ⟨10, n, x, s, l⟩ = evens l := rfl
  rw [hn]
  clear hn
  go_enter Tryz.func48, Tryz.ntmps48
  go_wp2_with fail
  go_loopg [3, 4] en (fun f v3 v4 wr => ∃ (j c' : Nat) (A' : Option Addr) (es : List El), v4 = .int .i64 (2 * j : Nat) ∧ 2 * j ≤ en + 1 ∧ en - 2 * j ≤ f ∧ v3 = .slice A' j c' ∧ NV wr (w.heap.size + 1) A' j c' ((evens l).take j) es ∧ Blk wr w.heap.size 28 #[.int .i64 10, .int .i64 n, .int .i64 x, .string s, .slice eA en ec] ∧ w.heap.size + 1 ≤ wr.heap.size ∧ Below w.heap.size w wr)
  case atStart => exact ⟨0, 0, _, [], rfl, by omega, by omega, rfl, by rw [List.take_zero]; exact hN, hB, by simp, k2⟩
  case round =>
    obtain ⟨j, c', A', es, rfl, hj2, hjf, rfl, hR, hBr, hz, hb⟩ := hrel
    clear hN hB k1 k2
    have p4 := hBr.cell 4
    by_cases hlt : 2 * j < en
    · obtain ⟨f, rfl⟩ : ∃ f, gk = f + 1 := ⟨gk - 1, by omega⟩
      obtain ⟨g, o, u, hj, hAe, hgm, ⟨c0, c1, c2, c3, c4⟩, hch, hsub⟩ := (hl.below hel hb).elem hlt
      have hAe : eA = some ⟨g, o, none⟩ := hAe
      subst hAe
      have hul : ∀ y ∈ u.fp, y < w.heap.size + 1 := fun y hy => Nat.lt_succ_of_lt (hel y (hsub y hy))
      have htk := evens_take (l := l) (j := j) (by omega)
      have HT := Lib.hid htk
      clear htk
      go_wp2_with (at_builtin; refine app_ref rfl _ _ rfl hR rfl rfl rfl hch hul (by omega) hz ?_; intro A6 c6 w6 h6 hb6)
      have hB6 := hBr.below hb6 (Nat.lt_succ_self _)
      have hb6b := hb.trans (hb6.mono (Nat.le_succ _))
      have hz6 : w.heap.size + 1 ≤ w6.heap.size := Nat.le_trans hz hb6.size
      clear hR hch hb hBr hb6 p4 c0 c1 c2 c3 c4
      go_roundg f
      case measure => omega
      case rel => exact ⟨j + 1, c6, A6, _, by go_num, by omega, by omega, rfl, by rw [HT.out]; exact h6, hB6, hz6, hb6b⟩
    · have hje : (evens l).take j = evens l := List.take_of_length_le (by rw [evens_len]; omega)
      rw [hje] at hR
      obtain ⟨fp, f1, f2⟩ := hR.list hz
      have hlt2 : ¬ (((2 * j : Nat) : Int) < (en : Int)) := by omega
      clear hje
      go_wp2_with fail
      go_ret
      exact ⟨⟨_, _, _, fp⟩, rfl, f1, f2, hb⟩
end Go.Proofs.YtmelnaidjgpclaaGreatDoor

namespace Go.Proofs.YtmelnaidjgpclaaGreatDoor
open Go.RowKit

/-- None of a list is among those ahead of it; pre: those ahead of the list. -/
noncomputable def onceF (pre : List Tr) : List Tr → Bool
  | [] => true
  | x :: r => !pre.any (fun o => sameT o x) && onceF (pre ++ [x]) r
noncomputable def onceL (l : List Tr) : Bool := onceF [] l
theorem onceF_step {l : List Tr} {j : Nat} (h : j < l.length) : onceF (l.take j) (l.drop j) = (!(l.take j).any (fun o => sameT o l[j]) && onceF (l.take (j + 1)) (l.drop (j + 1))) := by
  rw [List.drop_eq_getElem_cons h, List.take_succ_eq_append_getElem h]
  rfl
theorem onceF_end {l : List Tr} {j : Nat} (h : l.length ≤ j) : onceF (l.take j) (l.drop j) = true := by
  rw [List.drop_eq_nil_of_le h]; rfl
/-- A list's beginning. -/
theorem LsAt.take_ {w : World} {l : List Tr} {e : El} (h : LsAt w l e) {j : Nat} (hj : j ≤ e.n) : ∃ fp, LsAt w (l.take j) ⟨e.A, j, e.c, fp⟩ ∧ ∀ g ∈ fp, g ∈ e.fp := by
  obtain ⟨h1, h2, h3, es, h4, h5, h6, h7⟩ := (lsAt_iff l e).1 h
  have tk : ∀ {α : Type} (m : List α) (i : Nat) (v : α), (m.take j)[i]? = some v → m[i]? = some v := fun m i v hv => by
    rw [List.getElem?_take] at hv
    split at hv
    · exact hv
    · cases hv
  rcases Nat.eq_zero_or_pos j with h0 | h0
  · subst h0
    exact ⟨[], (lsAt_iff _ _).2 ⟨by simp, by show 0 ≤ e.c; omega, h3, [], rfl, fun _ => rfl, fun h => absurd h (Nat.lt_irrefl 0), fun j t u h => by simp at h⟩, fun g hg => by cases hg⟩
  · obtain ⟨g, o, hA, hf, hc⟩ := h6 (by omega)
    refine ⟨g :: elFp (es.take j), (lsAt_iff _ _).2 ⟨by rw [List.length_take]; show _ = j; omega, by show j ≤ e.c; omega, h3, es.take j, by rw [List.length_take]; show _ = j; omega, fun h => absurd h (Nat.ne_of_gt h0), fun _ => ⟨g, o, hA, rfl, fun i t u a b => hc i t u (tk _ _ _ a) (tk _ _ _ b)⟩, fun i t u a b => h7 i t u (tk _ _ _ a) (tk _ _ _ b)⟩, fun x hx => ?_⟩
    rw [hf]
    rcases List.mem_cons.1 hx with rfl | hx
    · exact List.mem_cons_self
    · refine List.mem_cons_of_mem _ ?_
      obtain ⟨y, hy, hxy⟩ := List.mem_flatten.1 hx
      obtain ⟨u, hu, rfl⟩ := List.mem_map.1 hy
      exact List.mem_flatten.2 ⟨u.fp, List.mem_map.2 ⟨u, List.mem_of_mem_take hu, rfl⟩, hxy⟩
theorem enters_once1 : EntersF 105 := enters_of Tryz.func105 (by kernel_rfl) rfl
theorem i_once1 (u x : Tr) (e ex : El) (w : World) (hl : LsAt w u.l e) (hel : e.lt w.heap.size) (hlx : LsAt w x.l ex) (hex : ex.lt w.heap.size) (g : Nat) (hg : BoxV w g x ex) (hgl : g < w.heap.size) :
    Calls Tryz.prog 105 #[trV u e, .pointer (some ⟨g, 0, none⟩)] w fun r w' => r = .returned (.bool (sameT u x)) ∧ Below w.heap.size w w' := by
  have kb := Below.one w (.cells (valCells u e) 28)
  have hc := i_SameVal u x e ex _ (hl.below hel kb) (hlx.below hex kb) (hel.mono kb.size) (hex.mono kb.size)
  have hb2 : BoxV (w.alloc (.cells #[.int .i64 u.k, .int .i64 u.n, .int .i64 u.x, .string u.s, .slice e.A e.n e.c] 28)) g x ex := by
    obtain ⟨a, b, c, d, f⟩ := hg
    exact ⟨(kb.cell (p := ⟨g, _, none⟩) hgl).trans a, (kb.cell (p := ⟨g, _, none⟩) hgl).trans b, (kb.cell (p := ⟨g, _, none⟩) hgl).trans c, (kb.cell (p := ⟨g, _, none⟩) hgl).trans d, (kb.cell (p := ⟨g, _, none⟩) hgl).trans f⟩
  obtain ⟨a, b, c, d, f⟩ := hb2
  clear hg
  generalize sameT u x = R at hc
  go_enter Tryz.func105, Tryz.ntmps105
  go_wp2_with (go_at_call 106; refine hc.mono ?_; rintro r w1 ⟨rfl, hb⟩)
  go_ret
  exact ⟨rfl, kb.up hb⟩
set_option maxHeartbeats 2000000 in
theorem i_OnceEach (t : Tr) (e : El) (w : World) (hF : Fit t) (hl : LsAt w t.l e) (hel : e.lt w.heap.size) :
    Calls Tryz.prog 62 #[trV t e] w fun r w' => r = .returned (.bool (onceL (namesT t))) ∧ Below w.heap.size w w' := by
  have k1 := Below.one w (.cells (valCells t e) 28)
  have hnm := i_names t e _ hF (hl.below hel k1) (hel.mono k1.size)
  have hnl := names_len t
  have hln := hF.len
  obtain ⟨m, hm⟩ : ∃ m, namesT t = m := ⟨_, rfl⟩
  rw [hm] at hnm hnl ⊢
  have HV0 : Hid (onceL m = onceF (m.take 0) (m.drop 0)) := Lib.hid rfl
  clear hm
  go_enter Tryz.func62, Tryz.ntmps62
  go_wp2_with (go_at_call 48; refine hnm.mono ?_; rintro r w1 ⟨⟨A, n, c, fp⟩, rfl, h1, h2, hb1⟩)
  have hmn : m.length = n := h1.len
  have kb1 := k1.up hb1
  clear hnm
  go_loopg [4, 5, 10] n (fun f v4 v5 v10 wr => ∃ j : Nat, j + f = n ∧ v10 = .int .i64 j ∧ Hid (onceL m = onceF (m.take j) (m.drop j)) ∧ Below w1.heap.size w1 wr)
  case atStart => exact ⟨0, by omega, rfl, HV0, Below.refl _ _⟩
  case round =>
    obtain ⟨j, hjf, rfl, hH, hbr⟩ := hrel
    clear HV0
    by_cases hlt : j < n
    · obtain ⟨f, rfl⟩ : ∃ f, gk = f + 1 := ⟨gk - 1, by omega⟩
      obtain ⟨g, o, u, hj, hAe, hgm, ⟨c0, c1, c2, c3, c4⟩, hch, hsub⟩ := (h1.below h2 hbr).elem hlt
      have hAe : A = some ⟨g, o, none⟩ := hAe
      subst hAe
      obtain ⟨fpt, ht1, ht2⟩ := (h1.below h2 hbr).take_ (j := j) (by show j ≤ n; omega)
      have htl : (⟨some ⟨g, o, none⟩, j, c, fpt⟩ : El).lt wr.heap.size := fun y hy => Nat.lt_of_lt_of_le (h2 y (ht2 y hy)) hbr.size
      have hul : u.lt wr.heap.size := fun y hy => Nat.lt_of_lt_of_le (h2 y (hsub y hy)) hbr.size
      have kr := Below.one wr (.cells (valCells m[j] u) 28)
      have hBx := Blk.new wr 28 (valCells m[j] u)
      have hCF := g_ContainsFunc1 105 (.pointer (some ⟨wr.heap.size, 0, none⟩)) enters_once1 (fun o => sameT o m[j]) (m.take j) ⟨some ⟨g, o, none⟩, j, c, fpt⟩ (wr.alloc (.cells (valCells m[j] u) 28)) (ht1.below htl kr) (htl.mono kr.size)
        (fun y hy e1 w3 hb3 h31 h32 => i_once1 y m[j] e1 u w3 h31 h32 (hch.below hul (kr.up hb3)) (hul.mono (kr.up hb3).size) wr.heap.size (hBx.below hb3 hBx.lt).boxV (hBx.below hb3 hBx.lt).lt)
      have hh := hH.out
      rw [onceF_step hj] at hh
      have HH := Lib.hid hh
      have hcj : (j : Int) ≤ (c : Int) := by have := ((lsAt_iff _ _).1 h1).2.1; simp only at this; omega
      clear ht1 ht2 hh hH hch hBx
      generalize (m.take j).any (fun o => sameT o m[j]) = R at hCF HH
      cases R with
      | true =>
        go_wp2_with (go_at_call 82; refine hCF.mono ?_; rintro r w2 ⟨rfl, hb2⟩)
        go_ret
        exact ⟨ret_bool (by rw [HH.out]; rfl), (kb1.up hbr).up (kr.up hb2)⟩
      | false =>
        have HH2 : Hid (onceL m = onceF (m.take (j + 1)) (m.drop (j + 1))) := Lib.hid (by rw [HH.out]; rfl)
        clear HH
        go_wp2_with (go_at_call 82; refine hCF.mono ?_; rintro r w2 ⟨rfl, hb2⟩)
        go_roundg f
        case measure => omega
        case rel => exact ⟨j + 1, by omega, by go_num, HH2, hbr.up (kr.up hb2)⟩
    · have hh := hH.out
      rw [onceF_end (by omega)] at hh
      have HH := Lib.hid hh
      have hlt2 : ¬ ((j : Int) < (n : Int)) := by omega
      clear hh hH
      go_wp2_with fail
      go_ret
      exact ⟨ret_bool HH.out.symm, kb1.up hbr⟩
end Go.Proofs.YtmelnaidjgpclaaGreatDoor

namespace Go.Proofs.YtmelnaidjgpclaaGreatDoor
open Go.RowKit

/-- Five cells in the midst of a row. -/
abbrev RowC (w' : World) (g o : Nat) (t : Tr) (e : El) : Prop :=
  w'.cell? ⟨g, o, none⟩ = some (.int .i64 t.k) ∧ w'.cell? ⟨g, o + 1, none⟩ = some (.int .i64 t.n) ∧ w'.cell? ⟨g, o + 2, none⟩ = some (.int .i64 t.x) ∧ w'.cell? ⟨g, o + 3, none⟩ = some (.string t.s) ∧ w'.cell? ⟨g, o + 4, none⟩ = some (.slice e.A e.n e.c)
abbrev SameHeld (w : World) (p1 p2 : Nat) (q1 q2 : Value) (g1 o1 : Nat) (t1 : Tr) (u1 : El) (g2 o2 : Nat) (t2 : Tr) (u2 : El) (w' : World) : Prop :=
  (w'.cell? ⟨p1, 4, none⟩ = some q1 ∧ w'.cell? ⟨p2, 4, none⟩ = some q2) ∧ RowC w' g1 o1 t1 u1 ∧ RowC w' g2 o2 t2 u2 ∧ LsAt w' t1.l u1 ∧ LsAt w' t2.l u2 ∧ Below w.heap.size w w'
theorem same_next {w w1 w2 : World} {B p1 p2 g1 o1 g2 o2 : Nat} {q1 q2 : Value} {t1 t2 : Tr} {u1 u2 : El} (hp1 : p1 < B) (hp2 : p2 < B) (h1 : g1 < w.heap.size) (h2 : g2 < w.heap.size) (hu1 : u1.lt w.heap.size) (hu2 : u2.lt w.heap.size) (hB : B ≤ w1.heap.size) (hb : Below w1.heap.size w1 w2)
    (h : SameHeld w p1 p2 q1 q2 g1 o1 t1 u1 g2 o2 t2 u2 w1) : SameHeld w p1 p2 q1 q2 g1 o1 t1 u1 g2 o2 t2 u2 w2 := by
  obtain ⟨⟨a, b⟩, ⟨a0, a1, a2, a3, a4⟩, ⟨b0, b1, b2, b3, b4⟩, c, d, e⟩ := h
  have hs := e.size
  have f := fun (g o : Nat) (hg : g < w1.heap.size) => hb.cell (p := ⟨g, o, none⟩) hg
  have hg1 : g1 < w1.heap.size := by omega
  have hg2 : g2 < w1.heap.size := by omega
  exact ⟨⟨(f _ _ (by omega)).trans a, (f _ _ (by omega)).trans b⟩, ⟨(f _ _ hg1).trans a0, (f _ _ hg1).trans a1, (f _ _ hg1).trans a2, (f _ _ hg1).trans a3, (f _ _ hg1).trans a4⟩, ⟨(f _ _ hg2).trans b0, (f _ _ hg2).trans b1, (f _ _ hg2).trans b2, (f _ _ hg2).trans b3, (f _ _ hg2).trans b4⟩, c.below (hu1.mono hs) hb, d.below (hu2.mono hs) hb, e.up hb⟩
def SwSays (a : Tr) : Prop := ∀ (b : Tr) (ea eb : El) (w : World), LsAt w a.l ea → LsAt w b.l eb → ea.lt w.heap.size → eb.lt w.heap.size →
  Calls Tryz.prog 124 #[trV a ea, trV b eb] w fun r w' => r = .returned (.bool (sameT a b)) ∧ Below w.heap.size w w'
set_option maxHeartbeats 8000000 in
theorem s_SameVal (a : Tr) : SwSays a := by
  refine Tr.ind (P := SwSays) (fun a ih => ?_) a
  intro b ea eb w ha hb hla hlb
  have k2 := Below.two w (.cells (valCells a ea) 28) (.cells (valCells b eb) 28)
  have he := sameT_eq a b
  obtain ⟨R, hR⟩ : ∃ R, sameT a b = R := ⟨_, rfl⟩
  rw [hR] at he ⊢
  clear hR
  obtain ⟨k1, n1, x1, s1, l⟩ := a
  obtain ⟨k2', n2, x2, s2, m⟩ := b
  obtain ⟨A1, m1, c1, fp1⟩ := ea
  obtain ⟨A2, m2, c2, fp2⟩ := eb
  have hn1 : l.length = m1 := ha.len
  have hn2 : m.length = m2 := hb.len
  have hc1 : m1 ≤ 9223372036854775807 := by have := ((lsAt_iff _ _).1 ha).2.1; have := ((lsAt_iff _ _).1 ha).2.2.1; unfold maxLen at *; simp at *; omega
  have hc2 : m2 ≤ 9223372036854775807 := by have := ((lsAt_iff _ _).1 hb).2.1; have := ((lsAt_iff _ _).1 hb).2.2.1; unfold maxLen at *; simp at *; omega
  simp only at he ih
  have HE := Lib.hid he
  clear he
  by_cases hk : k1 = k2'
  rotate_left
  · have q1 : (k1 == k2') = false := by simpa using hk
    have HE2 : Hid (R = false) := Lib.hid (by rw [HE.out]; simp [hk])
    clear HE ih
    go_enter Tryz.func124, Tryz.ntmps124
    go_wp2_with fail
    all_goals (go_ret; exact ⟨ret_bool HE2.out.symm, k2⟩)
  subst hk
  by_cases hn : n1 = n2
  rotate_left
  · have q1 : (n1 == n2) = false := by simpa using hn
    have HE2 : Hid (R = false) := Lib.hid (by rw [HE.out]; simp [hn])
    clear HE ih
    go_enter Tryz.func124, Tryz.ntmps124
    go_wp2_with fail
    all_goals (go_ret; exact ⟨ret_bool HE2.out.symm, k2⟩)
  subst hn
  by_cases hx : x1 = x2
  rotate_left
  · have q1 : (x1 == x2) = false := by simpa using hx
    have HE2 : Hid (R = false) := Lib.hid (by rw [HE.out]; simp [hx])
    clear HE ih
    go_enter Tryz.func124, Tryz.ntmps124
    go_wp2_with fail
    all_goals (go_ret; exact ⟨ret_bool HE2.out.symm, k2⟩)
  subst hx
  by_cases hs : s1 = s2
  rotate_left
  · have q1 : (s1.toList == s2.toList) = false := by rw [beq_eq_false_iff_ne]; exact fun h => hs (toList_inj h)
    have q2 : ¬ s1.toList = s2.toList := fun h => hs (toList_inj h)
    have HE2 : Hid (R = false) := Lib.hid (by rw [HE.out]; simp [hs])
    clear HE ih
    go_enter Tryz.func124, Tryz.ntmps124
    go_wp2_with fail
    all_goals (go_ret; exact ⟨ret_bool HE2.out.symm, k2⟩)
  subst hs
  by_cases hm : m1 = m2
  rotate_left
  · have q1 : (m1 == m2) = false := by simpa using hm
    have q2 : ((m1 : Int) == (m2 : Int)) = false := by simp; omega
    have q3 : ((m1 : Int) != (m2 : Int)) = true := by simp; omega
    have HE2 : Hid (R = false) := Lib.hid (by rw [HE.out, sameL_len (by omega)]; simp)
    clear HE ih
    go_enter Tryz.func124, Tryz.ntmps124
    go_wp2_with fail
    all_goals (go_ret; exact ⟨ret_bool HE2.out.symm, k2⟩)
  subst hm
  have HE2 : Hid (R = sameL (l.drop 0) (m.drop 0)) := Lib.hid (by rw [HE.out]; simp)
  clear HE
  have hB1 : Blk ((w.alloc (.cells #[.int .i64 k1, .int .i64 n1, .int .i64 x1, .string s1, .slice A1 m1 c1] 28)).alloc (.cells #[.int .i64 k1, .int .i64 n1, .int .i64 x1, .string s1, .slice A2 m1 c2] 28)) w.heap.size 28 #[.int .i64 k1, .int .i64 n1, .int .i64 x1, .string s1, .slice A1 m1 c1] := (Blk.new w _ _).alloc _
  have hB2 : Blk ((w.alloc (.cells #[.int .i64 k1, .int .i64 n1, .int .i64 x1, .string s1, .slice A1 m1 c1] 28)).alloc (.cells #[.int .i64 k1, .int .i64 n1, .int .i64 x1, .string s1, .slice A2 m1 c2] 28)) (w.heap.size + 1) 28 #[.int .i64 k1, .int .i64 n1, .int .i64 x1, .string s1, .slice A2 m1 c2] := by
    simpa using Blk.new (w.alloc (.cells #[.int .i64 k1, .int .i64 n1, .int .i64 x1, .string s1, .slice A1 m1 c1] 28)) 28 #[.int .i64 k1, .int .i64 n1, .int .i64 x1, .string s1, .slice A2 m1 c2]
  go_enter Tryz.func124, Tryz.ntmps124
  go_wp2_with fail
  go_loopg [5] m1 (fun f z wr => ∃ j : Nat, j + f = m1 ∧ z = .int .i64 j ∧ Hid (R = sameL (l.drop j) (m.drop j)) ∧ wr.cell? ⟨w.heap.size, 4, none⟩ = some (.slice A1 m1 c1) ∧ wr.cell? ⟨w.heap.size + 1, 4, none⟩ = some (.slice A2 m1 c2) ∧ w.heap.size + 2 ≤ wr.heap.size ∧ Below w.heap.size w wr)
  case atStart => exact ⟨0, by omega, rfl, HE2, hB1.cell 4, hB2.cell 4, by simp, k2⟩
  case round =>
    obtain ⟨j, hjf, rfl, hH, p4', r4', hz, hbr⟩ := hrel
    clear HE2 hB1 hB2 k2
    by_cases hlt : j < m1
    · obtain ⟨f, rfl⟩ : ∃ f, gk = f + 1 := ⟨gk - 1, by omega⟩
      obtain ⟨g1, o1, u1, hj1, hA1, hg1, hx1, hch1, hsub1⟩ := (ha.below hla hbr).elem hlt
      obtain ⟨g2, o2, u2, hj2, hA2, hg2, hx2, hch2, hsub2⟩ := (hb.below hlb hbr).elem hlt
      have hA1 : A1 = some ⟨g1, o1, none⟩ := hA1
      have hA2 : A2 = some ⟨g2, o2, none⟩ := hA2
      subst hA1 hA2
      have hG1 : g1 < w.heap.size := hla g1 hg1
      have hG2 : g2 < w.heap.size := hlb g2 hg2
      have hU1 : u1.lt w.heap.size := fun y hy => hla y (hsub1 y hy)
      have hU2 : u2.lt w.heap.size := fun y hy => hlb y (hsub2 y hy)
      have hS : SameHeld w w.heap.size (w.heap.size + 1) (.slice (some ⟨g1, o1, none⟩) m1 c1) (.slice (some ⟨g2, o2, none⟩) m1 c2) g1 (o1 + j * 5) l[j] u1 g2 (o2 + j * 5) m[j] u2 wr := ⟨⟨p4', r4'⟩, hx1, hx2, hch1, hch2, hbr⟩
      have hcall : ∀ w', SameHeld w w.heap.size (w.heap.size + 1) (.slice (some ⟨g1, o1, none⟩) m1 c1) (.slice (some ⟨g2, o2, none⟩) m1 c2) g1 (o1 + j * 5) l[j] u1 g2 (o2 + j * 5) m[j] u2 w' → Calls Tryz.prog 124 #[.agg #[.int .i64 l[j].k, .int .i64 l[j].n, .int .i64 l[j].x, .string l[j].s, .slice u1.A u1.n u1.c], .agg #[.int .i64 m[j].k, .int .i64 m[j].n, .int .i64 m[j].x, .string m[j].s, .slice u2.A u2.n u2.c]] w' fun r w2 => r = .returned (.bool (sameT l[j] m[j])) ∧ Below w'.heap.size w' w2 :=
        fun w' hs => ih l[j] (List.getElem_mem hj1) m[j] u1 u2 w' hs.2.2.2.1 hs.2.2.2.2.1 (hU1.mono hs.2.2.2.2.2.size) (hU2.mono hs.2.2.2.2.2.size)
      have hnext : ∀ w1 w2, SameHeld w w.heap.size (w.heap.size + 1) (.slice (some ⟨g1, o1, none⟩) m1 c1) (.slice (some ⟨g2, o2, none⟩) m1 c2) g1 (o1 + j * 5) l[j] u1 g2 (o2 + j * 5) m[j] u2 w1 → Below w1.heap.size w1 w2 → w.heap.size + 2 ≤ w1.heap.size → SameHeld w w.heap.size (w.heap.size + 1) (.slice (some ⟨g1, o1, none⟩) m1 c1) (.slice (some ⟨g2, o2, none⟩) m1 c2) g1 (o1 + j * 5) l[j] u1 g2 (o2 + j * 5) m[j] u2 w2 := fun w1 w2 h hb hz => same_next (B := w.heap.size + 2) (by omega) (by omega) hG1 hG2 hU1 hU2 hz hb h
      have hS0 : SameHeld w w.heap.size (w.heap.size + 1) (.slice (some ⟨g1, o1, none⟩) m1 c1) (.slice (some ⟨g2, o2, none⟩) m1 c2) g1 (o1 + j * 5) l[j] u1 g2 (o2 + j * 5) m[j] u2 wr.drew := hnext _ _ hS (Below.refl _ _).drew (by omega)
      have hS1 : SameHeld w w.heap.size (w.heap.size + 1) (.slice (some ⟨g1, o1, none⟩) m1 c1) (.slice (some ⟨g2, o2, none⟩) m1 c2) g1 (o1 + j * 5) l[j] u1 g2 (o2 + j * 5) m[j] u2 wr.drew ∧ w.heap.size + 2 ≤ wr.drew.heap.size := ⟨hS0, by simp; omega⟩
      have hh := hH.out
      rw [sameL_step hj1 hj2] at hh
      have HH : Hid (R = (sameT l[j] m[j] && sameL (l.drop (j + 1)) (m.drop (j + 1)))) := Lib.hid hh
      have HJ := Lib.hid hjf
      have hS2 : ∀ w1 w2, Below w1.heap.size w1 w2 → (SameHeld w w.heap.size (w.heap.size + 1) (.slice (some ⟨g1, o1, none⟩) m1 c1) (.slice (some ⟨g2, o2, none⟩) m1 c2) g1 (o1 + j * 5) l[j] u1 g2 (o2 + j * 5) m[j] u2 w1 ∧ w.heap.size + 2 ≤ w1.heap.size) → (SameHeld w w.heap.size (w.heap.size + 1) (.slice (some ⟨g1, o1, none⟩) m1 c1) (.slice (some ⟨g2, o2, none⟩) m1 c2) g1 (o1 + j * 5) l[j] u1 g2 (o2 + j * 5) m[j] u2 w2 ∧ w.heap.size + 2 ≤ w2.heap.size) := fun w1 w2 hb h => ⟨hnext _ _ h.1 hb h.2, Nat.le_trans h.2 hb.size⟩
      clear ih hh hH hjf hx1 hx2 hch1 hch2 hbr ha hb hS hnext hS0
      cases hq : sameT l[j] m[j] with
      | false =>
        rw [hq] at hcall HH
        clear hq
        go_wp2_with fail
        go_region_held3 (fun w' => SameHeld w w.heap.size (w.heap.size + 1) (.slice (some ⟨g1, o1, none⟩) m1 c1) (.slice (some ⟨g2, o2, none⟩) m1 c2) g1 (o1 + j * 5) l[j] u1 g2 (o2 + j * 5) m[j] u2 w' ∧ w.heap.size + 2 ≤ w'.heap.size)
          (first | exact hS1 | (refine hS2 _ _ hb2 ?_; assumption))
          (first | (go_at_call 124; refine (hcall _ (And.left (by assumption))).mono ?_; rintro r w2 ⟨rfl, hb2⟩))
        rename_i hHeld
        clear hcall hS1 hS2
        go_wp2
        go_ret
        exact ⟨ret_bool (by rw [HH.out]; rfl), hHeld.1.2.2.2.2.2⟩
      | true =>
        rw [hq] at hcall HH
        clear hq
        have HH2 : Hid (R = sameL (l.drop (j + 1)) (m.drop (j + 1))) := Lib.hid (by rw [HH.out]; rfl)
        clear HH
        go_wp2_with fail
        go_region_held3 (fun w' => SameHeld w w.heap.size (w.heap.size + 1) (.slice (some ⟨g1, o1, none⟩) m1 c1) (.slice (some ⟨g2, o2, none⟩) m1 c2) g1 (o1 + j * 5) l[j] u1 g2 (o2 + j * 5) m[j] u2 w' ∧ w.heap.size + 2 ≤ w'.heap.size)
          (first | exact hS1 | (refine hS2 _ _ hb2 ?_; assumption))
          (first | (go_at_call 124; refine (hcall _ (And.left (by assumption))).mono ?_; rintro r w2 ⟨rfl, hb2⟩))
        rename_i hHeld
        clear hcall hS1 hS2
        go_wp2
        go_roundg f
        case measure => have := HJ.out; omega
        case rel => exact ⟨j + 1, by have := HJ.out; omega, by go_num, HH2, hHeld.1.1.1, hHeld.1.1.2, hHeld.2, hHeld.1.2.2.2.2.2⟩
    · have hh := hH.out
      rw [sameL_end (by omega) (by omega)] at hh
      have HH := Lib.hid hh
      have hjn : ¬ ((j : Int) < (m1 : Int)) := by omega
      clear hh hH
      go_wp2_with fail
      go_ret
      exact ⟨ret_bool HH.out.symm, hbr⟩
end Go.Proofs.YtmelnaidjgpclaaGreatDoor

namespace Go.Proofs.YtmelnaidjgpclaaGreatDoor
open Go.RowKit

set_option maxHeartbeats 2000000 in
theorem s_NamesOf (t : Tr) (e : El) (w : World) (hF : Fit t) (hl : LsAt w t.l e) (hel : e.lt w.heap.size) :
    Calls Tryz.prog 123 #[trV t e] w fun r w' => NamesAt w w' (namesT t) r := by
  have hlen := hF.len
  have hkf := fun u hu => @Fit.kid t u hF hu
  obtain ⟨k, n, x, s, l⟩ := t
  obtain ⟨eA, en, ec, efp⟩ := e
  simp only at hl hlen hkf
  have hen : l.length = en := hl.len
  rw [hen] at hlen
  have k2 := Below.two w (.cells #[.int .i64 k, .int .i64 n, .int .i64 x, .string s, .slice eA en ec] 28) (.cells #[] 28)
  have hB : Blk ((w.alloc (.cells #[.int .i64 k, .int .i64 n, .int .i64 x, .string s, .slice eA en ec] 28)).alloc (.cells #[] 28)) w.heap.size 28 #[.int .i64 k, .int .i64 n, .int .i64 x, .string s, .slice eA en ec] := (Blk.new w _ _).alloc _
  have hN : RV ((w.alloc (.cells #[.int .i64 k, .int .i64 n, .int .i64 x, .string s, .slice eA en ec] 28)).alloc (.cells #[] 28)) (w.heap.size + 1) (some ⟨w.heap.size + 1, 0, none⟩) 0 0 [] [] := RV.new _ _ (by simp)
  by_cases hk : k = 10
  rotate_left
  · have q1 : (k == 10) = false := by simpa using hk
    have hn : namesT ⟨k, n, x, s, l⟩ = [] := by unfold namesT; rw [if_neg hk]
    rw [hn]
    obtain ⟨fp, f1, f2, _⟩ := hN.list (Nat.le_refl _) (by unfold maxLen; omega)
    have f3 : ∀ g ∈ fp, g < ((w.alloc (.cells #[.int .i64 k, .int .i64 n, .int .i64 x, .string s, .slice eA en ec] 28)).alloc (.cells #[] 28)).heap.size := fun g hg => f2.lt hg
    have hz0 : (0 : Int) < (en : Int) ∨ ¬ (0 : Int) < (en : Int) := by omega
    clear hkf
    rcases hz0 with hz0 | hz0
    all_goals
      go_enter Tryz.func123, Tryz.ntmps123
      go_wp2_with fail
      go_loopg [3, 4, 5] 0 (fun f v3 v4 v5 wr => v4 = .int .i64 0 ∧ v3 = .slice (some ⟨w.heap.size + 1, 0, none⟩) 0 0 ∧ wr = ((w.alloc (.cells #[.int .i64 k, .int .i64 n, .int .i64 x, .string s, .slice eA en ec] 28)).alloc (.cells #[] 28)))
      case atStart => exact ⟨rfl, rfl, rfl⟩
      case round =>
        obtain ⟨rfl, rfl, rfl⟩ := hrel
        go_wp2_with fail
        go_ret
        exact ⟨⟨_, _, _, fp⟩, rfl, f1, f3, k2⟩
  subst hk
  have hn : namesT ⟨10, n, x, s, l⟩ = evens l := rfl
  rw [hn]
  clear hn
  go_enter Tryz.func123, Tryz.ntmps123
  go_wp2_with fail
  go_loopg [3, 4, 5] en (fun f v3 v4 v5 wr => ∃ (j c' : Nat) (A' : Option Addr) (es : List El), v4 = .int .i64 (2 * j : Nat) ∧ 2 * j ≤ en + 1 ∧ en - 2 * j ≤ f ∧ v3 = .slice A' j c' ∧ RV wr (w.heap.size + 1) A' j c' ((evens l).take j) es ∧ Blk wr w.heap.size 28 #[.int .i64 10, .int .i64 n, .int .i64 x, .string s, .slice eA en ec] ∧ w.heap.size + 1 ≤ wr.heap.size ∧ Below w.heap.size w wr)
  case atStart => exact ⟨0, 0, _, [], rfl, by omega, by omega, rfl, by rw [List.take_zero]; exact hN, hB, by simp, k2⟩
  case round =>
    obtain ⟨j, c', A', es, rfl, hj2, hjf, rfl, hR, hBr, hz, hb⟩ := hrel
    clear hN hB k2
    have p4 := hBr.cell 4
    have p0 := hBr.cell 0
    by_cases hlt : 2 * j < en
    · obtain ⟨f, rfl⟩ : ∃ f, gk = f + 1 := ⟨gk - 1, by omega⟩
      obtain ⟨g, o, u, hj, hAe, hgm, ⟨c0, c1, c2, c3, c4⟩, hch, hsub⟩ := (hl.below hel hb).elem hlt
      have hAe : eA = some ⟨g, o, none⟩ := hAe
      subst hAe
      have hul : u.lt wr.heap.size := fun y hy => Nat.lt_of_lt_of_le (hel y (hsub y hy)) hb.size
      have htk := evens_take (l := l) (j := j) (by omega)
      have HT := Lib.hid htk
      have hsz : l[2 * j].sz ≤ 1048576 := (hkf _ (List.getElem_mem hj)).2
      have hcp := s_l6Copy l[2 * j] u wr hch hul (by omega)
      clear htk hch hkf
      go_wp2_with (first
        | (go_at_call 144; refine hcp.mono ?_; rintro r w5 ⟨v, rfl, hv1, hv2, hb5⟩; have hb5b := hb5.up (Below.one w5 (.cells #[.int .i64 l[2 * j].k, .int .i64 l[2 * j].n, .int .i64 l[2 * j].x, .string l[2 * j].s, .slice v.A v.n v.c] 28)); have hR5 := hR.below hb5b; have hv3 := hv1.below (fun g hg => hv2.lt hg) (Below.one w5 (.cells #[.int .i64 l[2 * j].k, .int .i64 l[2 * j].n, .int .i64 l[2 * j].x, .string l[2 * j].s, .slice v.A v.n v.c] 28)); have hv4 := hv2.below (fun g hg => hv2.lt hg) (Below.one w5 (.cells #[.int .i64 l[2 * j].k, .int .i64 l[2 * j].n, .int .i64 l[2 * j].x, .string l[2 * j].s, .slice v.A v.n v.c] 28)); have hB5 := hBr.below hb5b hBr.lt; have z5 := hb5b.size; have hd : ∀ g ∈ v.fp, g ∉ blkOf A' ∧ g ∉ elFp es := (fun g hg => ⟨fun h2 => by have := (row_lt hR.row h2).2; have := (hv2.2 g hg).1; omega, fun h2 => by have := hR.own.lt h2; have := (hv2.2 g hg).1; omega⟩))
        | (at_builtin; refine app_val rfl _ _ rfl hR5 rfl (by first | rfl | simp) rfl hv3 (hv4.mono (by omega)) hd (by omega) (by omega) ?_; intro A6 c6 w6 h6 hb6 hg6))
      have hB6 := hB5.below hb6 (Nat.lt_succ_self _)
      have hb7 := (hb.up hb5b).trans (hb6.mono (Nat.le_succ _))
      have hz6 : w.heap.size + 1 ≤ w6.heap.size := Nat.le_trans hz (Nat.le_trans z5 hb6.size)
      clear hR hR5 hd hv1 hv2 hv3 hv4 hb5 hb5b hg6 hb6 hBr hB5 p4 p0 hcp c0 c1 c2 c3 c4
      go_roundg f
      case measure => omega
      case rel => exact ⟨j + 1, c6, A6, _, by go_num, by omega, by omega, rfl, by rw [HT.out]; exact h6, hB6, hz6, hb7⟩
    · have hje : (evens l).take j = evens l := List.take_of_length_le (by rw [evens_len]; omega)
      rw [hje] at hR
      obtain ⟨fp, f1, f2, _⟩ := hR.list hR.cap.1 hR.cap.2
      have f3 : ∀ g ∈ fp, g < wr.heap.size := fun g hg => f2.lt hg
      have hlt2 : ¬ (((2 * j : Nat) : Int) < (en : Int)) := by omega
      clear hje hkf
      go_wp2_with fail
      go_ret
      exact ⟨⟨_, _, _, fp⟩, rfl, f1, f3, hb⟩
theorem sameT_comm (a b : Tr) : sameT a b = sameT b a := by rw [Bool.eq_iff_iff, sameT_iff, sameT_iff]; exact eq_comm
abbrev OnceHeld (w : World) (g1 o1 : Nat) (t1 : Tr) (u1 : El) (g2 o2 : Nat) (t2 : Tr) (u2 : El) (w' : World) : Prop :=
  RowC w' g1 o1 t1 u1 ∧ RowC w' g2 o2 t2 u2 ∧ LsAt w' t1.l u1 ∧ LsAt w' t2.l u2 ∧ Below w.heap.size w w'
theorem once_next {w w1 w2 : World} {g1 o1 g2 o2 : Nat} {t1 t2 : Tr} {u1 u2 : El} (h1 : g1 < w.heap.size) (h2 : g2 < w.heap.size) (hu1 : u1.lt w.heap.size) (hu2 : u2.lt w.heap.size) (hb : Below w1.heap.size w1 w2)
    (h : OnceHeld w g1 o1 t1 u1 g2 o2 t2 u2 w1) : OnceHeld w g1 o1 t1 u1 g2 o2 t2 u2 w2 := by
  obtain ⟨⟨a0, a1, a2, a3, a4⟩, ⟨b0, b1, b2, b3, b4⟩, c, d, e⟩ := h
  have hs := e.size
  have f := fun (g o : Nat) (hg : g < w1.heap.size) => hb.cell (p := ⟨g, o, none⟩) hg
  have hg1 : g1 < w1.heap.size := by omega
  have hg2 : g2 < w1.heap.size := by omega
  exact ⟨⟨(f _ _ hg1).trans a0, (f _ _ hg1).trans a1, (f _ _ hg1).trans a2, (f _ _ hg1).trans a3, (f _ _ hg1).trans a4⟩, ⟨(f _ _ hg2).trans b0, (f _ _ hg2).trans b1, (f _ _ hg2).trans b2, (f _ _ hg2).trans b3, (f _ _ hg2).trans b4⟩, c.below (hu1.mono hs) hb, d.below (hu2.mono hs) hb, e.up hb⟩
theorem any_step {l : List Tr} {j i : Nat} (hi : i < j) (hj : i < l.length) (p : Tr → Bool) : ((l.take j).drop i).any p = (p l[i] || ((l.take j).drop (i + 1)).any p) := by
  have h : i < (l.take j).length := by rw [List.length_take]; omega
  rw [List.drop_eq_getElem_cons h, List.any_cons, List.getElem_take]
set_option maxHeartbeats 4000000 in
theorem s_OnceEach (t : Tr) (e : El) (w : World) (hF : Fit t) (hl : LsAt w t.l e) (hel : e.lt w.heap.size) :
    Calls Tryz.prog 98 #[trV t e] w fun r w' => r = .returned (.bool (onceL (namesT t))) ∧ Below w.heap.size w w' := by
  have k1 := Below.one w (.cells (valCells t e) 28)
  have hnm := s_NamesOf t e _ hF (hl.below hel k1) (hel.mono k1.size)
  have hnl := names_len t
  have hln := hF.len
  obtain ⟨m, hm⟩ : ∃ m, namesT t = m := ⟨_, rfl⟩
  rw [hm] at hnm hnl ⊢
  have HV0 : Hid (onceL m = onceF (m.take 0) (m.drop 0)) := Lib.hid rfl
  clear hm
  go_enter Tryz.func98, Tryz.ntmps98
  go_wp2_with (go_at_call 123; refine hnm.mono ?_; rintro r w1 ⟨⟨A, n, c, fp⟩, rfl, h1, h2, hb1⟩)
  have hmn : m.length = n := h1.len
  have kb1 := k1.up hb1
  clear hnm
  go_loopg [4, 5] n (fun f v4 v5 wr => ∃ j : Nat, j + f = n ∧ v4 = .int .i64 j ∧ Hid (onceL m = onceF (m.take j) (m.drop j)) ∧ Below w1.heap.size w1 wr)
  case atStart => exact ⟨0, by omega, rfl, HV0, Below.refl _ _⟩
  case round =>
    obtain ⟨j, hjf, rfl, hH, hbr⟩ := hrel
    obtain ⟨wo, rfl⟩ : ∃ wo : World, wo = wr := ⟨_, rfl⟩
    clear HV0
    by_cases hlt : j < n
    · obtain ⟨f, rfl⟩ : ∃ f, gk = f + 1 := ⟨gk - 1, by omega⟩
      have hj : j < m.length := by omega
      have hh := hH.out
      rw [onceF_step hj] at hh
      have HH := Lib.hid hh
      have HJF := Lib.hid hjf
      have HI0 : Hid ((m.take j).any (fun o => sameT o m[j]) = ((m.take j).drop 0).any (fun o => sameT o m[j])) := Lib.hid (by rw [List.drop_zero])
      clear hh hH hjf
      go_wp2_with fail
      go_loopg [5] j (fun f5 v5 wr => ∃ i : Nat, i + f5 = j ∧ v5 = .int .i64 i ∧ Hid ((m.take j).any (fun o => sameT o m[j]) = ((m.take j).drop i).any (fun o => sameT o m[j])) ∧ Below w1.heap.size w1 wr)
      case atStart => exact ⟨0, by omega, rfl, HI0, hbr⟩
      case round =>
        obtain ⟨i, hif, rfl, hI, hbi⟩ := hrel
        clear HI0 hbr
        by_cases hi : i < j
        · obtain ⟨f5, rfl⟩ : ∃ f5, gk = f5 + 1 := ⟨gk - 1, by omega⟩
          obtain ⟨g, o, u, hj', hAe, hgm, hx1, hch1, hsub1⟩ := (h1.below h2 hbi).elem hlt
          have hAe : A = some ⟨g, o, none⟩ := hAe
          subst hAe
          obtain ⟨g', o', v, hi', hAe', hgm', hx2, hch2, hsub2⟩ := (h1.below h2 hbi).elem (j := i) (by show i < n; omega)
          simp only [Option.some.injEq, Addr.mk.injEq, and_true] at hAe'
          obtain ⟨rfl, rfl⟩ := hAe'
          have hin : i < n := by omega
          have hG : g < w1.heap.size := h2 g hgm
          have hU1 : u.lt w1.heap.size := fun y hy => h2 y (hsub1 y hy)
          have hU2 : v.lt w1.heap.size := fun y hy => h2 y (hsub2 y hy)
          have hS : OnceHeld w1 g (o + j * 5) m[j] u g (o + i * 5) m[i] v wr := ⟨hx1, hx2, hch1, hch2, hbi⟩
          have hcall : ∀ w', OnceHeld w1 g (o + j * 5) m[j] u g (o + i * 5) m[i] v w' → Calls Tryz.prog 124 #[.agg #[.int .i64 m[j].k, .int .i64 m[j].n, .int .i64 m[j].x, .string m[j].s, .slice u.A u.n u.c], .agg #[.int .i64 m[i].k, .int .i64 m[i].n, .int .i64 m[i].x, .string m[i].s, .slice v.A v.n v.c]] w' fun r w2 => r = .returned (.bool (sameT m[i] m[j])) ∧ Below w'.heap.size w' w2 :=
            fun w' hs => sameT_comm m[j] m[i] ▸ s_SameVal m[j] m[i] u v w' hs.2.2.1 hs.2.2.2.1 (hU1.mono hs.2.2.2.2.size) (hU2.mono hs.2.2.2.2.size)
          have hS2 : ∀ wa wb, Below wa.heap.size wa wb → OnceHeld w1 g (o + j * 5) m[j] u g (o + i * 5) m[i] v wa → OnceHeld w1 g (o + j * 5) m[j] u g (o + i * 5) m[i] v wb := fun wa wb hb h => once_next hG hG hU1 hU2 hb h
          have hS1 : OnceHeld w1 g (o + j * 5) m[j] u g (o + i * 5) m[i] v wr.drew := hS2 _ _ (Below.refl _ _).drew hS
          have hh := hI.out
          rw [any_step hi hi'] at hh
          have HIH := Lib.hid hh
          have HIF := Lib.hid hif
          clear hh hI hif hx1 hx2 hch1 hch2 hbi
          cases hq : sameT m[i] m[j] with
          | true =>
            rw [hq] at hcall HIH
            have HR : Hid (onceL m = false) := Lib.hid (by rw [HH.out, HIH.out]; rfl)
            clear hq HIH
            go_wp2_with fail
            go_region_held3 (fun w' => OnceHeld w1 g (o + j * 5) m[j] u g (o + i * 5) m[i] v w')
              (first | exact hS1 | (refine hS2 _ _ hb2 ?_; assumption))
              (first | (go_at_call 124; refine (hcall _ (by assumption)).mono ?_; rintro r w2 ⟨rfl, hb2⟩))
            rename_i hHeld
            clear hcall hS1 hS2 hS
            go_wp2
            go_ret
            exact ⟨ret_bool HR.out.symm, kb1.up hHeld.2.2.2.2⟩
          | false =>
            rw [hq] at hcall HIH
            have HI2 : Hid ((m.take j).any (fun o => sameT o m[j]) = ((m.take j).drop (i + 1)).any (fun o => sameT o m[j])) := Lib.hid (by rw [HIH.out]; rfl)
            clear hq HIH
            go_wp2_with fail
            go_region_held3 (fun w' => OnceHeld w1 g (o + j * 5) m[j] u g (o + i * 5) m[i] v w')
              (first | exact hS1 | (refine hS2 _ _ hb2 ?_; assumption))
              (first | (go_at_call 124; refine (hcall _ (by assumption)).mono ?_; rintro r w2 ⟨rfl, hb2⟩))
            rename_i hHeld
            clear hcall hS1 hS2 hS
            go_wp2
            go_roundg f5
            case measure => have := HIF.out; omega
            case rel => exact ⟨i + 1, by have := HIF.out; omega, by go_num, HI2, hHeld.2.2.2.2⟩
        · have hh := hI.out
          have hij : i = j := by omega
          rw [List.drop_eq_nil_of_le (by rw [List.length_take]; omega)] at hh
          have H2 : Hid (onceL m = onceF (m.take (j + 1)) (m.drop (j + 1))) := Lib.hid (by rw [HH.out, hh]; rfl)
          have hlt2 : ¬ ((i : Int) < (j : Int)) := by omega
          clear hh hI HH hij
          go_wp2_with fail
          go_roundg f
          case measure => have := HJF.out; omega
          case rel => exact ⟨j + 1, by have := HJF.out; omega, by go_num, H2, hbi⟩
    · have hh := hH.out
      rw [onceF_end (by omega)] at hh
      have HH := Lib.hid hh
      have hlt2 : ¬ ((j : Int) < (n : Int)) := by omega
      clear hh hH
      go_wp2_with fail
      go_ret
      exact ⟨ret_bool HH.out.symm, kb1.up hbr⟩
end Go.Proofs.YtmelnaidjgpclaaGreatDoor
