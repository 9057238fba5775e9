/- ValOk (spec). Written by gen/owns.py. -/
import Derived.Test.YticejlknbfhndaaDoorOwn
import Derived.Test.YticejlknbfhndaaDoorCopy
set_option linter.unusedVariables false
set_option maxRecDepth 100000
set_option linter.unusedSimpArgs false
namespace Go.Proofs.YticejlknbfhndaaDoor
open Go.RowKit

theorem valOk_eq (t : Tr) : valOk t = (ownT t && t.l.all valOk) := allT_eq ownT t
theorem s_l6Leaf (k n x : Int) (s : ByteArray) (A : Option Addr) (m c : Nat) (w : World) (hm : m ≤ 1048576) :
    Calls Tryd.prog 73 #[.agg #[.int .i64 k, .int .i64 n, .int .i64 x, .string s, .slice A m c]] w fun r w' => r = .returned (.bool (m == 0)) ∧ Below w.heap.size w w' := by
  go_enter Tryd.func73, Tryd.ntmps73
  go_wp2_with fail
  go_ret
  exact ⟨ret_bool (by rw [Bool.eq_iff_iff]; simp), Below.one _ _⟩
def VkSays (t : Tr) : Prop := Fit t → ∀ (e : El) (w : World), LsAt w t.l e → e.lt w.heap.size → TabUP w →
  Calls Tryd.prog 40 #[trV t e] w fun r w' => r = .returned (.bool (valOk t)) ∧ Below w.heap.size w w'
set_option maxHeartbeats 8000000 in
theorem s_ValOk (t : Tr) : VkSays t := by
  refine Tr.ind (P := VkSays) (fun t ih => ?_) t
  intro hF e w hl hel hT
  have hwf := (Tr.wf_iff t).1 hF.1
  have hlen := hF.len
  have hsz := hF.size
  have hv := valOk_eq t
  have hkid := fun u hu => @Fit.kid t u hF hu
  unfold ownT at hv
  obtain ⟨k, n, x, s, l⟩ := t
  obtain ⟨eA, en, ec, efp⟩ := e
  simp only at hwf hlen hsz hv hl ih hkid
  have hen : l.length = en := hl.len
  rw [hen] at hv hlen
  obtain ⟨hk, hn, hx, _, _⟩ := hwf
  obtain ⟨V, hV⟩ : ∃ V, valOk ⟨k, n, x, s, l⟩ = V := ⟨_, rfl⟩
  rw [hV] at hv ⊢
  have HV : Hid (V = (ownB k n x s en && (l.drop 0).all valOk)) := Lib.hid (by rw [List.drop_zero]; exact hv)
  have k1 := Below.one w (.cells #[.int .i64 k, .int .i64 n, .int .i64 x, .string s, .slice eA en ec] 29)
  have hB := Blk.new w 29 #[.int .i64 k, .int .i64 n, .int .i64 x, .string s, .slice eA en ec]
  clear hv hV hF
  go_enter Tryd.func40, Tryd.ntmps40
  go_wp2_with fail
  go_loopg [3] en (fun f z wr => ∃ j : Nat, j + f = en ∧ z = .int .i64 j ∧ Hid (V = (ownB k n x s en && (l.drop j).all valOk)) ∧ Blk wr w.heap.size 29 #[.int .i64 k, .int .i64 n, .int .i64 x, .string s, .slice eA en ec] ∧ Below w.heap.size w wr)
  case atStart => exact ⟨0, by omega, rfl, HV, hB, k1⟩
  case round =>
    obtain ⟨j, hjf, rfl, hH, hBr, hb⟩ := hrel
    clear HV hB k1
    have hz : w.heap.size < wr.heap.size := hBr.lt
    have p0 := hBr.cell 0
    have p1 := hBr.cell 1
    have p2 := hBr.cell 2
    have p3 := hBr.cell 3
    have p4 := hBr.cell 4
    by_cases hlt : j < en
    · obtain ⟨f, rfl⟩ : ∃ f, gk = f + 1 := ⟨gk - 1, by omega⟩
      obtain ⟨g, o, u, hj, hAe, hgm, ⟨c0, c1, c2, c3, c4⟩, hch, hsub⟩ := (hl.below hel hb).elem hlt
      have hAe : eA = some ⟨g, o, none⟩ := hAe
      subst hAe
      have hul : u.lt wr.heap.size := fun y hy => Nat.lt_of_lt_of_le (hel y (hsub y hy)) hb.size
      have hih := ih l[j] (List.getElem_mem hj) (hkid _ (List.getElem_mem hj)) u wr hch hul (hT.below hb)
      have hd : (l.drop j).all valOk = (valOk l[j] && (l.drop (j + 1)).all valOk) := by rw [List.drop_eq_getElem_cons hj]; rfl
      have hh := hH.out
      rw [hd] at hh
      have HH : Hid (V = (ownB k n x s en && (valOk l[j] && (l.drop (j + 1)).all valOk))) := Lib.hid hh
      clear ih hch hd hh hH hkid
      cases hq : valOk l[j] with
      | false =>
        rw [hq] at hih HH
        clear hq
        go_wp2_with (go_at_call 40; refine hih.mono ?_; rintro r w2 ⟨rfl, hb2⟩)
        go_ret
        exact ⟨ret_bool (by rw [HH.out]; simp), hb.up hb2⟩
      | true =>
        rw [hq] at hih HH
        clear hq
        have HH2 : Hid (V = (ownB k n x s en && (l.drop (j + 1)).all valOk)) := Lib.hid (by rw [HH.out]; simp)
        clear HH
        go_wp2_with (go_at_call 40; refine hih.mono ?_; rintro r w2 ⟨rfl, hb2⟩)
        go_roundg f
        case measure => omega
        case rel => exact ⟨j + 1, by omega, by go_num, HH2, hBr.below hb2 hz, hb.up hb2⟩
    · have hh := hH.out
      rw [List.drop_eq_nil_of_le (by omega)] at hh
      have hT2 := hT.below hb
      have hVV : V = ownB k n x s en := by rw [hh]; simp
      have HV := Lib.hid hVV
      clear hh hH ih hT hkid hVV hl hel hBr
      have hjn : ¬ ((j : Int) < (en : Int)) := by omega
      by_cases hr : k < 1 ∨ 11 < k
      · as_aux_lemma =>
        have q1 : (k == 1) = false := by simp; omega
        have q2 : (k == 2) = false := by simp; omega
        have q3 : (k == 3) = false := by simp; omega
        have q4 : (k == 4) = false := by simp; omega
        have q5 : (k == 5) = false := by simp; omega
        have q6 : (k == 6) = false := by simp; omega
        have q7 : (k == 7) = false := by simp; omega
        have q8 : (k == 8) = false := by simp; omega
        have q9 : (k == 9) = false := by simp; omega
        have q10 : (k == 10) = false := by simp; omega
        have q11 : (k == 11) = false := by simp; omega
        have e : ownB k n x s en = false := by
          unfold ownB
          rw [if_neg (by omega), if_neg (by omega), if_neg (by omega), if_neg (by omega), if_neg (by omega), if_neg (by omega), if_neg (by omega), if_neg (by omega), if_neg (by omega), if_neg (by omega), if_neg (by omega)]
        have HV2 := Lib.hid (HV.out.trans e)
        clear HV e hr
        go_wp2_with fail
        go_ret
        exact ⟨ret_bool HV2.out.symm, hb⟩
      have hc : k = 1 ∨ k = 2 ∨ k = 3 ∨ k = 4 ∨ k = 5 ∨ k = 6 ∨ k = 7 ∨ k = 8 ∨ k = 9 ∨ k = 10 ∨ k = 11 := by omega
      clear hr hk
      rcases hc with rfl | rfl | rfl | rfl | rfl | rfl | rfl | rfl | rfl | rfl | rfl
      · as_aux_lemma =>
        go_wp2_with (go_at_call 73; refine (s_l6Leaf _ _ _ _ _ _ _ _ hlen).mono ?_; rintro e w3 ⟨rfl, hb3⟩)
        all_goals (go_ret; refine ⟨ret_bool ?_, by first | exact hb | exact hb.up hb3 | exact hb.up hb2 | exact (hb.up hb2).up hb3⟩)
        all_goals first | (rw [HV.out]; simp [ownB, *]; done) | (rw [HV.out]; simp [ownB, *]; omega) | (rw [HV.out]; simp only [ownB]; rw [Bool.eq_iff_iff]; simp [*]; done) | (rw [HV.out]; simp only [ownB]; rw [Bool.eq_iff_iff]; simp [*]; omega)
      · as_aux_lemma =>
        go_wp2_with (first
          | (go_at_call 74; refine (s_l1In _ _ _ _).mono ?_; rintro e w1 ⟨rfl, rfl⟩)
          | (go_at_call 73; refine (s_l6Leaf _ _ _ _ _ _ _ _ hlen).mono ?_; rintro e w3 ⟨rfl, hb3⟩))
        all_goals (go_ret; refine ⟨ret_bool ?_, by first | exact hb | exact hb.up hb3 | exact hb.up hb2 | exact (hb.up hb2).up hb3⟩)
        all_goals first | (rw [HV.out]; simp [ownB, *]; done) | (rw [HV.out]; simp [ownB, *]; omega) | (rw [HV.out]; simp only [ownB]; rw [Bool.eq_iff_iff]; simp [*]; done) | (rw [HV.out]; simp only [ownB]; rw [Bool.eq_iff_iff]; simp [*]; omega)
      · as_aux_lemma =>
        go_wp2_with (first
          | (go_at_call 74; refine (s_l1In _ _ _ _).mono ?_; rintro e w1 ⟨rfl, rfl⟩)
          | (go_at_call 73; refine (s_l6Leaf _ _ _ _ _ _ _ _ hlen).mono ?_; rintro e w3 ⟨rfl, hb3⟩))
        all_goals (go_ret; refine ⟨ret_bool ?_, by first | exact hb | exact hb.up hb3 | exact hb.up hb2 | exact (hb.up hb2).up hb3⟩)
        all_goals first | (rw [HV.out]; simp [ownB, *]; done) | (rw [HV.out]; simp [ownB, *]; omega) | (rw [HV.out]; simp only [ownB]; rw [Bool.eq_iff_iff]; simp [*]; done) | (rw [HV.out]; simp only [ownB]; rw [Bool.eq_iff_iff]; simp [*]; omega)
      · as_aux_lemma =>
        go_wp2_with (first
          | (go_at_call 75; refine (s_FltOk n x _ hx.2).mono ?_; rintro e w2 ⟨rfl, hb2⟩; obtain ⟨hc2, hf2⟩ := bcell hb2)
          | (go_at_call 73; refine (s_l6Leaf _ _ _ _ _ _ _ _ hlen).mono ?_; rintro e w3 ⟨rfl, hb3⟩))
        all_goals (go_ret; refine ⟨ret_bool ?_, by first | exact hb | exact hb.up hb3 | exact hb.up hb2 | exact (hb.up hb2).up hb3⟩)
        all_goals first | (rw [HV.out]; simp [ownB, *]; done) | (rw [HV.out]; simp [ownB, *]; omega) | (rw [HV.out]; simp only [ownB]; rw [Bool.eq_iff_iff]; simp [*]; done) | (rw [HV.out]; simp only [ownB]; rw [Bool.eq_iff_iff]; simp [*]; omega)
      · as_aux_lemma =>
        go_wp2_with (first
          | (go_at_call 74; refine (s_l1In _ _ _ _).mono ?_; rintro e w1 ⟨rfl, rfl⟩)
          | (go_at_call 73; refine (s_l6Leaf _ _ _ _ _ _ _ _ hlen).mono ?_; rintro e w3 ⟨rfl, hb3⟩))
        all_goals (go_ret; refine ⟨ret_bool ?_, by first | exact hb | exact hb.up hb3 | exact hb.up hb2 | exact (hb.up hb2).up hb3⟩)
        all_goals first | (rw [HV.out]; simp [ownB, *]; done) | (rw [HV.out]; simp [ownB, *]; omega) | (rw [HV.out]; simp only [ownB]; rw [Bool.eq_iff_iff]; simp [*]; done) | (rw [HV.out]; simp only [ownB]; rw [Bool.eq_iff_iff]; simp [*]; omega)
      · as_aux_lemma =>
        go_wp2_with (first
          | (go_at_call 76; refine (s_DecOk n x _ hn hx).mono ?_; rintro e w2 ⟨rfl, hb2⟩; obtain ⟨hc2, hf2⟩ := bcell hb2)
          | (go_at_call 73; refine (s_l6Leaf _ _ _ _ _ _ _ _ hlen).mono ?_; rintro e w3 ⟨rfl, hb3⟩))
        all_goals (go_ret; refine ⟨ret_bool ?_, by first | exact hb | exact hb.up hb3 | exact hb.up hb2 | exact (hb.up hb2).up hb3⟩)
        all_goals first | (rw [HV.out]; simp [ownB, *]; done) | (rw [HV.out]; simp [ownB, *]; omega) | (rw [HV.out]; simp only [ownB]; rw [Bool.eq_iff_iff]; simp [*]; done) | (rw [HV.out]; simp only [ownB]; rw [Bool.eq_iff_iff]; simp [*]; omega)
      · as_aux_lemma =>
        go_wp2_with (first
          | (go_at_call 77; refine (s_TextOk s _ (by omega)).mono ?_; rintro e w2 ⟨rfl, hb2⟩; obtain ⟨hc2, hf2⟩ := bcell hb2)
          | (go_at_call 73; refine (s_l6Leaf _ _ _ _ _ _ _ _ hlen).mono ?_; rintro e w3 ⟨rfl, hb3⟩))
        all_goals (go_ret; refine ⟨ret_bool ?_, by first | exact hb | exact hb.up hb3 | exact hb.up hb2 | exact (hb.up hb2).up hb3⟩)
        all_goals first | (rw [HV.out]; simp [ownB, *]; done) | (rw [HV.out]; simp [ownB, *]; omega) | (rw [HV.out]; simp only [ownB]; rw [Bool.eq_iff_iff]; simp [*]; done) | (rw [HV.out]; simp only [ownB]; rw [Bool.eq_iff_iff]; simp [*]; omega)
      · as_aux_lemma =>
        go_wp2_with (go_at_call 73; refine (s_l6Leaf _ _ _ _ _ _ _ _ hlen).mono ?_; rintro e w3 ⟨rfl, hb3⟩)
        all_goals (go_ret; refine ⟨ret_bool ?_, by first | exact hb | exact hb.up hb3 | exact hb.up hb2 | exact (hb.up hb2).up hb3⟩)
        all_goals first | (rw [HV.out]; simp [ownB, *]; done) | (rw [HV.out]; simp [ownB, *]; omega) | (rw [HV.out]; simp only [ownB]; rw [Bool.eq_iff_iff]; simp [*]; done) | (rw [HV.out]; simp only [ownB]; rw [Bool.eq_iff_iff]; simp [*]; omega)
      · as_aux_lemma =>
        go_wp2_with fail
        all_goals (go_ret; refine ⟨ret_bool ?_, by first | exact hb | exact hb.up hb3 | exact hb.up hb2 | exact (hb.up hb2).up hb3⟩)
        all_goals first | (rw [HV.out]; simp [ownB, *]; done) | (rw [HV.out]; simp [ownB, *]; omega) | (rw [HV.out]; simp only [ownB]; rw [Bool.eq_iff_iff]; simp [*]; done) | (rw [HV.out]; simp only [ownB]; rw [Bool.eq_iff_iff]; simp [*]; omega)
      · as_aux_lemma =>
        go_wp2_with fail
        all_goals (go_ret; refine ⟨ret_bool ?_, by first | exact hb | exact hb.up hb3 | exact hb.up hb2 | exact (hb.up hb2).up hb3⟩)
        all_goals first | (rw [HV.out]; simp [ownB, *]; done) | (rw [HV.out]; simp [ownB, *]; omega) | (rw [HV.out]; simp only [ownB]; rw [Bool.eq_iff_iff]; simp [*]; done) | (rw [HV.out]; simp only [ownB]; rw [Bool.eq_iff_iff]; simp [*]; omega)
      · as_aux_lemma =>
        go_wp2_with (go_at_call 74; refine (s_l1In _ _ _ _).mono ?_; rintro e w1 ⟨rfl, rfl⟩)
        all_goals (go_ret; refine ⟨ret_bool ?_, by first | exact hb | exact hb.up hb3 | exact hb.up hb2 | exact (hb.up hb2).up hb3⟩)
        all_goals first | (rw [HV.out]; simp [ownB, *]; done) | (rw [HV.out]; simp [ownB, *]; omega) | (rw [HV.out]; simp only [ownB]; rw [Bool.eq_iff_iff]; simp [*]; done) | (rw [HV.out]; simp only [ownB]; rw [Bool.eq_iff_iff]; simp [*]; omega)
end Go.Proofs.YticejlknbfhndaaDoor
