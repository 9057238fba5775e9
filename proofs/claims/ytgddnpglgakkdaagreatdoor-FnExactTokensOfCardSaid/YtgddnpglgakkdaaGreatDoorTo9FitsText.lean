/- FitsText: both sides. Written by gen/fits.py. -/
import Derived.Test.YtgddnpglgakkdaaGreatDoorTo9M38
import Derived.Test.YtgddnpglgakkdaaGreatDoorTo9OnceS
set_option linter.unusedVariables false
set_option maxRecDepth 100000
set_option linter.unusedSimpArgs false
namespace Go.Proofs.YtgddnpglgakkdaaGreatDoor
open Go.RowKit

/-- A map's names are texts, and different. -/
noncomputable def textNamesB (t : Tr) : Bool := onceL (namesT t) && (namesT t).all (fun u => u.k == 7)
noncomputable def fitTextB (t : Tr) : Bool := (t.k == 1) || (t.k == 2) || (t.k == 3) || (t.k == 6) || (t.k == 7) || (t.k == 9) || ((t.k == 10) && textNamesB t)
theorem fitText_ten {t : Tr} (h : t.k = 10) : fitTextB t = textNamesB t := by unfold fitTextB; rw [h]; rfl
theorem enters_textNames1 : EntersF 115 := enters_of Tryz.func115 (by kernel_rfl) rfl
theorem i_textNames1 (u : Tr) (e : El) (w : World) :
    Calls Tryz.prog 115 #[trV u e] w fun r w' => r = .returned (.bool (!(u.k == 7))) ∧ Below w.heap.size w w' := by
  go_enter Tryz.func115, Tryz.ntmps115
  go_wp2_with fail
  go_ret
  exact ⟨rfl, Below.one _ _⟩
theorem i_textNames (t : Tr) (e : El) (w : World) (hF : Fit t) (hl : LsAt w t.l e) (hel : e.lt w.heap.size) :
    Calls Tryz.prog 81 #[trV t e] w fun r w' => r = .returned (.bool (textNamesB t)) ∧ Below w.heap.size w w' := by
  have kb := Below.one w (.cells (valCells t e) 33)
  have hB := Blk.new w 33 (valCells t e)
  have ho := i_OnceEach t e _ hF (hl.below hel kb) (hel.mono kb.size)
  have hnm := fun w2 (hb : Below w.heap.size w w2) => i_names t e w2 hF (hl.below hel hb) (hel.mono hb.size)
  unfold textNamesB
  generalize namesT t = m at ho hnm
  have hCF := fun (z : El) (w2 : World) (h1 : LsAt w2 m z) (h2 : z.lt w2.heap.size) => g_ContainsFunc0 115 enters_textNames1 (fun u => !(u.k == 7)) m z w2 h1 h2 (fun u _ e1 w1 _ _ _ => i_textNames1 u e1 w1)
  rw [any_not] at hCF
  generalize m.all (fun u => u.k == 7) = R at hCF
  cases hq : onceL m with
  | false =>
    rw [hq] at ho
    clear hq hnm hCF
    go_enter Tryz.func81, Tryz.ntmps81
    go_wp2_with (go_at_call 113; refine ho.mono ?_; rintro r w1 ⟨rfl, hb⟩)
    go_ret
    exact ⟨rfl, kb.up hb⟩
  | true =>
    rw [hq] at ho
    clear hq
    go_enter Tryz.func81, Tryz.ntmps81
    go_wp2_with (first
      | (go_at_call 113; refine ho.mono ?_; rintro r w1 ⟨rfl, hb⟩; obtain ⟨q0, q1, q2, q3, q4⟩ := (hB.below hb hB.lt).boxV)
      | (go_at_call 114; refine (hnm _ (kb.up hb)).mono ?_; rintro r w2 ⟨z, rfl, hz1, hz2, hb2⟩)
      | (go_at_call 111; refine (hCF z _ hz1 hz2).mono ?_; rintro r w3 ⟨rfl, hb3⟩))
    go_ret
    exact ⟨by simp, ((kb.up hb).up hb2).up hb3⟩
theorem i_FitsText1 (t : Tr) (e : El) (w : World) (hF : Fit t) (hl : LsAt w t.l e) (hel : e.lt w.heap.size) (hT : TabUP w) :
    Calls Tryz.prog 80 #[trV t e] w fun r w' => r = .returned (.bool (fitTextB t)) ∧ Below w.heap.size w w' := by
  have kb := Below.one w (.cells (valCells t e) 33)
  have htn := i_textNames t e _ hF (hl.below hel kb) (hel.mono kb.size)
  have hten := @fitText_ten t
  have hfb : fitTextB t = ((t.k == 1) || (t.k == 2) || (t.k == 3) || (t.k == 6) || (t.k == 7) || (t.k == 9) || ((t.k == 10) && textNamesB t)) := rfl
  clear hl hF
  obtain ⟨k, n, x, s, l⟩ := t
  simp only at hfb hten
  by_cases h1 : k = 1 ∨ k = 2 ∨ k = 3 ∨ k = 6 ∨ k = 7 ∨ k = 9
  · have hR : fitTextB ⟨k, n, x, s, l⟩ = true := by rw [hfb]; rcases h1 with rfl | rfl | rfl | rfl | rfl | rfl <;> rfl
    rw [hR]
    clear hR hfb htn hten
    rcases h1 with rfl | rfl | rfl | rfl | rfl | rfl
    all_goals
      go_enter Tryz.func80, Tryz.ntmps80
      go_wp2_with fail
      go_ret
      exact ⟨rfl, kb⟩
  by_cases h2 : k = 10
  · subst h2
    rw [hten rfl]
    clear hfb h1 hten
    generalize textNamesB ⟨10, n, x, s, l⟩ = R at htn
    go_enter Tryz.func80, Tryz.ntmps80
    go_wp2_with (go_at_call 81; refine htn.mono ?_; rintro r w1 ⟨rfl, hb⟩)
    go_ret
    exact ⟨rfl, kb.up hb⟩
  · have q1 : (k == 1) = false := by simp; omega
    have q2 : (k == 2) = false := by simp; omega
    have q3 : (k == 3) = false := by simp; omega
    have q6 : (k == 6) = false := by simp; omega
    have q7 : (k == 7) = false := by simp; omega
    have q9 : (k == 9) = false := by simp; omega
    have q10 : (k == 10) = false := by simp; omega
    have hR : fitTextB ⟨k, n, x, s, l⟩ = false := by rw [hfb, q1, q2, q3, q6, q7, q9, q10]; rfl
    rw [hR]
    clear hR hfb htn hten h1 h2
    go_enter Tryz.func80, Tryz.ntmps80
    go_wp2_with fail
    go_ret
    exact ⟨rfl, kb⟩
set_option maxHeartbeats 2000000 in
theorem s_l11Names (t : Tr) (e : El) (w : World) (hF : Fit t) (hl : LsAt w t.l e) (hel : e.lt w.heap.size) :
    Calls Tryz.prog 108 #[trV t e] w fun r w' => r = .returned (.bool (textNamesB t)) ∧ Below w.heap.size w w' := by
  have kb := Below.one w (.cells (valCells t e) 33)
  have hB := Blk.new w 33 (valCells t e)
  have hnm := s_NamesOf t e _ hF (hl.below hel kb) (hel.mono kb.size)
  have ho := fun w2 (hb : Below w.heap.size w w2) => s_OnceEach t e w2 hF (hl.below hel hb) (hel.mono hb.size)
  have hnl := names_len t
  have hln := hF.len
  unfold textNamesB
  generalize namesT t = m at ho hnm hnl
  generalize onceL m = R at ho
  have HA0 : Hid (m.all (fun u => u.k == 7) = (m.drop 0).all (fun u => u.k == 7)) := Lib.hid (by rw [List.drop_zero])
  clear hl hF
  go_enter Tryz.func108, Tryz.ntmps108
  go_wp2_with (go_at_call 139; refine hnm.mono ?_; rintro r w1 ⟨⟨A, c, d, fp⟩, rfl, h1, h2, hb1⟩)
  have hmn : m.length = c := h1.len
  have kb1 := kb.up hb1
  have hB1 := hB.below hb1 hB.lt
  clear hnm hB
  go_loopg [4] c (fun f v4 wr => ∃ j : Nat, j + f = c ∧ v4 = .int .i64 j ∧ Hid (m.all (fun u => u.k == 7) = (m.drop j).all (fun u => u.k == 7)) ∧ wr = w1)
  case atStart => exact ⟨0, by omega, rfl, HA0, rfl⟩
  case round =>
    obtain ⟨j, hjf, rfl, hH, rfl⟩ := hrel
    clear HA0
    by_cases hlt : j < c
    · obtain ⟨f, rfl⟩ : ∃ f, gk = f + 1 := ⟨gk - 1, by omega⟩
      obtain ⟨g, o, u, hj, hAe, hgm, ⟨c0, c1, c2, c3, c4⟩, hch, hsub⟩ := h1.elem hlt
      have hAe : A = some ⟨g, o, none⟩ := hAe
      subst hAe
      have hh := hH.out
      rw [List.drop_eq_getElem_cons hj, List.all_cons] at hh
      have HH := Lib.hid hh
      clear hh hH ho
      cases hq : (m[j].k == 7) with
      | false =>
        have hq2 : (m[j].k != 7) = true := by simp [bne, hq]
        have hq3 : ¬ m[j].k = 7 := by simpa using hq
        have HR : Hid (m.all (fun u => u.k == 7) = false) := Lib.hid (by rw [HH.out, hq]; rfl)
        clear HH
        go_wp2_with fail
        go_ret
        exact ⟨ret_bool (by rw [HR.out]; simp), kb1⟩
      | true =>
        have hq3 : m[j].k = 7 := by simpa using hq
        have HR : Hid (m.all (fun u => u.k == 7) = (m.drop (j + 1)).all (fun u => u.k == 7)) := Lib.hid (by rw [HH.out, hq]; rfl)
        clear HH hq
        go_wp2_with fail
        go_roundg f
        case measure => omega
        case rel => exact ⟨j + 1, by omega, by go_num, HR, rfl⟩
    · have hh := hH.out
      rw [List.drop_eq_nil_of_le (by omega)] at hh
      have HH := Lib.hid hh
      have hjn : ¬ ((j : Int) < (c : Int)) := by omega
      have ho2 := ho _ kb1
      obtain ⟨q0, q1, q2, q3, q4⟩ := hB1.boxV
      clear hh hH ho
      go_wp2_with (go_at_call 140; refine ho2.mono ?_; rintro r w2 ⟨rfl, hb2⟩)
      go_ret
      exact ⟨ret_bool (by rw [HH.out]; simp), kb1.up hb2⟩
def LfSays (t : Tr) : Prop := Fit t → ∀ (e : El) (w : World), LsAt w t.l e → e.lt w.heap.size → TabUP w →
  Calls Tryz.prog 75 #[trV t e] w fun r w' => r = .returned (.bool (allT fitTextB t)) ∧ Below w.heap.size w w'
set_option maxHeartbeats 8000000 in
theorem s_l11Fits (t : Tr) : LfSays t := by
  refine Tr.ind (P := LfSays) (fun t ih => ?_) t
  intro hF e w hl hel hT
  have hwf := (Tr.wf_iff t).1 hF.1
  have hlen := hF.len
  have hsz := hF.size
  have hv := allT_eq fitTextB t
  have hkid := fun u hu => @Fit.kid t u hF hu
  have hF0 := hF
  obtain ⟨k, n, x, s, l⟩ := t
  obtain ⟨eA, en, ec, efp⟩ := e
  simp only at hwf hlen hsz hv hl ih hkid
  have hen : l.length = en := hl.len
  rw [hen] at hlen
  obtain ⟨hk, hn, hx, _, _⟩ := hwf
  obtain ⟨V, hV⟩ : ∃ V, allT fitTextB ⟨k, n, x, s, l⟩ = V := ⟨_, rfl⟩
  rw [hV] at hv ⊢
  obtain ⟨O, hO⟩ : ∃ O, fitTextB ⟨k, n, x, s, l⟩ = O := ⟨_, rfl⟩
  rw [hO] at hv
  have HO := Lib.hid hO
  have HV : Hid (V = (O && (l.drop 0).all (allT fitTextB))) := Lib.hid (by rw [List.drop_zero]; exact hv)
  have k1 := Below.one w (.cells #[.int .i64 k, .int .i64 n, .int .i64 x, .string s, .slice eA en ec] 33)
  have hB := Blk.new w 33 #[.int .i64 k, .int .i64 n, .int .i64 x, .string s, .slice eA en ec]
  clear hv hV hO
  go_enter Tryz.func75, Tryz.ntmps75
  go_wp2_with fail
  go_loopg [3] en (fun f z wr => ∃ j : Nat, j + f = en ∧ z = .int .i64 j ∧ Hid (V = (O && (l.drop j).all (allT fitTextB))) ∧ Blk wr w.heap.size 33 #[.int .i64 k, .int .i64 n, .int .i64 x, .string s, .slice eA en ec] ∧ Below w.heap.size w wr)
  case atStart => exact ⟨0, by omega, rfl, HV, hB, k1⟩
  case round =>
    obtain ⟨j, hjf, rfl, hH, hBr, hb⟩ := hrel
    clear HV hB k1
    have hz : w.heap.size < wr.heap.size := hBr.lt
    have p0 := hBr.cell 0
    have p1 := hBr.cell 1
    have p2 := hBr.cell 2
    have p3 := hBr.cell 3
    have p4 := hBr.cell 4
    by_cases hlt : j < en
    · obtain ⟨f, rfl⟩ : ∃ f, gk = f + 1 := ⟨gk - 1, by omega⟩
      obtain ⟨g, o, u, hj, hAe, hgm, ⟨c0, c1, c2, c3, c4⟩, hch, hsub⟩ := (hl.below hel hb).elem hlt
      have hAe : eA = some ⟨g, o, none⟩ := hAe
      subst hAe
      have hul : u.lt wr.heap.size := fun y hy => Nat.lt_of_lt_of_le (hel y (hsub y hy)) hb.size
      have hih := ih l[j] (List.getElem_mem hj) (hkid _ (List.getElem_mem hj)) u wr hch hul (hT.below hb)
      have hd : (l.drop j).all (allT fitTextB) = (allT fitTextB l[j] && (l.drop (j + 1)).all (allT fitTextB)) := by rw [List.drop_eq_getElem_cons hj]; rfl
      have hh := hH.out
      rw [hd] at hh
      have HH : Hid (V = (O && (allT fitTextB l[j] && (l.drop (j + 1)).all (allT fitTextB)))) := Lib.hid hh
      clear ih hch hd hh hH hkid hF hF0
      cases hq : allT fitTextB l[j] with
      | false =>
        rw [hq] at hih HH
        clear hq
        go_wp2_with (go_at_call 75; refine hih.mono ?_; rintro r w2 ⟨rfl, hb2⟩)
        go_ret
        exact ⟨ret_bool (by rw [HH.out]; simp), hb.up hb2⟩
      | true =>
        rw [hq] at hih HH
        clear hq
        have HH2 : Hid (V = (O && (l.drop (j + 1)).all (allT fitTextB))) := Lib.hid (by rw [HH.out]; simp)
        clear HH
        go_wp2_with (go_at_call 75; refine hih.mono ?_; rintro r w2 ⟨rfl, hb2⟩)
        go_roundg f
        case measure => omega
        case rel => exact ⟨j + 1, by omega, by go_num, HH2, hBr.below hb2 hz, hb.up hb2⟩
    · have hh := hH.out
      rw [List.drop_eq_nil_of_le (by omega)] at hh
      have hT2 := hT.below hb
      have HV : Hid (V = O) := Lib.hid (by rw [hh]; simp)
      have hl2 := hl.below hel hb
      have hel2 := hel.mono hb.size
      clear hh hH ih hT hkid hl hel
      have hjn : ¬ ((j : Int) < (en : Int)) := by omega
      have hnn := s_l11Names ⟨k, n, x, s, l⟩ ⟨eA, en, ec, efp⟩ wr hF0 hl2 hel2
      have ho := HO.out
      have hfb : fitTextB ⟨k, n, x, s, l⟩ = ((k == 1) || (k == 2) || (k == 3) || (k == 6) || (k == 7) || (k == 9) || ((k == 10) && textNamesB ⟨k, n, x, s, l⟩)) := rfl
      have hV2 := HV.out
      rw [← ho] at hV2
      clear ho HO HV hF hF0 hl2 hel2 hT2
      by_cases h1 : k = 1 ∨ k = 2 ∨ k = 3 ∨ k = 6 ∨ k = 7 ∨ k = 9
      · have hR : fitTextB ⟨k, n, x, s, l⟩ = true := by rw [hfb]; rcases h1 with rfl | rfl | rfl | rfl | rfl | rfl <;> rfl
        have HV2 := Lib.hid (hV2.trans hR)
        clear hR hfb hnn hV2
        rcases h1 with rfl | rfl | rfl | rfl | rfl | rfl
        all_goals
          go_wp2_with fail
          go_ret
          exact ⟨ret_bool HV2.out.symm, hb⟩
      by_cases h2 : k = 10
      · subst h2
        rw [fitText_ten rfl] at hV2
        generalize textNamesB ⟨10, n, x, s, l⟩ = R at hnn hV2
        have HV2 := Lib.hid hV2
        clear hfb h1 hV2
        go_wp2_with (go_at_call 108; refine hnn.mono ?_; rintro r w2 ⟨rfl, hb2⟩)
        go_ret
        exact ⟨ret_bool HV2.out.symm, hb.up hb2⟩
      · have q1 : (k == 1) = false := by simp; omega
        have q2 : (k == 2) = false := by simp; omega
        have q3 : (k == 3) = false := by simp; omega
        have q6 : (k == 6) = false := by simp; omega
        have q7 : (k == 7) = false := by simp; omega
        have q9 : (k == 9) = false := by simp; omega
        have q10 : (k == 10) = false := by simp; omega
        have hR : fitTextB ⟨k, n, x, s, l⟩ = false := by rw [hfb, q1, q2, q3, q6, q7, q9, q10]; rfl
        have HV2 := Lib.hid (hV2.trans hR)
        clear hR hfb hnn h1 h2 hV2
        go_wp2_with fail
        go_ret
        exact ⟨ret_bool HV2.out.symm, hb⟩
theorem enters_FitsText1 : EntersF 80 := enters_of Tryz.func80 (by kernel_rfl) rfl
noncomputable def fitsText (t : Tr) : Bool := valOk t && allT fitTextB t
theorem i_FitsText (t : Tr) (e : El) (w : World) (hF : Fit t) (hl : LsAt w t.l e) (hel : e.lt w.heap.size) (hT : TabUP w) :
    Calls Tryz.prog 50 #[trV t e] w fun r w' => r = .returned (.bool (fitsText t)) ∧ Below w.heap.size w w' := by
  have kb := Below.one w (.cells (valCells t e) 33)
  have hB := Blk.new w 33 (valCells t e)
  have hv := i_ValOk t e _ hF (hl.below hel kb) (hel.mono kb.size) (hT.below kb)
  have h := fun w2 (hb : Below w.heap.size w w2) => i_every 80 enters_FitsText1 enters_every1 fitTextB Fit TabUP (fun _ _ h hb => h.below hb) (fun _ _ h hu => h.kid hu) (fun u e w hu hl hel hT => i_FitsText1 u e w hu hl hel hT) t hF e w2 (hl.below hel hb) (hel.mono hb.size) (hT.below hb)
  unfold fitsText
  generalize allT fitTextB t = R at h
  cases hq : valOk t with
  | false =>
    rw [hq] at hv
    clear hq h
    go_enter Tryz.func50, Tryz.ntmps50
    go_wp2_with (go_at_call 78; refine hv.mono ?_; rintro r w1 ⟨rfl, hb⟩)
    go_ret
    exact ⟨rfl, kb.up hb⟩
  | true =>
    rw [hq] at hv
    clear hq
    go_enter Tryz.func50, Tryz.ntmps50
    go_wp2_with (first
      | (go_at_call 78; refine hv.mono ?_; rintro r w1 ⟨rfl, hb⟩; obtain ⟨q0, q1, q2, q3, q4⟩ := (hB.below hb hB.lt).boxV)
      | (go_at_call 79; refine (h _ (kb.up hb)).mono ?_; rintro r w2 ⟨rfl, hb2⟩))
    go_ret
    exact ⟨rfl, (kb.up hb).up hb2⟩
theorem s_FitsText (t : Tr) (e : El) (w : World) (hF : Fit t) (hl : LsAt w t.l e) (hel : e.lt w.heap.size) (hT : TabUP w) :
    Calls Tryz.prog 48 #[trV t e] w fun r w' => r = .returned (.bool (fitsText t)) ∧ Below w.heap.size w w' := by
  have kb := Below.one w (.cells (valCells t e) 33)
  have hB := Blk.new w 33 (valCells t e)
  have hv := s_ValOk t hF e _ (hl.below hel kb) (hel.mono kb.size) (hT.below kb)
  have h := fun w2 (hb : Below w.heap.size w w2) => s_l11Fits t hF e w2 (hl.below hel hb) (hel.mono hb.size) (hT.below hb)
  unfold fitsText
  generalize allT fitTextB t = R at h
  cases hq : valOk t with
  | false =>
    rw [hq] at hv
    clear hq h
    go_enter Tryz.func48, Tryz.ntmps48
    go_wp2_with (go_at_call 74; refine hv.mono ?_; rintro r w1 ⟨rfl, hb⟩)
    go_ret
    exact ⟨rfl, kb.up hb⟩
  | true =>
    rw [hq] at hv
    clear hq
    go_enter Tryz.func48, Tryz.ntmps48
    go_wp2_with (first
      | (go_at_call 74; refine hv.mono ?_; rintro r w1 ⟨rfl, hb⟩; obtain ⟨q0, q1, q2, q3, q4⟩ := (hB.below hb hB.lt).boxV)
      | (go_at_call 75; refine (h _ (kb.up hb)).mono ?_; rintro r w2 ⟨rfl, hb2⟩))
    go_ret
    exact ⟨rfl, (kb.up hb).up hb2⟩
end Go.Proofs.YtgddnpglgakkdaaGreatDoor
