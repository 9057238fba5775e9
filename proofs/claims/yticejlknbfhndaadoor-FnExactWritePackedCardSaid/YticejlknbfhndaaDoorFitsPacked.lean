/- FitsPacked: both sides. Written by gen/fits.py. -/
import Derived.Test.YticejlknbfhndaaDoorOwnS
import Derived.Test.YticejlknbfhndaaDoorOnceS
import Derived.Test.YticejlknbfhndaaDoorMark
import Derived.Test.YticejlknbfhndaaDoorMarkFor
set_option linter.unusedVariables false
set_option maxRecDepth 100000
set_option linter.unusedSimpArgs false
namespace Go.Proofs.YticejlknbfhndaaDoor
open Go.RowKit

noncomputable def fitPackB (t : Tr) : Bool := !(t.k == 6) && (!(t.k == 11) && (onceL (namesT t) && markOk (markFor t.k t.n t.x t.s.size t.l.length).1 (markFor t.k t.n t.x t.s.size t.l.length).2))
theorem fitPack_no {t : Tr} (h : t.k = 6 ∨ t.k = 11) : fitPackB t = false := by unfold fitPackB; rcases h with h | h <;> simp [h]
theorem fitPack_yes {t : Tr} (h6 : ¬ t.k = 6) (h11 : ¬ t.k = 11) : fitPackB t = (onceL (namesT t) && markOk (markFor t.k t.n t.x t.s.size t.l.length).1 (markFor t.k t.n t.x t.s.size t.l.length).2) := by
  have a : (t.k == 6) = false := by simpa using h6
  have b : (t.k == 11) = false := by simpa using h11
  unfold fitPackB
  rw [a, b]
  rfl
set_option maxHeartbeats 1000000 in
theorem i_FitsPacked1 (t : Tr) (e : El) (w : World) (hF : Fit t) (hl : LsAt w t.l e) (hel : e.lt w.heap.size) (hT : TabUP w) :
    Calls Tryd.prog 58 #[trV t e] w fun r w' => r = .returned (.bool (fitPackB t)) ∧ Below w.heap.size w w' := by
  have kb := Below.one w (.cells (valCells t e) 29)
  have hB := Blk.new w 29 (valCells t e)
  have hoe := i_OnceEach t e _ hF (hl.below hel kb) (hel.mono kb.size)
  have hx := ((Tr.wf_iff t).1 hF.1).2.2.1.2
  have hno := @fitPack_no t
  have hyes := @fitPack_yes t
  have hen := hl.len
  have hm := hF.len
  rw [hen] at hm
  have hmf := fun w1 => i_MarkFor t.k t.n t.x t.s e.A e.n e.c w1 hx (by omega)
  rw [hen] at hyes
  have hmo := fun w1 => i_MarkOk (markFor t.k t.n t.x t.s.size e.n).1 (markFor t.k t.n t.x t.s.size e.n).2 w1
  clear hx hen hl hF hm
  by_cases h6 : t.k = 6
  · rw [hno (.inl h6)]
    have q6 : (t.k == 6) = true := by simpa using h6
    clear hno hyes hoe hmf hmo
    go_enter Tryd.func58, Tryd.ntmps58
    go_wp2_with fail
    go_ret
    exact ⟨rfl, Below.one _ _⟩
  by_cases h11 : t.k = 11
  · rw [hno (.inr h11)]
    have q6 : (t.k == 11) = true := by simpa using h11
    clear hno hyes hoe hmf hmo h6
    go_enter Tryd.func58, Tryd.ntmps58
    go_wp2_with fail
    go_ret
    exact ⟨rfl, Below.one _ _⟩
  rw [hyes h6 h11]
  have q6 : (t.k == 6) = false := by simpa using h6
  have q11 : (t.k == 11) = false := by simpa using h11
  have p6 : (t.k != 6) = true := by simpa using h6
  have p11 : (t.k != 11) = true := by simpa using h11
  generalize markOk (markFor t.k t.n t.x t.s.size e.n).1 (markFor t.k t.n t.x t.s.size e.n).2 = M at hmo
  generalize (markFor t.k t.n t.x t.s.size e.n).1 = m1 at hmf hmo
  generalize (markFor t.k t.n t.x t.s.size e.n).2 = m2 at hmf hmo
  clear hno hyes
  cases hq : onceL (namesT t) with
  | false =>
    rw [hq] at hoe
    clear hq hmf hmo
    go_enter Tryd.func58, Tryd.ntmps58
    go_wp2_with (go_at_call 59; refine hoe.mono ?_; rintro r w1 ⟨rfl, hb⟩)
    go_ret
    exact ⟨rfl, kb.up hb⟩
  | true =>
    rw [hq] at hoe
    clear hq
    go_enter Tryd.func58, Tryd.ntmps58
    go_wp2_with (first
      | (go_at_call 59; refine hoe.mono ?_; rintro r w1 ⟨rfl, hb⟩; obtain ⟨q0, q1, q2, q3, q4⟩ := (hB.below hb hB.lt).boxV)
      | (go_at_call 61; refine (hmf _).mono ?_; rintro r w2 ⟨rfl, hb2⟩)
      | (go_at_call 60; refine (hmo _).mono ?_; rintro r w3 ⟨rfl, hb3⟩))
    go_ret
    exact ⟨rfl, ((kb.up hb).up hb2).up hb3⟩
def LpSays (t : Tr) : Prop := Fit t → ∀ (e : El) (w : World), LsAt w t.l e → e.lt w.heap.size → TabUP w →
  Calls Tryd.prog 57 #[trV t e] w fun r w' => r = .returned (.bool (allT fitPackB t)) ∧ Below w.heap.size w w'
set_option maxHeartbeats 8000000 in
theorem s_l16Fits (t : Tr) : LpSays t := by
  refine Tr.ind (P := LpSays) (fun t ih => ?_) t
  intro hF e w hl hel hT
  have hwf := (Tr.wf_iff t).1 hF.1
  have hlen := hF.len
  have hsz := hF.size
  have hv := allT_eq fitPackB t
  have hkid := fun u hu => @Fit.kid t u hF hu
  have hF0 := hF
  obtain ⟨k, n, x, s, l⟩ := t
  obtain ⟨eA, en, ec, efp⟩ := e
  simp only at hwf hlen hsz hv hl ih hkid
  have hen : l.length = en := hl.len
  rw [hen] at hlen
  obtain ⟨hk, hn, hx, _, _⟩ := hwf
  obtain ⟨V, hV⟩ : ∃ V, allT fitPackB ⟨k, n, x, s, l⟩ = V := ⟨_, rfl⟩
  rw [hV] at hv ⊢
  obtain ⟨O, hO⟩ : ∃ O, fitPackB ⟨k, n, x, s, l⟩ = O := ⟨_, rfl⟩
  rw [hO] at hv
  have HO := Lib.hid hO
  have HV : Hid (V = (O && (l.drop 0).all (allT fitPackB))) := Lib.hid (by rw [List.drop_zero]; exact hv)
  have k1 := Below.one w (.cells #[.int .i64 k, .int .i64 n, .int .i64 x, .string s, .slice eA en ec] 29)
  have hB := Blk.new w 29 #[.int .i64 k, .int .i64 n, .int .i64 x, .string s, .slice eA en ec]
  clear hv hV hO
  go_enter Tryd.func57, Tryd.ntmps57
  go_wp2_with fail
  go_loopg [3] en (fun f z wr => ∃ j : Nat, j + f = en ∧ z = .int .i64 j ∧ Hid (V = (O && (l.drop j).all (allT fitPackB))) ∧ Blk wr w.heap.size 29 #[.int .i64 k, .int .i64 n, .int .i64 x, .string s, .slice eA en ec] ∧ Below w.heap.size w wr)
  case atStart => exact ⟨0, by omega, rfl, HV, hB, k1⟩
  case round =>
    obtain ⟨j, hjf, rfl, hH, hBr, hb⟩ := hrel
    clear HV hB k1
    have hz : w.heap.size < wr.heap.size := hBr.lt
    have p0 := hBr.cell 0
    have p1 := hBr.cell 1
    have p2 := hBr.cell 2
    have p3 := hBr.cell 3
    have p4 := hBr.cell 4
    by_cases hlt : j < en
    · obtain ⟨f, rfl⟩ : ∃ f, gk = f + 1 := ⟨gk - 1, by omega⟩
      obtain ⟨g, o, u, hj, hAe, hgm, ⟨c0, c1, c2, c3, c4⟩, hch, hsub⟩ := (hl.below hel hb).elem hlt
      have hAe : eA = some ⟨g, o, none⟩ := hAe
      subst hAe
      have hul : u.lt wr.heap.size := fun y hy => Nat.lt_of_lt_of_le (hel y (hsub y hy)) hb.size
      have hih := ih l[j] (List.getElem_mem hj) (hkid _ (List.getElem_mem hj)) u wr hch hul (hT.below hb)
      have hd : (l.drop j).all (allT fitPackB) = (allT fitPackB l[j] && (l.drop (j + 1)).all (allT fitPackB)) := by rw [List.drop_eq_getElem_cons hj]; rfl
      have hh := hH.out
      rw [hd] at hh
      have HH : Hid (V = (O && (allT fitPackB l[j] && (l.drop (j + 1)).all (allT fitPackB)))) := Lib.hid hh
      clear ih hch hd hh hH hkid hF hF0
      cases hq : allT fitPackB l[j] with
      | false =>
        rw [hq] at hih HH
        clear hq
        go_wp2_with (go_at_call 57; refine hih.mono ?_; rintro r w2 ⟨rfl, hb2⟩)
        go_ret
        exact ⟨ret_bool (by rw [HH.out]; simp), hb.up hb2⟩
      | true =>
        rw [hq] at hih HH
        clear hq
        have HH2 : Hid (V = (O && (l.drop (j + 1)).all (allT fitPackB))) := Lib.hid (by rw [HH.out]; simp)
        clear HH
        go_wp2_with (go_at_call 57; refine hih.mono ?_; rintro r w2 ⟨rfl, hb2⟩)
        go_roundg f
        case measure => omega
        case rel => exact ⟨j + 1, by omega, by go_num, HH2, hBr.below hb2 hz, hb.up hb2⟩
    · have hh := hH.out
      rw [List.drop_eq_nil_of_le (by omega)] at hh
      have hT2 := hT.below hb
      have HV : Hid (V = O) := Lib.hid (by rw [hh]; simp)
      have hl2 := hl.below hel hb
      have hel2 := hel.mono hb.size
      clear hh hH ih hT hkid hl hel
      have hjn : ¬ ((j : Int) < (en : Int)) := by omega
      have hoe := s_OnceEach ⟨k, n, x, s, l⟩ ⟨eA, en, ec, efp⟩ wr hF0 hl2 hel2
      have hno := @fitPack_no ⟨k, n, x, s, l⟩
      have hyes := @fitPack_yes ⟨k, n, x, s, l⟩
      simp only at hno hyes
      rw [hen] at hyes
      have hmf := fun w1 => s_MarkFor k n x s eA en ec w1 hx.2 (by omega)
      have hmo := fun w1 => s_MarkOk (markFor k n x s.size en).1 (markFor k n x s.size en).2 w1
      have hV2 := HV.out
      rw [← HO.out] at hV2
      clear HO HV hF hF0 hl2 hel2 hT2
      by_cases h6 : k = 6
      · rw [hno (.inl h6)] at hV2
        have HV2 := Lib.hid hV2
        have q6 : (k == 6) = true := by simpa using h6
        clear hno hyes hoe hmf hmo hV2
        go_wp2_with fail
        go_ret
        exact ⟨ret_bool HV2.out.symm, hb⟩
      by_cases h11 : k = 11
      · rw [hno (.inr h11)] at hV2
        have HV2 := Lib.hid hV2
        have q6 : (k == 11) = true := by simpa using h11
        clear hno hyes hoe hmf hmo h6 hV2
        go_wp2_with fail
        go_ret
        exact ⟨ret_bool HV2.out.symm, hb⟩
      rw [hyes h6 h11] at hV2
      have q6 : (k == 6) = false := by simpa using h6
      have q11 : (k == 11) = false := by simpa using h11
      have p6 : (k != 6) = true := by simpa using h6
      have p11 : (k != 11) = true := by simpa using h11
      generalize markOk (markFor k n x s.size en).1 (markFor k n x s.size en).2 = M at hmo hV2
      generalize (markFor k n x s.size en).1 = m1 at hmf hmo
      generalize (markFor k n x s.size en).2 = m2 at hmf hmo
      clear hno hyes
      generalize onceL (namesT ⟨k, n, x, s, l⟩) = R at hoe hV2
      have HV2 := Lib.hid hV2
      clear hV2
      cases R with
      | false =>
        clear hmf hmo
        go_wp2_with (go_at_call 92; refine hoe.mono ?_; rintro r w1 ⟨rfl, hb2⟩)
        go_ret
        exact ⟨ret_bool HV2.out.symm, hb.up hb2⟩
      | true =>
        go_wp2_with (first
          | (go_at_call 92; refine hoe.mono ?_; rintro r w1 ⟨rfl, hb2⟩; obtain ⟨c2, f2⟩ := bcell hb2)
          | (go_at_call 94; refine (hmf _).mono ?_; rintro r w2 ⟨rfl, hb3⟩)
          | (go_at_call 93; refine (hmo _).mono ?_; rintro r w3 ⟨rfl, hb4⟩))
        go_ret
        exact ⟨ret_bool (by rw [HV2.out]; rfl), ((hb.up hb2).up hb3).up hb4⟩
theorem enters_FitsPacked1 : EntersF 58 := enters_of Tryd.func58 (by kernel_rfl) rfl
noncomputable def fitsPacked (t : Tr) : Bool := valOk t && allT fitPackB t
theorem i_FitsPacked (t : Tr) (e : El) (w : World) (hF : Fit t) (hl : LsAt w t.l e) (hel : e.lt w.heap.size) (hT : TabUP w) :
    Calls Tryd.prog 25 #[trV t e] w fun r w' => r = .returned (.bool (fitsPacked t)) ∧ Below w.heap.size w w' := by
  have kb := Below.one w (.cells (valCells t e) 29)
  have hB := Blk.new w 29 (valCells t e)
  have hv := i_ValOk t e _ hF (hl.below hel kb) (hel.mono kb.size) (hT.below kb)
  have h := fun w2 (hb : Below w.heap.size w w2) => i_every 58 enters_FitsPacked1 enters_every1 fitPackB Fit TabUP (fun _ _ h hb => h.below hb) (fun _ _ h hu => h.kid hu) (fun u e w hu hl hel hT => i_FitsPacked1 u e w hu hl hel hT) t hF e w2 (hl.below hel hb) (hel.mono hb.size) (hT.below hb)
  unfold fitsPacked
  generalize allT fitPackB t = R at h
  cases hq : valOk t with
  | false =>
    rw [hq] at hv
    clear hq h
    go_enter Tryd.func25, Tryd.ntmps25
    go_wp2_with (go_at_call 43; refine hv.mono ?_; rintro r w1 ⟨rfl, hb⟩)
    go_ret
    exact ⟨rfl, kb.up hb⟩
  | true =>
    rw [hq] at hv
    clear hq
    go_enter Tryd.func25, Tryd.ntmps25
    go_wp2_with (first
      | (go_at_call 43; refine hv.mono ?_; rintro r w1 ⟨rfl, hb⟩; obtain ⟨q0, q1, q2, q3, q4⟩ := (hB.below hb hB.lt).boxV)
      | (go_at_call 44; refine (h _ (kb.up hb)).mono ?_; rintro r w2 ⟨rfl, hb2⟩))
    go_ret
    exact ⟨rfl, (kb.up hb).up hb2⟩
theorem s_FitsPacked (t : Tr) (e : El) (w : World) (hF : Fit t) (hl : LsAt w t.l e) (hel : e.lt w.heap.size) (hT : TabUP w) :
    Calls Tryd.prog 24 #[trV t e] w fun r w' => r = .returned (.bool (fitsPacked t)) ∧ Below w.heap.size w w' := by
  have kb := Below.one w (.cells (valCells t e) 29)
  have hB := Blk.new w 29 (valCells t e)
  have hv := s_ValOk t hF e _ (hl.below hel kb) (hel.mono kb.size) (hT.below kb)
  have h := fun w2 (hb : Below w.heap.size w w2) => s_l16Fits t hF e w2 (hl.below hel hb) (hel.mono hb.size) (hT.below hb)
  unfold fitsPacked
  generalize allT fitPackB t = R at h
  cases hq : valOk t with
  | false =>
    rw [hq] at hv
    clear hq h
    go_enter Tryd.func24, Tryd.ntmps24
    go_wp2_with (go_at_call 40; refine hv.mono ?_; rintro r w1 ⟨rfl, hb⟩)
    go_ret
    exact ⟨rfl, kb.up hb⟩
  | true =>
    rw [hq] at hv
    clear hq
    go_enter Tryd.func24, Tryd.ntmps24
    go_wp2_with (first
      | (go_at_call 40; refine hv.mono ?_; rintro r w1 ⟨rfl, hb⟩; obtain ⟨q0, q1, q2, q3, q4⟩ := (hB.below hb hB.lt).boxV)
      | (go_at_call 57; refine (h _ (kb.up hb)).mono ?_; rintro r w2 ⟨rfl, hb2⟩))
    go_ret
    exact ⟨rfl, (kb.up hb).up hb2⟩
end Go.Proofs.YticejlknbfhndaaDoor
