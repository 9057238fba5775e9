/- FitsTight: both sides. Written by gen/fits.py. -/
import Derived.Test.YticejlknbfhndaaDoorOwnS
import Derived.Test.YticejlknbfhndaaDoorOnceS
import Derived.Test.YticejlknbfhndaaDoorLessTight
set_option linter.unusedVariables false
set_option maxRecDepth 100000
set_option linter.unusedSimpArgs false
namespace Go.Proofs.YticejlknbfhndaaDoor
open Go.RowKit

noncomputable def lessB (a b : Tr) : Bool := ltB (tightT false false a) (tightT false false b)
/-- Each is less than the next one. -/
noncomputable def ordF : List Tr → Bool
  | a :: b :: r => lessB a b && ordF (b :: r)
  | _ => true
theorem ordF_step {l : List Tr} {j : Nat} (h : j + 1 < l.length) : ordF (l.drop j) = (lessB l[j] l[j + 1] && ordF (l.drop (j + 1))) := by
  rw [List.drop_eq_getElem_cons (show j < l.length by omega), List.drop_eq_getElem_cons h]
  rfl
theorem ordF_end {l : List Tr} {j : Nat} (h : l.length ≤ j + 1) : ordF (l.drop j) = true := by
  rcases Nat.lt_or_ge j l.length with h1 | h1
  · rw [List.drop_eq_getElem_cons h1, List.drop_eq_nil_of_le h]; rfl
  · rw [List.drop_eq_nil_of_le h1]; rfl
noncomputable def fitTightB (t : Tr) : Bool := ordF (namesT t) && !(t.k == 6)
theorem namesT_kid {t u : Tr} (h : Fit t) (hu : u ∈ namesT t) : Fit u := h.kid (names_kid hu)
set_option maxHeartbeats 4000000 in
theorem i_FitsTight1 (t : Tr) (e : El) (w : World) (hF : Fit t) (hl : LsAt w t.l e) (hel : e.lt w.heap.size) (hT : TabUP w) :
    Calls Tryd.prog 63 #[trV t e] w fun r w' => r = .returned (.bool (fitTightB t)) ∧ Below w.heap.size w w' := by
  have kb := Below.one w (.cells (valCells t e) 29)
  have hB := Blk.new w 29 (valCells t e)
  have hnm := i_names t e _ hF (hl.below hel kb) (hel.mono kb.size)
  have hfk := fun u (hu : u ∈ namesT t) => namesT_kid hF hu
  have hnl := names_len t
  have hln := hF.len
  have hfb : fitTightB t = (ordF (namesT t) && !(t.k == 6)) := rfl
  rw [hfb]
  clear hfb
  obtain ⟨m, hm⟩ : ∃ m, namesT t = m := ⟨_, rfl⟩
  rw [hm] at hnm hnl hfk ⊢
  have HV0 : Hid (ordF m = ordF (m.drop 0)) := Lib.hid (by rw [List.drop_zero])
  clear hm hl hF hel
  go_enter Tryd.func63, Tryd.ntmps63
  go_wp2_with (go_at_call 64; refine hnm.mono ?_; rintro r w1 ⟨⟨A, n, c, fp⟩, rfl, h1, h2, hb1⟩)
  have hmn : m.length = n := h1.len
  have kb1 := kb.up hb1
  have hB1 := hB.below hb1 hB.lt
  have hB1l := hB1.lt
  clear hnm hB
  go_loopg [4] n (fun f v4 wr => ∃ (j : Nat) (z : Int), n ≤ j + 1 + f ∧ j ≤ n ∧ z = j + 1 ∧ v4 = .int .i64 z ∧ Hid (ordF m = ordF (m.drop j)) ∧ Below w1.heap.size w1 wr)
  case atStart => exact ⟨0, 1, by omega, by omega, rfl, rfl, HV0, Below.refl _ _⟩
  case round =>
    obtain ⟨j, z, hjf, hjn, hz, rfl, hH, hbr⟩ := hrel
    have HZ := Lib.hid hz
    clear HV0
    by_cases hlt : j + 1 < n
    · obtain ⟨f, rfl⟩ : ∃ f, gk = f + 1 := ⟨gk - 1, by omega⟩
      obtain ⟨g, o, u, hj, hAe, hgm, hx1, hch1, hsub1⟩ := (h1.below h2 hbr).elem (j := j) (by show j < n; omega)
      have hAe : A = some ⟨g, o, none⟩ := hAe
      subst hAe
      obtain ⟨g', o', v, hi, hAe', hgm', hx2, hch2, hsub2⟩ := (h1.below h2 hbr).elem (j := j + 1) (by show j + 1 < n; omega)
      simp only [Option.some.injEq, Addr.mk.injEq, and_true] at hAe'
      obtain ⟨rfl, rfl⟩ := hAe'
      have hG : g < w1.heap.size := h2 g hgm
      have hU1 : u.lt w1.heap.size := fun y hy => h2 y (hsub1 y hy)
      have hU2 : v.lt w1.heap.size := fun y hy => h2 y (hsub2 y hy)
      have hS : OnceHeld w1 g (o + j * 5) m[j] u g (o + (j + 1) * 5) m[j + 1] v wr := ⟨hx1, hx2, hch1, hch2, hbr⟩
      have hfj := hfk m[j] (List.getElem_mem hj)
      have hfi := hfk m[j + 1] (List.getElem_mem hi)
      have hcall : ∀ w', OnceHeld w1 g (o + j * 5) m[j] u g (o + (j + 1) * 5) m[j + 1] v w' → Calls Tryd.prog 65 #[.agg #[.int .i64 m[j].k, .int .i64 m[j].n, .int .i64 m[j].x, .string m[j].s, .slice u.A u.n u.c], .agg #[.int .i64 m[j + 1].k, .int .i64 m[j + 1].n, .int .i64 m[j + 1].x, .string m[j + 1].s, .slice v.A v.n v.c]] w' fun r w2 => r = .returned (.bool (lessB m[j] m[j + 1])) ∧ Below w'.heap.size w' w2 :=
        fun w' hs => i_LessTight m[j] m[j + 1] u v w' hfj.1 hfi.1 hs.2.2.1 hs.2.2.2.1 (hU1.mono hs.2.2.2.2.size) (hU2.mono hs.2.2.2.2.size) hfj.2 hfi.2
      have hS2 : ∀ wa wb, Below wa.heap.size wa wb → OnceHeld w1 g (o + j * 5) m[j] u g (o + (j + 1) * 5) m[j + 1] v wa → OnceHeld w1 g (o + j * 5) m[j] u g (o + (j + 1) * 5) m[j + 1] v wb := fun wa wb hb h => once_next hG hG hU1 hU2 hb h
      have hS1 : OnceHeld w1 g (o + j * 5) m[j] u g (o + (j + 1) * 5) m[j + 1] v wr.drew := hS2 _ _ (Below.refl _ _).drew hS
      have hh := hH.out
      rw [ordF_step hi] at hh
      have HH := Lib.hid hh
      have HJF := Lib.hid hjf
      have hjl : j < n := by omega
      have hz0 : 0 ≤ z := by omega
      have hzn : z < (n : Int) := by omega
      have hzn9 : z ≤ 9223372036854775806 := by omega
      have hwr : IntKind.i64.wrap (z - 1) = (j : Int) := by rw [IntKind.wrap_i64]; omega
      have hzt : z.toNat = j + 1 := by omega
      clear hz
      clear hh hH hjf hx1 hx2 hch1 hch2 hbr hfk hfj hfi
      cases hq : lessB m[j] m[j + 1] with
      | false =>
        rw [hq] at hcall HH
        clear hq
        go_wp2_with fail
        go_region_held3 (fun w' => OnceHeld w1 g (o + j * 5) m[j] u g (o + (j + 1) * 5) m[j + 1] v w')
          (first | exact hS1 | (refine hS2 _ _ hb2 ?_; assumption))
          (first | (go_at_call 65; refine (hcall _ (by assumption)).mono ?_; rintro r w2 ⟨rfl, hb2⟩))
        rename_i hHeld
        clear hcall hS1 hS2 hS
        go_wp2
        go_ret
        exact ⟨ret_bool (by rw [HH.out]; rfl), kb1.up hHeld.2.2.2.2⟩
      | true =>
        rw [hq] at hcall HH
        have HH2 : Hid (ordF m = ordF (m.drop (j + 1))) := Lib.hid (by rw [HH.out]; rfl)
        clear hq HH
        go_wp2_with fail
        go_region_held3 (fun w' => OnceHeld w1 g (o + j * 5) m[j] u g (o + (j + 1) * 5) m[j + 1] v w')
          (first | exact hS1 | (refine hS2 _ _ hb2 ?_; assumption))
          (first | (go_at_call 65; refine (hcall _ (by assumption)).mono ?_; rintro r w2 ⟨rfl, hb2⟩))
        rename_i hHeld
        clear hcall hS1 hS2 hS
        go_wp2
        go_roundg f
        case measure => have := HJF.out; omega
        case rel => exact ⟨j + 1, z + 1, by have := HJF.out; omega, by omega, by have := HZ.out; omega, by first | rfl | go_num, HH2, hHeld.2.2.2.2⟩
    · have hh := hH.out
      rw [ordF_end (by omega)] at hh
      have HH := Lib.hid hh
      have hlt2 : ¬ (z < (n : Int)) := by omega
      clear hz
      obtain ⟨q0, q1, q2, q3, q4⟩ := (hB1.below hbr hB1l).boxV
      have h66 : (t.k != 6) = !(t.k == 6) := rfl
      clear hh hH hfk
      go_wp2_with fail
      go_ret
      exact ⟨ret_bool (by rw [HH.out]; simp [bne]), kb1.up hbr⟩
def LtSays (t : Tr) : Prop := Fit t → ∀ (e : El) (w : World), LsAt w t.l e → e.lt w.heap.size → TabUP w →
  Calls Tryd.prog 62 #[trV t e] w fun r w' => r = .returned (.bool (allT fitTightB t)) ∧ Below w.heap.size w w'
set_option maxHeartbeats 8000000 in
theorem s_l13Fits (t : Tr) : LtSays t := by
  refine Tr.ind (P := LtSays) (fun t ih => ?_) t
  intro hF e w hl hel hT
  have hwf := (Tr.wf_iff t).1 hF.1
  have hlen := hF.len
  have hsz := hF.size
  have hv := allT_eq fitTightB t
  have hkid := fun u hu => @Fit.kid t u hF hu
  have hF0 := hF
  obtain ⟨k, n, x, s, l⟩ := t
  obtain ⟨eA, en, ec, efp⟩ := e
  simp only at hwf hlen hsz hv hl ih hkid
  have hen : l.length = en := hl.len
  rw [hen] at hlen
  obtain ⟨hk, hn, hx, _, _⟩ := hwf
  obtain ⟨V, hV⟩ : ∃ V, allT fitTightB ⟨k, n, x, s, l⟩ = V := ⟨_, rfl⟩
  rw [hV] at hv ⊢
  obtain ⟨O, hO⟩ : ∃ O, fitTightB ⟨k, n, x, s, l⟩ = O := ⟨_, rfl⟩
  rw [hO] at hv
  have HO := Lib.hid hO
  have HV : Hid (V = (O && (l.drop 0).all (allT fitTightB))) := Lib.hid (by rw [List.drop_zero]; exact hv)
  have k1 := Below.one w (.cells #[.int .i64 k, .int .i64 n, .int .i64 x, .string s, .slice eA en ec] 29)
  have hB := Blk.new w 29 #[.int .i64 k, .int .i64 n, .int .i64 x, .string s, .slice eA en ec]
  clear hv hV hO
  go_enter Tryd.func62, Tryd.ntmps62
  go_wp2_with fail
  go_loopg [3] en (fun f z wr => ∃ j : Nat, j + f = en ∧ z = .int .i64 j ∧ Hid (V = (O && (l.drop j).all (allT fitTightB))) ∧ Blk wr w.heap.size 29 #[.int .i64 k, .int .i64 n, .int .i64 x, .string s, .slice eA en ec] ∧ Below w.heap.size w wr)
  case atStart => exact ⟨0, by omega, rfl, HV, hB, k1⟩
  case round =>
    obtain ⟨j, hjf, rfl, hH, hBr, hb⟩ := hrel
    clear HV hB k1
    have hz : w.heap.size < wr.heap.size := hBr.lt
    have p0 := hBr.cell 0
    have p1 := hBr.cell 1
    have p2 := hBr.cell 2
    have p3 := hBr.cell 3
    have p4 := hBr.cell 4
    by_cases hlt : j < en
    · obtain ⟨f, rfl⟩ : ∃ f, gk = f + 1 := ⟨gk - 1, by omega⟩
      obtain ⟨g, o, u, hj, hAe, hgm, ⟨c0, c1, c2, c3, c4⟩, hch, hsub⟩ := (hl.below hel hb).elem hlt
      have hAe : eA = some ⟨g, o, none⟩ := hAe
      subst hAe
      have hul : u.lt wr.heap.size := fun y hy => Nat.lt_of_lt_of_le (hel y (hsub y hy)) hb.size
      have hih := ih l[j] (List.getElem_mem hj) (hkid _ (List.getElem_mem hj)) u wr hch hul (hT.below hb)
      have hd : (l.drop j).all (allT fitTightB) = (allT fitTightB l[j] && (l.drop (j + 1)).all (allT fitTightB)) := by rw [List.drop_eq_getElem_cons hj]; rfl
      have hh := hH.out
      rw [hd] at hh
      have HH : Hid (V = (O && (allT fitTightB l[j] && (l.drop (j + 1)).all (allT fitTightB)))) := Lib.hid hh
      clear ih hch hd hh hH hkid hF hF0
      cases hq : allT fitTightB l[j] with
      | false =>
        rw [hq] at hih HH
        clear hq
        go_wp2_with (go_at_call 62; refine hih.mono ?_; rintro r w2 ⟨rfl, hb2⟩)
        go_ret
        exact ⟨ret_bool (by rw [HH.out]; simp), hb.up hb2⟩
      | true =>
        rw [hq] at hih HH
        clear hq
        have HH2 : Hid (V = (O && (l.drop (j + 1)).all (allT fitTightB))) := Lib.hid (by rw [HH.out]; simp)
        clear HH
        go_wp2_with (go_at_call 62; refine hih.mono ?_; rintro r w2 ⟨rfl, hb2⟩)
        go_roundg f
        case measure => omega
        case rel => exact ⟨j + 1, by omega, by go_num, HH2, hBr.below hb2 hz, hb.up hb2⟩
    · have hh := hH.out
      rw [List.drop_eq_nil_of_le (by omega)] at hh
      have hT2 := hT.below hb
      have HV : Hid (V = O) := Lib.hid (by rw [hh]; simp)
      have hl2 := hl.below hel hb
      have hel2 := hel.mono hb.size
      have HL := Lib.hid hl
      have HEL := Lib.hid hel
      clear hh hH hT
      have hjn : ¬ ((j : Int) < (en : Int)) := by omega
      have hV2 := HV.out
      rw [← HO.out] at hV2
      have hfb : fitTightB ⟨k, n, x, s, l⟩ = (ordF (namesT ⟨k, n, x, s, l⟩) && !(k == 6)) := rfl
      have hfk := fun u (hu : u ∈ l) => @Fit.kid ⟨k, n, x, s, l⟩ u hF0 hu
      rw [hfb] at hV2
      clear hfb HO HV hF hF0 hT2
      have h66 : (k != 6) = !(k == 6) := rfl
      obtain ⟨wo, rfl⟩ : ∃ wo : World, wo = wr := ⟨_, rfl⟩
      by_cases h10 : k = 10
      rotate_left
      · have q10 : (k == 10) = false := by simpa using h10
        have hnm : namesT ⟨k, n, x, s, l⟩ = [] := by unfold namesT; rw [if_neg h10]
        rw [hnm] at hV2
        have HV2 : Hid (V = !(k == 6)) := Lib.hid (by rw [hV2]; rfl)
        have hz2 : (2 : Int) < (en : Int) ∨ ¬ (2 : Int) < (en : Int) := by omega
        clear hnm hV2 hfk h10 hl2 hel2
        rcases hz2 with hz2 | hz2
        all_goals
          go_wp2_with fail
          go_loopg [4] 0 (fun f v4 wr => v4 = .int .i64 2 ∧ wr = wo)
          case atStart => exact ⟨rfl, rfl⟩
          case round =>
            obtain ⟨rfl, rfl⟩ := hrel
            go_wp2_with fail
            go_ret
            exact ⟨ret_bool HV2.out.symm, hb⟩
      · subst h10
        have hnm : namesT ⟨10, n, x, s, l⟩ = evens l := rfl
        rw [hnm] at hV2
        have HV2 : Hid (V = ordF ((evens l).drop 0)) := Lib.hid (by rw [hV2, List.drop_zero]; simp)
        have hel3 := evens_len l
        rw [hen] at hel3
        clear hnm hV2 h66
        have hl0 : LsAt w l ⟨eA, en, ec, efp⟩ := HL.out
        have hel0 : (⟨eA, en, ec, efp⟩ : El).lt w.heap.size := HEL.out
        go_wp2_with fail
        go_loopg [4] en (fun f v4 wr => ∃ (j : Nat) (z : Int), en ≤ 2 * j + 1 + f ∧ 2 * j ≤ en + 1 ∧ z = 2 * j + 2 ∧ v4 = .int .i64 z ∧ Hid (V = ordF ((evens l).drop j)) ∧ wr.cell? ⟨w.heap.size, 4, none⟩ = some (.slice eA en ec) ∧ wr.cell? ⟨w.heap.size, 0, none⟩ = some (.int .i64 10) ∧ w.heap.size + 1 ≤ wr.heap.size ∧ Below w.heap.size w wr)
        case atStart => exact ⟨0, 2, by omega, by omega, rfl, rfl, HV2, p4, p0, by omega, hb⟩
        case round =>
          obtain ⟨j, z, hjf, hjn, hzj, rfl, hH, p4', p0', hzs, hbr⟩ := hrel
          have HZ := Lib.hid hzj
          clear HV2 p4 p0 p1 p2 p3 hl2 hel2 hb
          by_cases hlt2 : 2 * j + 2 < en
          · obtain ⟨f, rfl⟩ : ∃ f, gk = f + 1 := ⟨gk - 1, by omega⟩
            obtain ⟨g, o, u, hj, hAe, hgm, hx1, hch1, hsub1⟩ := (hl0.below hel0 hbr).elem (j := 2 * j) (by show 2 * j < en; omega)
            have hAe : eA = some ⟨g, o, none⟩ := hAe
            subst hAe
            obtain ⟨g', o', v, hi, hAe', hgm', hx2, hch2, hsub2⟩ := (hl0.below hel0 hbr).elem (j := 2 * j + 2) (by show 2 * j + 2 < en; omega)
            simp only [Option.some.injEq, Addr.mk.injEq, and_true] at hAe'
            obtain ⟨rfl, rfl⟩ := hAe'
            have hG : g < w.heap.size := hel0 g hgm
            have hU1 : u.lt w.heap.size := fun y hy => hel0 y (hsub1 y hy)
            have hU2 : v.lt w.heap.size := fun y hy => hel0 y (hsub2 y hy)
            have hS : SameHeld w w.heap.size w.heap.size (.slice (some ⟨g, o, none⟩) en ec) (.slice (some ⟨g, o, none⟩) en ec) g (o + 2 * j * 5) l[2 * j] u g (o + (2 * j + 2) * 5) l[2 * j + 2] v wr := ⟨⟨p4', p4'⟩, hx1, hx2, hch1, hch2, hbr⟩
            have hfj := hfk l[2 * j] (List.getElem_mem hj)
            have hfi := hfk l[2 * j + 2] (List.getElem_mem hi)
            have hcall : ∀ w', SameHeld w w.heap.size w.heap.size (.slice (some ⟨g, o, none⟩) en ec) (.slice (some ⟨g, o, none⟩) en ec) g (o + 2 * j * 5) l[2 * j] u g (o + (2 * j + 2) * 5) l[2 * j + 2] v w' → Calls Tryd.prog 100 #[.agg #[.int .i64 l[2 * j].k, .int .i64 l[2 * j].n, .int .i64 l[2 * j].x, .string l[2 * j].s, .slice u.A u.n u.c], .agg #[.int .i64 l[2 * j + 2].k, .int .i64 l[2 * j + 2].n, .int .i64 l[2 * j + 2].x, .string l[2 * j + 2].s, .slice v.A v.n v.c]] w' fun r w2 => r = .returned (.bool (lessB l[2 * j] l[2 * j + 2])) ∧ Below w'.heap.size w' w2 :=
              fun w' hs => s_LessTight l[2 * j] l[2 * j + 2] u v w' hfj.1 hfi.1 hs.2.2.2.1 hs.2.2.2.2.1 (hU1.mono hs.2.2.2.2.2.size) (hU2.mono hs.2.2.2.2.2.size) hfj.2 hfi.2
            have hS2 : ∀ wa wb, Below wa.heap.size wa wb → (SameHeld w w.heap.size w.heap.size (.slice (some ⟨g, o, none⟩) en ec) (.slice (some ⟨g, o, none⟩) en ec) g (o + 2 * j * 5) l[2 * j] u g (o + (2 * j + 2) * 5) l[2 * j + 2] v wa ∧ wa.cell? ⟨w.heap.size, 0, none⟩ = some (.int .i64 10) ∧ w.heap.size + 1 ≤ wa.heap.size) → (SameHeld w w.heap.size w.heap.size (.slice (some ⟨g, o, none⟩) en ec) (.slice (some ⟨g, o, none⟩) en ec) g (o + 2 * j * 5) l[2 * j] u g (o + (2 * j + 2) * 5) l[2 * j + 2] v wb ∧ wb.cell? ⟨w.heap.size, 0, none⟩ = some (.int .i64 10) ∧ w.heap.size + 1 ≤ wb.heap.size) :=
              fun wa wb hb h => ⟨same_next (B := w.heap.size + 1) (by omega) (by omega) hG hG hU1 hU2 h.2.2 hb h.1, (hb.cell (p := ⟨w.heap.size, 0, none⟩) (by show w.heap.size < _; omega)).trans h.2.1, Nat.le_trans h.2.2 hb.size⟩
            have hS1 : SameHeld w w.heap.size w.heap.size (.slice (some ⟨g, o, none⟩) en ec) (.slice (some ⟨g, o, none⟩) en ec) g (o + 2 * j * 5) l[2 * j] u g (o + (2 * j + 2) * 5) l[2 * j + 2] v wr.drew ∧ wr.drew.cell? ⟨w.heap.size, 0, none⟩ = some (.int .i64 10) ∧ w.heap.size + 1 ≤ wr.drew.heap.size := hS2 _ _ (Below.refl _ _).drew ⟨hS, p0', hzs⟩
            have hje : j + 1 < (evens l).length := by omega
            have ev0 : (evens l)[j] = l[2 * j] := by
              have := evens_get l j
              rw [List.getElem?_eq_getElem (by omega), List.getElem?_eq_getElem hj] at this
              exact Option.some.inj this
            have ev1 : (evens l)[j + 1] = l[2 * j + 2] := by
              have := evens_get l (j + 1)
              rw [List.getElem?_eq_getElem hje, show 2 * (j + 1) = 2 * j + 2 by omega, List.getElem?_eq_getElem hi] at this
              exact Option.some.inj this
            have hh := hH.out
            rw [ordF_step hje, ev0, ev1] at hh
            have HH := Lib.hid hh
            have HJF := Lib.hid hjf
            have hjl : 2 * j < en := by omega
            have hz0 : 0 ≤ z := by omega
            have hzn : z < (en : Int) := by omega
            have hzn9 : z ≤ 9223372036854775805 := by omega
            obtain ⟨y, hy⟩ : ∃ y : Int, y = 2 * j := ⟨_, rfl⟩
            have hwr : IntKind.i64.wrap (z - 2) = y := by rw [IntKind.wrap_i64]; omega
            have hyt : y.toNat = 2 * j := by omega
            have hy0 : 0 ≤ y := by omega
            have hyn : y < (en : Int) := by omega
            clear hy
            have hzt : z.toNat = 2 * j + 2 := by omega
            clear hh hH hjf hx1 hx2 hch1 hch2 hbr hfk hfj hfi hzj ev0 ev1 hje ih hkid hl hel hl0 hel0
            cases hq : lessB l[2 * j] l[2 * j + 2] with
            | false =>
              rw [hq] at hcall HH
              clear hq
              go_wp2_with fail
              go_region_held3 (fun w' => SameHeld w w.heap.size w.heap.size (.slice (some ⟨g, o, none⟩) en ec) (.slice (some ⟨g, o, none⟩) en ec) g (o + 2 * j * 5) l[2 * j] u g (o + (2 * j + 2) * 5) l[2 * j + 2] v w' ∧ w'.cell? ⟨w.heap.size, 0, none⟩ = some (.int .i64 10) ∧ w.heap.size + 1 ≤ w'.heap.size)
                (first | exact hS1 | (refine hS2 _ _ hb2 ?_; assumption))
                (first | (go_at_call 100; refine (hcall _ (And.left (by assumption))).mono ?_; rintro r w2 ⟨rfl, hb2⟩))
              rename_i hHeld
              clear hcall hS1 hS2 hS
              go_wp2
              go_ret
              exact ⟨ret_bool (by rw [HH.out]; rfl), hHeld.1.2.2.2.2.2⟩
            | true =>
              rw [hq] at hcall HH
              have HH2 : Hid (V = ordF ((evens l).drop (j + 1))) := Lib.hid (by rw [HH.out]; rfl)
              clear hq HH
              go_wp2_with fail
              go_region_held3 (fun w' => SameHeld w w.heap.size w.heap.size (.slice (some ⟨g, o, none⟩) en ec) (.slice (some ⟨g, o, none⟩) en ec) g (o + 2 * j * 5) l[2 * j] u g (o + (2 * j + 2) * 5) l[2 * j + 2] v w' ∧ w'.cell? ⟨w.heap.size, 0, none⟩ = some (.int .i64 10) ∧ w.heap.size + 1 ≤ w'.heap.size)
                (first | exact hS1 | (refine hS2 _ _ hb2 ?_; assumption))
                (first | (go_at_call 100; refine (hcall _ (And.left (by assumption))).mono ?_; rintro r w2 ⟨rfl, hb2⟩))
              rename_i hHeld
              clear hcall hS1 hS2 hS
              go_wp2
              go_roundg f
              case measure => have := HJF.out; omega
              case rel => exact ⟨j + 1, z + 2, by have := HJF.out; omega, by omega, by have := HZ.out; omega, by first | rfl | go_num, HH2, hHeld.1.1.1, hHeld.2.1, hHeld.2.2, hHeld.1.2.2.2.2.2⟩
          · have hh := hH.out
            rw [ordF_end (by omega)] at hh
            have HH := Lib.hid hh
            have hlt3 : ¬ (z < (en : Int)) := by omega
            clear hh hH hzj
            go_wp2_with fail
            go_ret
            exact ⟨ret_bool HH.out.symm, hbr⟩
theorem enters_FitsTight1 : EntersF 63 := enters_of Tryd.func63 (by kernel_rfl) rfl
noncomputable def fitsTight (t : Tr) : Bool := valOk t && allT fitTightB t
theorem i_FitsTight (t : Tr) (e : El) (w : World) (hF : Fit t) (hl : LsAt w t.l e) (hel : e.lt w.heap.size) (hT : TabUP w) :
    Calls Tryd.prog 27 #[trV t e] w fun r w' => r = .returned (.bool (fitsTight t)) ∧ Below w.heap.size w w' := by
  have kb := Below.one w (.cells (valCells t e) 29)
  have hB := Blk.new w 29 (valCells t e)
  have hv := i_ValOk t e _ hF (hl.below hel kb) (hel.mono kb.size) (hT.below kb)
  have h := fun w2 (hb : Below w.heap.size w w2) => i_every 63 enters_FitsTight1 enters_every1 fitTightB Fit TabUP (fun _ _ h hb => h.below hb) (fun _ _ h hu => h.kid hu) (fun u e w hu hl hel hT => i_FitsTight1 u e w hu hl hel hT) t hF e w2 (hl.below hel hb) (hel.mono hb.size) (hT.below hb)
  unfold fitsTight
  generalize allT fitTightB t = R at h
  cases hq : valOk t with
  | false =>
    rw [hq] at hv
    clear hq h
    go_enter Tryd.func27, Tryd.ntmps27
    go_wp2_with (go_at_call 43; refine hv.mono ?_; rintro r w1 ⟨rfl, hb⟩)
    go_ret
    exact ⟨rfl, kb.up hb⟩
  | true =>
    rw [hq] at hv
    clear hq
    go_enter Tryd.func27, Tryd.ntmps27
    go_wp2_with (first
      | (go_at_call 43; refine hv.mono ?_; rintro r w1 ⟨rfl, hb⟩; obtain ⟨q0, q1, q2, q3, q4⟩ := (hB.below hb hB.lt).boxV)
      | (go_at_call 44; refine (h _ (kb.up hb)).mono ?_; rintro r w2 ⟨rfl, hb2⟩))
    go_ret
    exact ⟨rfl, (kb.up hb).up hb2⟩
theorem s_FitsTight (t : Tr) (e : El) (w : World) (hF : Fit t) (hl : LsAt w t.l e) (hel : e.lt w.heap.size) (hT : TabUP w) :
    Calls Tryd.prog 26 #[trV t e] w fun r w' => r = .returned (.bool (fitsTight t)) ∧ Below w.heap.size w w' := by
  have kb := Below.one w (.cells (valCells t e) 29)
  have hB := Blk.new w 29 (valCells t e)
  have hv := s_ValOk t hF e _ (hl.below hel kb) (hel.mono kb.size) (hT.below kb)
  have h := fun w2 (hb : Below w.heap.size w w2) => s_l13Fits t hF e w2 (hl.below hel hb) (hel.mono hb.size) (hT.below hb)
  unfold fitsTight
  generalize allT fitTightB t = R at h
  cases hq : valOk t with
  | false =>
    rw [hq] at hv
    clear hq h
    go_enter Tryd.func26, Tryd.ntmps26
    go_wp2_with (go_at_call 40; refine hv.mono ?_; rintro r w1 ⟨rfl, hb⟩)
    go_ret
    exact ⟨rfl, kb.up hb⟩
  | true =>
    rw [hq] at hv
    clear hq
    go_enter Tryd.func26, Tryd.ntmps26
    go_wp2_with (first
      | (go_at_call 40; refine hv.mono ?_; rintro r w1 ⟨rfl, hb⟩; obtain ⟨q0, q1, q2, q3, q4⟩ := (hB.below hb hB.lt).boxV)
      | (go_at_call 62; refine (h _ (kb.up hb)).mono ?_; rintro r w2 ⟨rfl, hb2⟩))
    go_ret
    exact ⟨rfl, (kb.up hb).up hb2⟩
end Go.Proofs.YticejlknbfhndaaDoor
