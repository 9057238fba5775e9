/- NamesOf, OnceEach (spec). -/
import Derived.Test.YtgddnpglgakkdaaGreatDoorTo9M40
import Derived.Test.YtgddnpglgakkdaaGreatDoorTo9Copy
set_option linter.unusedVariables false
set_option maxRecDepth 100000
set_option linter.unusedSimpArgs false
namespace Go.Proofs.YtgddnpglgakkdaaGreatDoor
open Go.RowKit

set_option maxHeartbeats 2000000 in
theorem s_NamesOf (t : Tr) (e : El) (w : World) (hF : Fit t) (hl : LsAt w t.l e) (hel : e.lt w.heap.size) :
    Calls Tryz.prog 139 #[trV t e] w fun r w' => NamesAt w w' (namesT t) r := by
  have hlen := hF.len
  have hkf := fun u hu => @Fit.kid t u hF hu
  obtain ⟨k, n, x, s, l⟩ := t
  obtain ⟨eA, en, ec, efp⟩ := e
  simp only at hl hlen hkf
  have hen : l.length = en := hl.len
  rw [hen] at hlen
  have k2 := Below.two w (.cells #[.int .i64 k, .int .i64 n, .int .i64 x, .string s, .slice eA en ec] 33) (.cells #[] 33)
  have hB : Blk ((w.alloc (.cells #[.int .i64 k, .int .i64 n, .int .i64 x, .string s, .slice eA en ec] 33)).alloc (.cells #[] 33)) w.heap.size 33 #[.int .i64 k, .int .i64 n, .int .i64 x, .string s, .slice eA en ec] := (Blk.new w _ _).alloc _
  have hN : RV ((w.alloc (.cells #[.int .i64 k, .int .i64 n, .int .i64 x, .string s, .slice eA en ec] 33)).alloc (.cells #[] 33)) (w.heap.size + 1) (some ⟨w.heap.size + 1, 0, none⟩) 0 0 [] [] := RV.new _ _ (by simp)
  by_cases hk : k = 10
  rotate_left
  · have q1 : (k == 10) = false := by simpa using hk
    have hn : namesT ⟨k, n, x, s, l⟩ = [] := by unfold namesT; rw [if_neg hk]
    rw [hn]
    obtain ⟨fp, f1, f2, _⟩ := hN.list (Nat.le_refl _) (by unfold maxLen; omega)
    have f3 : ∀ g ∈ fp, g < ((w.alloc (.cells #[.int .i64 k, .int .i64 n, .int .i64 x, .string s, .slice eA en ec] 33)).alloc (.cells #[] 33)).heap.size := fun g hg => f2.lt hg
    have hz0 : (0 : Int) < (en : Int) ∨ ¬ (0 : Int) < (en : Int) := by omega
    clear hkf
    rcases hz0 with hz0 | hz0
    all_goals
      go_enter Tryz.func139, Tryz.ntmps139
      go_wp2_with fail
      go_loopg [3, 4, 5] 0 (fun f v3 v4 v5 wr => v4 = .int .i64 0 ∧ v3 = .slice (some ⟨w.heap.size + 1, 0, none⟩) 0 0 ∧ wr = ((w.alloc (.cells #[.int .i64 k, .int .i64 n, .int .i64 x, .string s, .slice eA en ec] 33)).alloc (.cells #[] 33)))
      case atStart => exact ⟨rfl, rfl, rfl⟩
      case round =>
        obtain ⟨rfl, rfl, rfl⟩ := hrel
        go_wp2_with fail
        go_ret
        exact ⟨⟨_, _, _, fp⟩, rfl, f1, f3, k2⟩
  subst hk
  have hn : namesT ⟨10, n, x, s, l⟩ = evens l := rfl
  rw [hn]
  clear hn
  go_enter Tryz.func139, Tryz.ntmps139
  go_wp2_with fail
  go_loopg [3, 4, 5] en (fun f v3 v4 v5 wr => ∃ (j c' : Nat) (A' : Option Addr) (es : List El), v4 = .int .i64 (2 * j : Nat) ∧ 2 * j ≤ en + 1 ∧ en - 2 * j ≤ f ∧ v3 = .slice A' j c' ∧ RV wr (w.heap.size + 1) A' j c' ((evens l).take j) es ∧ Blk wr w.heap.size 33 #[.int .i64 10, .int .i64 n, .int .i64 x, .string s, .slice eA en ec] ∧ w.heap.size + 1 ≤ wr.heap.size ∧ Below w.heap.size w wr)
  case atStart => exact ⟨0, 0, _, [], rfl, by omega, by omega, rfl, by rw [List.take_zero]; exact hN, hB, by simp, k2⟩
  case round =>
    obtain ⟨j, c', A', es, rfl, hj2, hjf, rfl, hR, hBr, hz, hb⟩ := hrel
    clear hN hB k2
    have p4 := hBr.cell 4
    have p0 := hBr.cell 0
    by_cases hlt : 2 * j < en
    · obtain ⟨f, rfl⟩ : ∃ f, gk = f + 1 := ⟨gk - 1, by omega⟩
      obtain ⟨g, o, u, hj, hAe, hgm, ⟨c0, c1, c2, c3, c4⟩, hch, hsub⟩ := (hl.below hel hb).elem hlt
      have hAe : eA = some ⟨g, o, none⟩ := hAe
      subst hAe
      have hul : u.lt wr.heap.size := fun y hy => Nat.lt_of_lt_of_le (hel y (hsub y hy)) hb.size
      have htk := evens_take (l := l) (j := j) (by omega)
      have HT := Lib.hid htk
      have hsz : l[2 * j].sz ≤ 1048576 := (hkf _ (List.getElem_mem hj)).2
      have hcp := s_l6Copy l[2 * j] u wr hch hul (by omega)
      clear htk hch hkf
      go_wp2_with (first
        | (go_at_call 160; refine hcp.mono ?_; rintro r w5 ⟨v, rfl, hv1, hv2, hb5⟩; have hb5b := hb5.up (Below.one w5 (.cells #[.int .i64 l[2 * j].k, .int .i64 l[2 * j].n, .int .i64 l[2 * j].x, .string l[2 * j].s, .slice v.A v.n v.c] 33)); have hR5 := hR.below hb5b; have hv3 := hv1.below (fun g hg => hv2.lt hg) (Below.one w5 (.cells #[.int .i64 l[2 * j].k, .int .i64 l[2 * j].n, .int .i64 l[2 * j].x, .string l[2 * j].s, .slice v.A v.n v.c] 33)); have hv4 := hv2.below (fun g hg => hv2.lt hg) (Below.one w5 (.cells #[.int .i64 l[2 * j].k, .int .i64 l[2 * j].n, .int .i64 l[2 * j].x, .string l[2 * j].s, .slice v.A v.n v.c] 33)); have hB5 := hBr.below hb5b hBr.lt; have z5 := hb5b.size; have hd : ∀ g ∈ v.fp, g ∉ blkOf A' ∧ g ∉ elFp es := (fun g hg => ⟨fun h2 => by have := (row_lt hR.row h2).2; have := (hv2.2 g hg).1; omega, fun h2 => by have := hR.own.lt h2; have := (hv2.2 g hg).1; omega⟩))
        | (at_builtin; refine app_val rfl _ _ rfl hR5 rfl (by first | rfl | simp) rfl hv3 (hv4.mono (by omega)) hd (by omega) (by omega) ?_; intro A6 c6 w6 h6 hb6 hg6))
      have hB6 := hB5.below hb6 (Nat.lt_succ_self _)
      have hb7 := (hb.up hb5b).trans (hb6.mono (Nat.le_succ _))
      have hz6 : w.heap.size + 1 ≤ w6.heap.size := Nat.le_trans hz (Nat.le_trans z5 hb6.size)
      clear hR hR5 hd hv1 hv2 hv3 hv4 hb5 hb5b hg6 hb6 hBr hB5 p4 p0 hcp c0 c1 c2 c3 c4
      go_roundg f
      case measure => omega
      case rel => exact ⟨j + 1, c6, A6, _, by go_num, by omega, by omega, rfl, by rw [HT.out]; exact h6, hB6, hz6, hb7⟩
    · have hje : (evens l).take j = evens l := List.take_of_length_le (by rw [evens_len]; omega)
      rw [hje] at hR
      obtain ⟨fp, f1, f2, _⟩ := hR.list hR.cap.1 hR.cap.2
      have f3 : ∀ g ∈ fp, g < wr.heap.size := fun g hg => f2.lt hg
      have hlt2 : ¬ (((2 * j : Nat) : Int) < (en : Int)) := by omega
      clear hje hkf
      go_wp2_with fail
      go_ret
      exact ⟨⟨_, _, _, fp⟩, rfl, f1, f3, hb⟩
theorem sameT_comm (a b : Tr) : sameT a b = sameT b a := by rw [Bool.eq_iff_iff, sameT_iff, sameT_iff]; exact eq_comm
abbrev OnceHeld (w : World) (g1 o1 : Nat) (t1 : Tr) (u1 : El) (g2 o2 : Nat) (t2 : Tr) (u2 : El) (w' : World) : Prop :=
  RowC w' g1 o1 t1 u1 ∧ RowC w' g2 o2 t2 u2 ∧ LsAt w' t1.l u1 ∧ LsAt w' t2.l u2 ∧ Below w.heap.size w w'
theorem once_next {w w1 w2 : World} {g1 o1 g2 o2 : Nat} {t1 t2 : Tr} {u1 u2 : El} (h1 : g1 < w.heap.size) (h2 : g2 < w.heap.size) (hu1 : u1.lt w.heap.size) (hu2 : u2.lt w.heap.size) (hb : Below w1.heap.size w1 w2)
    (h : OnceHeld w g1 o1 t1 u1 g2 o2 t2 u2 w1) : OnceHeld w g1 o1 t1 u1 g2 o2 t2 u2 w2 := by
  obtain ⟨⟨a0, a1, a2, a3, a4⟩, ⟨b0, b1, b2, b3, b4⟩, c, d, e⟩ := h
  have hs := e.size
  have f := fun (g o : Nat) (hg : g < w1.heap.size) => hb.cell (p := ⟨g, o, none⟩) hg
  have hg1 : g1 < w1.heap.size := by omega
  have hg2 : g2 < w1.heap.size := by omega
  exact ⟨⟨(f _ _ hg1).trans a0, (f _ _ hg1).trans a1, (f _ _ hg1).trans a2, (f _ _ hg1).trans a3, (f _ _ hg1).trans a4⟩, ⟨(f _ _ hg2).trans b0, (f _ _ hg2).trans b1, (f _ _ hg2).trans b2, (f _ _ hg2).trans b3, (f _ _ hg2).trans b4⟩, c.below (hu1.mono hs) hb, d.below (hu2.mono hs) hb, e.up hb⟩
theorem any_step {l : List Tr} {j i : Nat} (hi : i < j) (hj : i < l.length) (p : Tr → Bool) : ((l.take j).drop i).any p = (p l[i] || ((l.take j).drop (i + 1)).any p) := by
  have h : i < (l.take j).length := by rw [List.length_take]; omega
  rw [List.drop_eq_getElem_cons h, List.any_cons, List.getElem_take]
set_option maxHeartbeats 4000000 in
theorem s_OnceEach (t : Tr) (e : El) (w : World) (hF : Fit t) (hl : LsAt w t.l e) (hel : e.lt w.heap.size) :
    Calls Tryz.prog 140 #[trV t e] w fun r w' => r = .returned (.bool (onceL (namesT t))) ∧ Below w.heap.size w w' := by
  have k1 := Below.one w (.cells (valCells t e) 33)
  have hnm := s_NamesOf t e _ hF (hl.below hel k1) (hel.mono k1.size)
  have hnl := names_len t
  have hln := hF.len
  obtain ⟨m, hm⟩ : ∃ m, namesT t = m := ⟨_, rfl⟩
  rw [hm] at hnm hnl ⊢
  have HV0 : Hid (onceL m = onceF (m.take 0) (m.drop 0)) := Lib.hid rfl
  clear hm
  go_enter Tryz.func140, Tryz.ntmps140
  go_wp2_with (go_at_call 139; refine hnm.mono ?_; rintro r w1 ⟨⟨A, n, c, fp⟩, rfl, h1, h2, hb1⟩)
  have hmn : m.length = n := h1.len
  have kb1 := k1.up hb1
  clear hnm
  go_loopg [4, 5] n (fun f v4 v5 wr => ∃ j : Nat, j + f = n ∧ v4 = .int .i64 j ∧ Hid (onceL m = onceF (m.take j) (m.drop j)) ∧ Below w1.heap.size w1 wr)
  case atStart => exact ⟨0, by omega, rfl, HV0, Below.refl _ _⟩
  case round =>
    obtain ⟨j, hjf, rfl, hH, hbr⟩ := hrel
    obtain ⟨wo, rfl⟩ : ∃ wo : World, wo = wr := ⟨_, rfl⟩
    clear HV0
    by_cases hlt : j < n
    · obtain ⟨f, rfl⟩ : ∃ f, gk = f + 1 := ⟨gk - 1, by omega⟩
      have hj : j < m.length := by omega
      have hh := hH.out
      rw [onceF_step hj] at hh
      have HH := Lib.hid hh
      have HJF := Lib.hid hjf
      have HI0 : Hid ((m.take j).any (fun o => sameT o m[j]) = ((m.take j).drop 0).any (fun o => sameT o m[j])) := Lib.hid (by rw [List.drop_zero])
      clear hh hH hjf
      go_wp2_with fail
      go_loopg [5] j (fun f5 v5 wr => ∃ i : Nat, i + f5 = j ∧ v5 = .int .i64 i ∧ Hid ((m.take j).any (fun o => sameT o m[j]) = ((m.take j).drop i).any (fun o => sameT o m[j])) ∧ Below w1.heap.size w1 wr)
      case atStart => exact ⟨0, by omega, rfl, HI0, hbr⟩
      case round =>
        obtain ⟨i, hif, rfl, hI, hbi⟩ := hrel
        clear HI0 hbr
        by_cases hi : i < j
        · obtain ⟨f5, rfl⟩ : ∃ f5, gk = f5 + 1 := ⟨gk - 1, by omega⟩
          obtain ⟨g, o, u, hj', hAe, hgm, hx1, hch1, hsub1⟩ := (h1.below h2 hbi).elem hlt
          have hAe : A = some ⟨g, o, none⟩ := hAe
          subst hAe
          obtain ⟨g', o', v, hi', hAe', hgm', hx2, hch2, hsub2⟩ := (h1.below h2 hbi).elem (j := i) (by show i < n; omega)
          simp only [Option.some.injEq, Addr.mk.injEq, and_true] at hAe'
          obtain ⟨rfl, rfl⟩ := hAe'
          have hin : i < n := by omega
          have hG : g < w1.heap.size := h2 g hgm
          have hU1 : u.lt w1.heap.size := fun y hy => h2 y (hsub1 y hy)
          have hU2 : v.lt w1.heap.size := fun y hy => h2 y (hsub2 y hy)
          have hS : OnceHeld w1 g (o + j * 5) m[j] u g (o + i * 5) m[i] v wr := ⟨hx1, hx2, hch1, hch2, hbi⟩
          have hcall : ∀ w', OnceHeld w1 g (o + j * 5) m[j] u g (o + i * 5) m[i] v w' → Calls Tryz.prog 161 #[.agg #[.int .i64 m[j].k, .int .i64 m[j].n, .int .i64 m[j].x, .string m[j].s, .slice u.A u.n u.c], .agg #[.int .i64 m[i].k, .int .i64 m[i].n, .int .i64 m[i].x, .string m[i].s, .slice v.A v.n v.c]] w' fun r w2 => r = .returned (.bool (sameT m[i] m[j])) ∧ Below w'.heap.size w' w2 :=
            fun w' hs => sameT_comm m[j] m[i] ▸ s_SameVal m[j] m[i] u v w' hs.2.2.1 hs.2.2.2.1 (hU1.mono hs.2.2.2.2.size) (hU2.mono hs.2.2.2.2.size)
          have hS2 : ∀ wa wb, Below wa.heap.size wa wb → OnceHeld w1 g (o + j * 5) m[j] u g (o + i * 5) m[i] v wa → OnceHeld w1 g (o + j * 5) m[j] u g (o + i * 5) m[i] v wb := fun wa wb hb h => once_next hG hG hU1 hU2 hb h
          have hS1 : OnceHeld w1 g (o + j * 5) m[j] u g (o + i * 5) m[i] v wr.drew := hS2 _ _ (Below.refl _ _).drew hS
          have hh := hI.out
          rw [any_step hi hi'] at hh
          have HIH := Lib.hid hh
          have HIF := Lib.hid hif
          clear hh hI hif hx1 hx2 hch1 hch2 hbi
          cases hq : sameT m[i] m[j] with
          | true =>
            rw [hq] at hcall HIH
            have HR : Hid (onceL m = false) := Lib.hid (by rw [HH.out, HIH.out]; rfl)
            clear hq HIH
            go_wp2_with fail
            go_region_held3 (fun w' => OnceHeld w1 g (o + j * 5) m[j] u g (o + i * 5) m[i] v w')
              (first | exact hS1 | (refine hS2 _ _ hb2 ?_; assumption))
              (first | (go_at_call 161; refine (hcall _ (by assumption)).mono ?_; rintro r w2 ⟨rfl, hb2⟩))
            rename_i hHeld
            clear hcall hS1 hS2 hS
            go_wp2
            go_ret
            exact ⟨ret_bool HR.out.symm, kb1.up hHeld.2.2.2.2⟩
          | false =>
            rw [hq] at hcall HIH
            have HI2 : Hid ((m.take j).any (fun o => sameT o m[j]) = ((m.take j).drop (i + 1)).any (fun o => sameT o m[j])) := Lib.hid (by rw [HIH.out]; rfl)
            clear hq HIH
            go_wp2_with fail
            go_region_held3 (fun w' => OnceHeld w1 g (o + j * 5) m[j] u g (o + i * 5) m[i] v w')
              (first | exact hS1 | (refine hS2 _ _ hb2 ?_; assumption))
              (first | (go_at_call 161; refine (hcall _ (by assumption)).mono ?_; rintro r w2 ⟨rfl, hb2⟩))
            rename_i hHeld
            clear hcall hS1 hS2 hS
            go_wp2
            go_roundg f5
            case measure => have := HIF.out; omega
            case rel => exact ⟨i + 1, by have := HIF.out; omega, by go_num, HI2, hHeld.2.2.2.2⟩
        · have hh := hI.out
          have hij : i = j := by omega
          rw [List.drop_eq_nil_of_le (by rw [List.length_take]; omega)] at hh
          have H2 : Hid (onceL m = onceF (m.take (j + 1)) (m.drop (j + 1))) := Lib.hid (by rw [HH.out, hh]; rfl)
          have hlt2 : ¬ ((i : Int) < (j : Int)) := by omega
          clear hh hI HH hij
          go_wp2_with fail
          go_roundg f
          case measure => have := HJF.out; omega
          case rel => exact ⟨j + 1, by have := HJF.out; omega, by go_num, H2, hbi⟩
    · have hh := hH.out
      rw [onceF_end (by omega)] at hh
      have HH := Lib.hid hh
      have hlt2 : ¬ ((j : Int) < (n : Int)) := by omega
      clear hh hH
      go_wp2_with fail
      go_ret
      exact ⟨ret_bool HH.out.symm, kb1.up hbr⟩
end Go.Proofs.YtgddnpglgakkdaaGreatDoor
