/- The draw of a map of names; the draw of SortTight. Written by gen/nmdraws.py. -/
import Derived.Test.YtmnlkedacnemcaaGreatDoorTwM37
import Derived.Test.YtmnlkedacnemcaaGreatDoorTwDrawTree
import Derived.Deep.RegionHeld3
import Derived.Deep.CutRange
import Derived.Deep.LoopGhost
set_option linter.unusedVariables false
set_option maxRecDepth 100000
set_option linter.unusedSimpArgs false
namespace Go.Proofs.YtmnlkedacnemcaaGreatDoor
open Go.RowKit

theorem nmT_mk {k : Int} {l : List Tr} (hk : k = 10 ∨ k = 9) (hl : l.length ≤ 9) (h : ∀ x ∈ l, NameOk x) : NmT ⟨k, 0, 0, ⟨#[]⟩, l⟩ := ⟨rfl, rfl, rfl, hk, hl, h⟩
theorem dr_put0 {w w6 : World} {B g n c gv j c' : Nat} {A A' : Option Addr} {b : List UInt8} {l : List Tr} {es : List El} {kk s0 : Value} (hB : Blk w6 w.heap.size 26 #[.int .i64 0, .int .i64 0, .int .i64 0, .string ⟨#[]⟩, .slice none 0 0]) (hV : Blk w6 gv 26 #[kk, .int .i64 0, .int .i64 0, .string ⟨#[]⟩, s0]) (hR : RV w6 (gv + 1) A' j c' l es) (hC : Cur w6 B g A n c b) (hF : Fr [g] w w6) (hgv : g < gv) (hwv : w.heap.size < gv) (v : Value) :
    Blk (w6.setCell ⟨gv, 0, none⟩ v) w.heap.size 26 #[.int .i64 0, .int .i64 0, .int .i64 0, .string ⟨#[]⟩, .slice none 0 0] ∧ Blk (w6.setCell ⟨gv, 0, none⟩ v) gv 26 #[v, .int .i64 0, .int .i64 0, .string ⟨#[]⟩, s0] ∧ RV (w6.setCell ⟨gv, 0, none⟩ v) (gv + 1) A' j c' l es ∧ Cur (w6.setCell ⟨gv, 0, none⟩ v) B g A n c b ∧ Fr [g] w (w6.setCell ⟨gv, 0, none⟩ v) :=
  ⟨hB.far (p := ⟨gv, 0, none⟩) (by show w.heap.size ≠ gv; omega) v, by simpa using hV.set_ 0 v, hR.frg (g := gv) ((Fr.refl _ _).setCell (by simp) _) (by omega), hC.set_ (o := 0) hgv v, hF.new_ (p := ⟨gv, 0, none⟩) (by show w.heap.size ≤ gv; omega) v⟩
/-- What drawing a map of names gives. -/
def NmDrawn (w w' : World) (B g n c : Nat) (A : Option Addr) (b : List UInt8) (r : Ending) : Prop :=
  ∃ (t : Tr) (e : El), r = .returned (trV t e) ∧ LsAt w' t.l e ∧ Own w' w.heap.size e.fp ∧ NmT t ∧ Cur w' B g A n c b ∧ Fr [g] w w'
set_option maxHeartbeats 16000000 in
theorem s_l7Names (B g n c : Nat) (A : Option Addr) (b : List UInt8) (w : World) (h : Cur w B g A n c b) :
    Calls Tryz.prog 18 #[.pointer (some ⟨g, 0, none⟩)] w fun r w' => NmDrawn w w' B g n c A b r := by
  unfold NmDrawn
  have hgl := h.lt
  have hgn : w.heap.size ≠ g := by omega
  have hC0 := h.below (Below.one w (.cells #[.int .i64 0, .int .i64 0, .int .i64 0, .string ⟨#[]⟩, .slice none 0 0] 26))
  have hF0 : Fr [g] w (w.alloc (.cells #[.int .i64 0, .int .i64 0, .int .i64 0, .string ⟨#[]⟩, .slice none 0 0] 26)) := Fr.of_below (Below.one _ _)
  have hB0 := Blk.new w 26 #[.int .i64 0, .int .i64 0, .int .i64 0, .string ⟨#[]⟩, .slice none 0 0]
  go_enter Tryz.func18, Tryz.ntmps18
  go_upto_region 1 with fail
  generalize (w.alloc (.cells #[.int .i64 0, .int .i64 0, .int .i64 0, .string ⟨#[]⟩, .slice none 0 0] 26)) = w0 at hC0 hF0 hB0 ⊢
  have hBV := Blk.new w0 26 #[.int .i64 10, .int .i64 0, .int .i64 0, .string ⟨#[]⟩, .slice none 0 0]
  have hBa := hB0.alloc (.cells #[.int .i64 10, .int .i64 0, .int .i64 0, .string ⟨#[]⟩, .slice none 0 0] 26)
  have hCa := hC0.below (Below.one w0 (.cells #[.int .i64 10, .int .i64 0, .int .i64 0, .string ⟨#[]⟩, .slice none 0 0] 26))
  have hFa := hF0.trans (Fr.of_below (Below.one w0 (.cells #[.int .i64 10, .int .i64 0, .int .i64 0, .string ⟨#[]⟩, .slice none 0 0] 26)))
  have hgv : g < w0.heap.size := hC0.lt
  have hwv : w.heap.size < w0.heap.size := hB0.lt
  go_upto_region 2 with fail
  generalize hve : w0.heap.size = gv at hBV hgv hwv ⊢
  generalize (w0.alloc (.cells #[.int .i64 10, .int .i64 0, .int .i64 0, .string ⟨#[]⟩, .slice none 0 0] 26)) = wa at hBV hBa hCa hFa ⊢
  clear hve hB0 hC0 hF0
  go_wp2_with fail
  refine (s_l1Below B g n c A b 5 _ hCa (by decide)).mono ?_; rintro r w3 ⟨m, rfl, hm, hC3, hf3⟩
  obtain ⟨m0, m1⟩ := hm.2 (by decide)
  obtain ⟨mm, rfl⟩ : ∃ mm : Nat, m = mm := ⟨m.toNat, by omega⟩
  clear hm
  have hB3 := hBa.fr_' hf3 (by simpa using hgn)
  have hV3 := hBV.fr_' hf3 (by simp; omega)
  have hF3 := hFa.trans hf3
  have hR3 := RV.nil_ w3 (gv + 1)
  clear hBa hBV hCa hFa hf3
  go_wp2_with fail
  go_loopg [4] mm (fun f v4 wr => ∃ (j c' : Nat) (A' : Option Addr) (acc : List Tr) (es : List El), v4 = .int .i64 f ∧ j + 2 * f ≤ 8 ∧ Blk wr w.heap.size 26 #[.int .i64 0, .int .i64 0, .int .i64 0, .string ⟨#[]⟩, .slice none 0 0] ∧ Blk wr gv 26 #[.int .i64 10, .int .i64 0, .int .i64 0, .string ⟨#[]⟩, .slice A' j c'] ∧ RV wr (gv + 1) A' j c' acc es ∧ (∀ x ∈ acc, NameOk x) ∧ Cur wr B g A n c b ∧ Fr [g] w wr)
  case atStart => exact ⟨0, 0, none, [], [], rfl, by omega, hB3, hV3, hR3, (fun x hx => by cases hx), hC3, hF3⟩
  case round =>
    obtain ⟨j, c', A', acc, es, rfl, hjf, hB, hV, hR, hacc, hC, hF⟩ := hrel
    clear hB3 hV3 hR3 hC3 hF3
    cases gk with
    | zero =>
      go_wp2_with fail
      refine (s_l1Once B g n c A b 10 _ hC (by decide)).mono ?_; rintro r w5 ⟨x5, rfl, hC5, hf5⟩
      replace hB := hB.fr_' hf5 (by simpa using hgn)
      replace hV := hV.fr_' hf5 (by simp; omega)
      replace hR := hR.frg hf5 (by omega)
      replace hF := hF.trans hf5
      clear hC hf5
      have hC := hC5
      clear hC5
      cases x5
      · go_wp2_with fail
        refine (s_l1Once B g n c A b 12 _ hC (by decide)).mono ?_; rintro r w8 ⟨x8, rfl, hC8, hf8⟩
        replace hB := hB.fr_' hf8 (by simpa using hgn)
        replace hV := hV.fr_' hf8 (by simp; omega)
        replace hR := hR.frg hf8 (by omega)
        replace hF := hF.trans hf8
        clear hC hf8
        have hC := hC8
        clear hC8
        cases x8
        · have p0 := hV.cell 0
          have p1 := hV.cell 1
          have p2 := hV.cell 2
          have p3 := hV.cell 3
          have p4 := hV.cell 4
          simp only [List.getElem?_toArray, List.getElem?_cons_succ, List.getElem?_cons_zero] at p0 p1 p2 p3 p4
          obtain ⟨fp, hL, hO, -⟩ := hR.list hR.cap.1 hR.cap.2
          have hrn : w.heap.size ∉ fp := fun hx => by have := (hO.2 _ hx).1; omega
          obtain ⟨x0, x1, x2, x3, x4, ⟨s0, t0⟩, ⟨s1, t1⟩, ⟨s2, t2⟩, ⟨s3, t3⟩, s4, t4⟩ := hB.five (o := 0) (by simp) (.int .i64 10) (.int .i64 0) (.int .i64 0) (.string ⟨#[]⟩)
          have hE := leaf_put hB hC hF (Nat.le_refl _) hgl ⟨10, 0, 0, ⟨#[]⟩, acc⟩ ⟨A', j, c', fp⟩
          have hT : NmT ⟨10, 0, 0, ⟨#[]⟩, acc⟩ := nmT_mk (by exact .inl rfl) (by have := hR.len; omega) hacc
          have hL6 := hL.set5_ (o := 0) (t := ⟨10, 0, 0, ⟨#[]⟩, acc⟩) (e2 := ⟨A', j, c', fp⟩) hrn
          have hO6 := (hO.set5_ (o := 0) (t := ⟨10, 0, 0, ⟨#[]⟩, acc⟩) (e := ⟨A', j, c', fp⟩) hrn).mono (lo2 := w.heap.size) (by omega)
          clear hL hO hR hB hV hC hF hacc
          go_wp2_with fail
          exact bodyPost_ret (results_blk Tryz.results18 Tryz.isAgg26 (by exact Tryz.sizeOf26) rfl hE.1) rfl ⟨⟨10, 0, 0, ⟨#[]⟩, acc⟩, ⟨A', j, c', fp⟩, rfl, hL6, hO6, hT, hE.2.1, hE.2.2⟩
        · have q0 := hV.cell 0
          have f0 := hV.frozen 0
          simp only [List.getElem?_toArray, List.getElem?_cons_succ, List.getElem?_cons_zero] at q0
          go_upto_region 10 with fail
          obtain ⟨E1, E2, E3, E4, E5⟩ := dr_put0 hB hV hR hC hF hgv hwv (.int .i64 9)
          clear q0 f0 hB hV hR hC hF
          generalize w8.setCell ⟨gv, 0, none⟩ (.int .i64 9) = w9 at E1 E2 E3 E4 E5 ⊢
          have hB := E1
          have hV := E2
          have hR := E3
          have hC := E4
          have hF := E5
          clear E1 E2 E3 E4 E5
          have p0 := hV.cell 0
          have p1 := hV.cell 1
          have p2 := hV.cell 2
          have p3 := hV.cell 3
          have p4 := hV.cell 4
          simp only [List.getElem?_toArray, List.getElem?_cons_succ, List.getElem?_cons_zero] at p0 p1 p2 p3 p4
          obtain ⟨fp, hL, hO, -⟩ := hR.list hR.cap.1 hR.cap.2
          have hrn : w.heap.size ∉ fp := fun hx => by have := (hO.2 _ hx).1; omega
          obtain ⟨x0, x1, x2, x3, x4, ⟨s0, t0⟩, ⟨s1, t1⟩, ⟨s2, t2⟩, ⟨s3, t3⟩, s4, t4⟩ := hB.five (o := 0) (by simp) (.int .i64 9) (.int .i64 0) (.int .i64 0) (.string ⟨#[]⟩)
          have hE := leaf_put hB hC hF (Nat.le_refl _) hgl ⟨9, 0, 0, ⟨#[]⟩, acc⟩ ⟨A', j, c', fp⟩
          have hT : NmT ⟨9, 0, 0, ⟨#[]⟩, acc⟩ := nmT_mk (by exact .inr rfl) (by have := hR.len; omega) hacc
          have hL6 := hL.set5_ (o := 0) (t := ⟨9, 0, 0, ⟨#[]⟩, acc⟩) (e2 := ⟨A', j, c', fp⟩) hrn
          have hO6 := (hO.set5_ (o := 0) (t := ⟨9, 0, 0, ⟨#[]⟩, acc⟩) (e := ⟨A', j, c', fp⟩) hrn).mono (lo2 := w.heap.size) (by omega)
          clear hL hO hR hB hV hC hF hacc
          go_wp2_with fail
          exact bodyPost_ret (results_blk Tryz.results18 Tryz.isAgg26 (by exact Tryz.sizeOf26) rfl hE.1) rfl ⟨⟨9, 0, 0, ⟨#[]⟩, acc⟩, ⟨A', j, c', fp⟩, rfl, hL6, hO6, hT, hE.2.1, hE.2.2⟩
      · have hnm : j + 1 ≤ 1099511627776 := by omega
        go_upto_region 7 with fail
        have kd := (Below.refl w5.heap.size w5).drew
        have hBd := hB.below kd hB.lt
        have hVd := hV.below kd hV.lt
        have hRd := hR.below kd
        have hCd := hC.below kd
        have hFd := hF.trans (Fr.of_below kd)
        clear hB hV hR hC hF kd
        refine wp_region_noPanic ?_
        refine wp_region_held_drew (S := fun _ => True) (by kernel_rfl) (trivial) (fun hHeld => ?_)
        generalize w5.drew = wv at hBd hVd hRd hCd hFd ⊢
        refine wpAnyH_take (i := 0) (oi := ?oi0x1) (v := ?vv0x1) ?hi0x1 (by kernel_rfl) (by kernel_rfl) (by kernel_rfl) ?hQ0x1 (Or.inl ⟨?hw0x1, ?hy0x1⟩) hHeld ?rest0x1
        case hi0x1 => (simp only [List.getElem?_toArray, List.getElem?_cons_succ, List.getElem?_cons_zero]; exact rfl)
        case hQ0x1 => exact fun _ _ _ h => h
        case hw0x1 => rfl
        case hy0x1 => ((intro w hSw; (try dsimp only at hSw); go_simp) <;> (with_reducible rfl))
        try simp only [Act.put, List.setIfInBounds_toArray, List.set_cons_zero, List.set_cons_succ]
        refine wpAnyH_take (i := 2) (oi := ?oi2x2) (v := ?vv2x2) ?hi2x2 (by kernel_rfl) (by kernel_rfl) (by kernel_rfl) ?hQ2x2 (Or.inl ⟨?hw2x2, ?hy2x2⟩) hHeld ?rest2x2
        case hi2x2 => (simp only [List.getElem?_toArray, List.getElem?_cons_succ, List.getElem?_cons_zero]; exact rfl)
        case hQ2x2 => exact fun _ _ _ h => h
        case hw2x2 => rfl
        case hy2x2 => ((intro w hSw; (try dsimp only at hSw); go_simp) <;> (with_reducible rfl))
        try simp only [Act.put, List.setIfInBounds_toArray, List.set_cons_zero, List.set_cons_succ]
        refine wpAnyH_ready (rs := [1, 3]) (by kernel_rfl) (by simp) ?_
        refine AllReadyH.cons (o := ?o1y18) ?ho1y18 (fun KK hKK => ?st1y18) (AllReadyH.cons (o := ?o3y18) ?ho3y18 (fun KK hKK => ?st3y18) (AllReadyH.nil))
        case ho1y18 => (simp only [List.getElem?_toArray, List.getElem?_cons_succ, List.getElem?_cons_zero]; exact rfl)
        case ho3y18 => (simp only [List.getElem?_toArray, List.getElem?_cons_succ, List.getElem?_cons_zero]; exact rfl)
        case st1y18 =>
          have yl := hVd.cell 4
          simp only [List.getElem?_toArray, List.getElem?_cons_succ, List.getElem?_cons_zero] at yl
          rw [if_pos (by rfl)]
          go_simp
          refine hKK.out _ _ trivial (fun hHeld => ?_)
          clear hKK KK
          try simp only [Act.put, List.setIfInBounds_toArray, List.set_cons_zero, List.set_cons_succ]
          clear yl
          refine wpAnyH_ready (rs := [3]) (by kernel_rfl) (by simp) ?_
          refine AllReadyH.cons (o := ?o3y7) ?ho3y7 (fun KK hKK => ?st3y7) (AllReadyH.nil)
          case ho3y7 => (simp only [List.getElem?_toArray, List.getElem?_cons_succ, List.getElem?_cons_zero]; exact rfl)
          rw [if_pos (by rfl)]
          go_simp
          go_at_call 33
          refine (s_l6NameK B g n c A b _ hCd).mono ?_; rintro r w4 ⟨u, rfl, hu, hC4, hf4⟩
          have hB4 := hBd.fr_' hf4 (by simpa using hgn)
          have hV4 := hVd.fr_' hf4 (by simp; omega)
          have hR4 := hRd.frg hf4 (by omega)
          have hF4 := hFd.trans hf4
          clear hBd hVd hRd hCd hFd hf4
          refine hKK.out _ _ trivial (fun hHeld => ?_)
          clear hKK KK
          try simp only [Act.put, List.setIfInBounds_toArray, List.set_cons_zero, List.set_cons_succ]
          refine wpAnyH_ready (rs := [4]) (by kernel_rfl) (by simp) ?_
          refine AllReadyH.cons (o := ?o4y6) ?ho4y6 (fun KK hKK => ?st4y6) (AllReadyH.nil)
          case ho4y6 => (simp only [List.getElem?_toArray, List.getElem?_cons_succ, List.getElem?_cons_zero]; exact rfl)
          refine step_build1 (t := u) (e := nE) (by simp only [List.getElem?_toArray, List.getElem?_cons_succ, List.getElem?_cons_zero, Option.getD_some]) ?_
          have hVa := hV4.alloc (.cells #[.int .i64 u.k, .int .i64 u.n, .int .i64 u.x, .string u.s, .slice none 0 0] 26)
          refine hKK.out _ _ trivial (fun hHeld => ?_)
          clear hKK KK
          try simp only [Act.put, List.setIfInBounds_toArray, List.set_cons_zero, List.set_cons_succ]
          refine wpAnyH_ready (rs := [5]) (by kernel_rfl) (by simp) ?_
          refine AllReadyH.cons (o := ?o5y5) ?ho5y5 (fun KK hKK => ?st5y5) (AllReadyH.nil)
          case ho5y5 => (simp only [List.getElem?_toArray, List.getElem?_cons_succ, List.getElem?_cons_zero]; exact rfl)
          have zb4 : gv + 1 ≤ w4.heap.size := hV4.lt
          refine step_val1 hR4 (by simp only [List.getElem?_toArray, List.getElem?_cons_succ, List.getElem?_cons_zero, Option.getD_some]) rfl (by simp only [List.getElem?_toArray, List.getElem?_cons_succ, List.getElem?_cons_zero, Option.getD_some]) hu.1.1 hnm zb4 ?_; intro A3 c3 w6 h6 hb6
          have hV6 := hV4.below hb6 (by omega)
          clear hVa
          refine hKK.out _ _ trivial (fun hHeld => ?_)
          clear hKK KK
          try simp only [Act.put, List.setIfInBounds_toArray, List.set_cons_zero, List.set_cons_succ]
          refine wpAnyH_take (i := 6) (oi := ?oi6x3) (v := ?vv6x3) ?hi6x3 (by kernel_rfl) (by kernel_rfl) (by kernel_rfl) ?hQ6x3 (Or.inl ⟨?hw6x3, ?hy6x3⟩) hHeld ?rest6x3
          case hi6x3 => (simp only [List.getElem?_toArray, List.getElem?_cons_succ, List.getElem?_cons_zero]; exact rfl)
          case hQ6x3 => exact fun _ _ _ h => h
          case hw6x3 => rfl
          case hy6x3 => ((intro w hSw; (try dsimp only at hSw); go_simp) <;> (with_reducible rfl))
          try simp only [Act.put, List.setIfInBounds_toArray, List.set_cons_zero, List.set_cons_succ]
          refine wpAnyH_ready (rs := [7]) (by kernel_rfl) (by simp) ?_
          refine AllReadyH.cons (o := ?o7y4) ?ho7y4 (fun KK hKK => ?st7y4) (AllReadyH.nil)
          case ho7y4 => (simp only [List.getElem?_toArray, List.getElem?_cons_succ, List.getElem?_cons_zero]; exact rfl)
          have f7 := hV6.frozen 4
          have y6 := hV6.cell 4
          simp only [List.getElem?_toArray, List.getElem?_cons_succ, List.getElem?_cons_zero] at y6
          rw [if_pos (by rfl)]
          go_simp
          obtain ⟨E1, E2, E3, E4, E5⟩ := dr_put (hB4.below hb6 (by omega)) hV6 h6 (hC4.belowB hb6 (by omega)) (hF4.onBelow (hb6.mono (by omega))) hgv hwv (.slice A3 (j + 1) c3)
          refine hKK.out _ _ trivial (fun hHeld => ?_)
          clear hKK KK
          try simp only [Act.put, List.setIfInBounds_toArray, List.set_cons_zero, List.set_cons_succ]
          refine wpAnyH_done (by kernel_rfl) ?_ _
          refine NoPanic.normal ?_
          have hacc3 : ∀ x ∈ acc ++ [u], NameOk x := fun x hx => by
            rcases List.mem_append.1 hx with h1 | h1
            · exact hacc x h1
            · rw [List.mem_singleton] at h1; subst h1; exact hu
          clear hHeld hB4 hV4 hR4 hC4 hF4 hV6 h6 hb6 f7 y6 hacc hu zb4
          generalize w6.setCell ⟨gv, 4, none⟩ (.slice A3 (j + 1) c3) = w7 at E1 E2 E3 E4 E5 ⊢
          as_aux_lemma =>
            have hB := E1
            have hV := E2
            have hR := E3
            have hacc := hacc3
            have hC := E4
            have hF := E5
            clear E1 E2 E3 E4 E5 hacc3
            go_wp2_with fail
            refine (s_l1Once B g n c A b 12 _ hC (by decide)).mono ?_; rintro r w8 ⟨x8, rfl, hC8, hf8⟩
            replace hB := hB.fr_' hf8 (by simpa using hgn)
            replace hV := hV.fr_' hf8 (by simp; omega)
            replace hR := hR.frg hf8 (by omega)
            replace hF := hF.trans hf8
            clear hC hf8
            have hC := hC8
            clear hC8
            cases x8
            · have p0 := hV.cell 0
              have p1 := hV.cell 1
              have p2 := hV.cell 2
              have p3 := hV.cell 3
              have p4 := hV.cell 4
              simp only [List.getElem?_toArray, List.getElem?_cons_succ, List.getElem?_cons_zero] at p0 p1 p2 p3 p4
              obtain ⟨fp, hL, hO, -⟩ := hR.list hR.cap.1 hR.cap.2
              have hrn : w.heap.size ∉ fp := fun hx => by have := (hO.2 _ hx).1; omega
              obtain ⟨x0, x1, x2, x3, x4, ⟨s0, t0⟩, ⟨s1, t1⟩, ⟨s2, t2⟩, ⟨s3, t3⟩, s4, t4⟩ := hB.five (o := 0) (by simp) (.int .i64 10) (.int .i64 0) (.int .i64 0) (.string ⟨#[]⟩)
              have hE := leaf_put hB hC hF (Nat.le_refl _) hgl ⟨10, 0, 0, ⟨#[]⟩, (acc ++ [u])⟩ ⟨A3, (j + 1), c3, fp⟩
              have hT : NmT ⟨10, 0, 0, ⟨#[]⟩, (acc ++ [u])⟩ := nmT_mk (by exact .inl rfl) (by have := hR.len; omega) hacc
              have hL6 := hL.set5_ (o := 0) (t := ⟨10, 0, 0, ⟨#[]⟩, (acc ++ [u])⟩) (e2 := ⟨A3, (j + 1), c3, fp⟩) hrn
              have hO6 := (hO.set5_ (o := 0) (t := ⟨10, 0, 0, ⟨#[]⟩, (acc ++ [u])⟩) (e := ⟨A3, (j + 1), c3, fp⟩) hrn).mono (lo2 := w.heap.size) (by omega)
              clear hL hO hR hB hV hC hF hacc
              go_wp2_with fail
              exact bodyPost_ret (results_blk Tryz.results18 Tryz.isAgg26 (by exact Tryz.sizeOf26) rfl hE.1) rfl ⟨⟨10, 0, 0, ⟨#[]⟩, (acc ++ [u])⟩, ⟨A3, (j + 1), c3, fp⟩, rfl, hL6, hO6, hT, hE.2.1, hE.2.2⟩
            · have q0 := hV.cell 0
              have f0 := hV.frozen 0
              simp only [List.getElem?_toArray, List.getElem?_cons_succ, List.getElem?_cons_zero] at q0
              go_upto_region 10 with fail
              obtain ⟨E1, E2, E3, E4, E5⟩ := dr_put0 hB hV hR hC hF hgv hwv (.int .i64 9)
              clear q0 f0 hB hV hR hC hF
              generalize w8.setCell ⟨gv, 0, none⟩ (.int .i64 9) = w9 at E1 E2 E3 E4 E5 ⊢
              have hB := E1
              have hV := E2
              have hR := E3
              have hC := E4
              have hF := E5
              clear E1 E2 E3 E4 E5
              have p0 := hV.cell 0
              have p1 := hV.cell 1
              have p2 := hV.cell 2
              have p3 := hV.cell 3
              have p4 := hV.cell 4
              simp only [List.getElem?_toArray, List.getElem?_cons_succ, List.getElem?_cons_zero] at p0 p1 p2 p3 p4
              obtain ⟨fp, hL, hO, -⟩ := hR.list hR.cap.1 hR.cap.2
              have hrn : w.heap.size ∉ fp := fun hx => by have := (hO.2 _ hx).1; omega
              obtain ⟨x0, x1, x2, x3, x4, ⟨s0, t0⟩, ⟨s1, t1⟩, ⟨s2, t2⟩, ⟨s3, t3⟩, s4, t4⟩ := hB.five (o := 0) (by simp) (.int .i64 9) (.int .i64 0) (.int .i64 0) (.string ⟨#[]⟩)
              have hE := leaf_put hB hC hF (Nat.le_refl _) hgl ⟨9, 0, 0, ⟨#[]⟩, (acc ++ [u])⟩ ⟨A3, (j + 1), c3, fp⟩
              have hT : NmT ⟨9, 0, 0, ⟨#[]⟩, (acc ++ [u])⟩ := nmT_mk (by exact .inr rfl) (by have := hR.len; omega) hacc
              have hL6 := hL.set5_ (o := 0) (t := ⟨9, 0, 0, ⟨#[]⟩, (acc ++ [u])⟩) (e2 := ⟨A3, (j + 1), c3, fp⟩) hrn
              have hO6 := (hO.set5_ (o := 0) (t := ⟨9, 0, 0, ⟨#[]⟩, (acc ++ [u])⟩) (e := ⟨A3, (j + 1), c3, fp⟩) hrn).mono (lo2 := w.heap.size) (by omega)
              clear hL hO hR hB hV hC hF hacc
              go_wp2_with fail
              exact bodyPost_ret (results_blk Tryz.results18 Tryz.isAgg26 (by exact Tryz.sizeOf26) rfl hE.1) rfl ⟨⟨9, 0, 0, ⟨#[]⟩, (acc ++ [u])⟩, ⟨A3, (j + 1), c3, fp⟩, rfl, hL6, hO6, hT, hE.2.1, hE.2.2⟩
        case st3y18 =>
          rw [if_pos (by rfl)]
          go_simp
          go_at_call 33
          refine (s_l6NameK B g n c A b _ hCd).mono ?_; rintro r w4 ⟨u, rfl, hu, hC4, hf4⟩
          have hB4 := hBd.fr_' hf4 (by simpa using hgn)
          have hV4 := hVd.fr_' hf4 (by simp; omega)
          have hR4 := hRd.frg hf4 (by omega)
          have hF4 := hFd.trans hf4
          clear hBd hVd hRd hCd hFd hf4
          refine hKK.out _ _ trivial (fun hHeld => ?_)
          clear hKK KK
          try simp only [Act.put, List.setIfInBounds_toArray, List.set_cons_zero, List.set_cons_succ]
          refine wpAnyH_ready (rs := [1, 4]) (by kernel_rfl) (by simp) ?_
          refine AllReadyH.cons (o := ?o1y17) ?ho1y17 (fun KK hKK => ?st1y17) (AllReadyH.cons (o := ?o4y17) ?ho4y17 (fun KK hKK => ?st4y17) (AllReadyH.nil))
          case ho1y17 => (simp only [List.getElem?_toArray, List.getElem?_cons_succ, List.getElem?_cons_zero]; exact rfl)
          case ho4y17 => (simp only [List.getElem?_toArray, List.getElem?_cons_succ, List.getElem?_cons_zero]; exact rfl)
          case st1y17 =>
            have yl := hV4.cell 4
            simp only [List.getElem?_toArray, List.getElem?_cons_succ, List.getElem?_cons_zero] at yl
            rw [if_pos (by rfl)]
            go_simp
            refine hKK.out _ _ trivial (fun hHeld => ?_)
            clear hKK KK
            try simp only [Act.put, List.setIfInBounds_toArray, List.set_cons_zero, List.set_cons_succ]
            clear yl
            refine wpAnyH_ready (rs := [4]) (by kernel_rfl) (by simp) ?_
            refine AllReadyH.cons (o := ?o4y11) ?ho4y11 (fun KK hKK => ?st4y11) (AllReadyH.nil)
            case ho4y11 => (simp only [List.getElem?_toArray, List.getElem?_cons_succ, List.getElem?_cons_zero]; exact rfl)
            refine step_build1 (t := u) (e := nE) (by simp only [List.getElem?_toArray, List.getElem?_cons_succ, List.getElem?_cons_zero, Option.getD_some]) ?_
            have hVa := hV4.alloc (.cells #[.int .i64 u.k, .int .i64 u.n, .int .i64 u.x, .string u.s, .slice none 0 0] 26)
            refine hKK.out _ _ trivial (fun hHeld => ?_)
            clear hKK KK
            try simp only [Act.put, List.setIfInBounds_toArray, List.set_cons_zero, List.set_cons_succ]
            refine wpAnyH_ready (rs := [5]) (by kernel_rfl) (by simp) ?_
            refine AllReadyH.cons (o := ?o5y10) ?ho5y10 (fun KK hKK => ?st5y10) (AllReadyH.nil)
            case ho5y10 => (simp only [List.getElem?_toArray, List.getElem?_cons_succ, List.getElem?_cons_zero]; exact rfl)
            have zb4 : gv + 1 ≤ w4.heap.size := hV4.lt
            refine step_val1 hR4 (by simp only [List.getElem?_toArray, List.getElem?_cons_succ, List.getElem?_cons_zero, Option.getD_some]) rfl (by simp only [List.getElem?_toArray, List.getElem?_cons_succ, List.getElem?_cons_zero, Option.getD_some]) hu.1.1 hnm zb4 ?_; intro A3 c3 w6 h6 hb6
            have hV6 := hV4.below hb6 (by omega)
            clear hVa
            refine hKK.out _ _ trivial (fun hHeld => ?_)
            clear hKK KK
            try simp only [Act.put, List.setIfInBounds_toArray, List.set_cons_zero, List.set_cons_succ]
            refine wpAnyH_take (i := 6) (oi := ?oi6x8) (v := ?vv6x8) ?hi6x8 (by kernel_rfl) (by kernel_rfl) (by kernel_rfl) ?hQ6x8 (Or.inl ⟨?hw6x8, ?hy6x8⟩) hHeld ?rest6x8
            case hi6x8 => (simp only [List.getElem?_toArray, List.getElem?_cons_succ, List.getElem?_cons_zero]; exact rfl)
            case hQ6x8 => exact fun _ _ _ h => h
            case hw6x8 => rfl
            case hy6x8 => ((intro w hSw; (try dsimp only at hSw); go_simp) <;> (with_reducible rfl))
            try simp only [Act.put, List.setIfInBounds_toArray, List.set_cons_zero, List.set_cons_succ]
            refine wpAnyH_ready (rs := [7]) (by kernel_rfl) (by simp) ?_
            refine AllReadyH.cons (o := ?o7y9) ?ho7y9 (fun KK hKK => ?st7y9) (AllReadyH.nil)
            case ho7y9 => (simp only [List.getElem?_toArray, List.getElem?_cons_succ, List.getElem?_cons_zero]; exact rfl)
            have f7 := hV6.frozen 4
            have y6 := hV6.cell 4
            simp only [List.getElem?_toArray, List.getElem?_cons_succ, List.getElem?_cons_zero] at y6
            rw [if_pos (by rfl)]
            go_simp
            obtain ⟨E1, E2, E3, E4, E5⟩ := dr_put (hB4.below hb6 (by omega)) hV6 h6 (hC4.belowB hb6 (by omega)) (hF4.onBelow (hb6.mono (by omega))) hgv hwv (.slice A3 (j + 1) c3)
            refine hKK.out _ _ trivial (fun hHeld => ?_)
            clear hKK KK
            try simp only [Act.put, List.setIfInBounds_toArray, List.set_cons_zero, List.set_cons_succ]
            refine wpAnyH_done (by kernel_rfl) ?_ _
            refine NoPanic.normal ?_
            have hacc3 : ∀ x ∈ acc ++ [u], NameOk x := fun x hx => by
              rcases List.mem_append.1 hx with h1 | h1
              · exact hacc x h1
              · rw [List.mem_singleton] at h1; subst h1; exact hu
            clear hHeld hB4 hV4 hR4 hC4 hF4 hV6 h6 hb6 f7 y6 hacc hu zb4
            generalize w6.setCell ⟨gv, 4, none⟩ (.slice A3 (j + 1) c3) = w7 at E1 E2 E3 E4 E5 ⊢
            as_aux_lemma =>
              have hB := E1
              have hV := E2
              have hR := E3
              have hacc := hacc3
              have hC := E4
              have hF := E5
              clear E1 E2 E3 E4 E5 hacc3
              go_wp2_with fail
              refine (s_l1Once B g n c A b 12 _ hC (by decide)).mono ?_; rintro r w8 ⟨x8, rfl, hC8, hf8⟩
              replace hB := hB.fr_' hf8 (by simpa using hgn)
              replace hV := hV.fr_' hf8 (by simp; omega)
              replace hR := hR.frg hf8 (by omega)
              replace hF := hF.trans hf8
              clear hC hf8
              have hC := hC8
              clear hC8
              cases x8
              · have p0 := hV.cell 0
                have p1 := hV.cell 1
                have p2 := hV.cell 2
                have p3 := hV.cell 3
                have p4 := hV.cell 4
                simp only [List.getElem?_toArray, List.getElem?_cons_succ, List.getElem?_cons_zero] at p0 p1 p2 p3 p4
                obtain ⟨fp, hL, hO, -⟩ := hR.list hR.cap.1 hR.cap.2
                have hrn : w.heap.size ∉ fp := fun hx => by have := (hO.2 _ hx).1; omega
                obtain ⟨x0, x1, x2, x3, x4, ⟨s0, t0⟩, ⟨s1, t1⟩, ⟨s2, t2⟩, ⟨s3, t3⟩, s4, t4⟩ := hB.five (o := 0) (by simp) (.int .i64 10) (.int .i64 0) (.int .i64 0) (.string ⟨#[]⟩)
                have hE := leaf_put hB hC hF (Nat.le_refl _) hgl ⟨10, 0, 0, ⟨#[]⟩, (acc ++ [u])⟩ ⟨A3, (j + 1), c3, fp⟩
                have hT : NmT ⟨10, 0, 0, ⟨#[]⟩, (acc ++ [u])⟩ := nmT_mk (by exact .inl rfl) (by have := hR.len; omega) hacc
                have hL6 := hL.set5_ (o := 0) (t := ⟨10, 0, 0, ⟨#[]⟩, (acc ++ [u])⟩) (e2 := ⟨A3, (j + 1), c3, fp⟩) hrn
                have hO6 := (hO.set5_ (o := 0) (t := ⟨10, 0, 0, ⟨#[]⟩, (acc ++ [u])⟩) (e := ⟨A3, (j + 1), c3, fp⟩) hrn).mono (lo2 := w.heap.size) (by omega)
                clear hL hO hR hB hV hC hF hacc
                go_wp2_with fail
                exact bodyPost_ret (results_blk Tryz.results18 Tryz.isAgg26 (by exact Tryz.sizeOf26) rfl hE.1) rfl ⟨⟨10, 0, 0, ⟨#[]⟩, (acc ++ [u])⟩, ⟨A3, (j + 1), c3, fp⟩, rfl, hL6, hO6, hT, hE.2.1, hE.2.2⟩
              · have q0 := hV.cell 0
                have f0 := hV.frozen 0
                simp only [List.getElem?_toArray, List.getElem?_cons_succ, List.getElem?_cons_zero] at q0
                go_upto_region 10 with fail
                obtain ⟨E1, E2, E3, E4, E5⟩ := dr_put0 hB hV hR hC hF hgv hwv (.int .i64 9)
                clear q0 f0 hB hV hR hC hF
                generalize w8.setCell ⟨gv, 0, none⟩ (.int .i64 9) = w9 at E1 E2 E3 E4 E5 ⊢
                have hB := E1
                have hV := E2
                have hR := E3
                have hC := E4
                have hF := E5
                clear E1 E2 E3 E4 E5
                have p0 := hV.cell 0
                have p1 := hV.cell 1
                have p2 := hV.cell 2
                have p3 := hV.cell 3
                have p4 := hV.cell 4
                simp only [List.getElem?_toArray, List.getElem?_cons_succ, List.getElem?_cons_zero] at p0 p1 p2 p3 p4
                obtain ⟨fp, hL, hO, -⟩ := hR.list hR.cap.1 hR.cap.2
                have hrn : w.heap.size ∉ fp := fun hx => by have := (hO.2 _ hx).1; omega
                obtain ⟨x0, x1, x2, x3, x4, ⟨s0, t0⟩, ⟨s1, t1⟩, ⟨s2, t2⟩, ⟨s3, t3⟩, s4, t4⟩ := hB.five (o := 0) (by simp) (.int .i64 9) (.int .i64 0) (.int .i64 0) (.string ⟨#[]⟩)
                have hE := leaf_put hB hC hF (Nat.le_refl _) hgl ⟨9, 0, 0, ⟨#[]⟩, (acc ++ [u])⟩ ⟨A3, (j + 1), c3, fp⟩
                have hT : NmT ⟨9, 0, 0, ⟨#[]⟩, (acc ++ [u])⟩ := nmT_mk (by exact .inr rfl) (by have := hR.len; omega) hacc
                have hL6 := hL.set5_ (o := 0) (t := ⟨9, 0, 0, ⟨#[]⟩, (acc ++ [u])⟩) (e2 := ⟨A3, (j + 1), c3, fp⟩) hrn
                have hO6 := (hO.set5_ (o := 0) (t := ⟨9, 0, 0, ⟨#[]⟩, (acc ++ [u])⟩) (e := ⟨A3, (j + 1), c3, fp⟩) hrn).mono (lo2 := w.heap.size) (by omega)
                clear hL hO hR hB hV hC hF hacc
                go_wp2_with fail
                exact bodyPost_ret (results_blk Tryz.results18 Tryz.isAgg26 (by exact Tryz.sizeOf26) rfl hE.1) rfl ⟨⟨9, 0, 0, ⟨#[]⟩, (acc ++ [u])⟩, ⟨A3, (j + 1), c3, fp⟩, rfl, hL6, hO6, hT, hE.2.1, hE.2.2⟩
          case st4y17 =>
            refine step_build1 (t := u) (e := nE) (by simp only [List.getElem?_toArray, List.getElem?_cons_succ, List.getElem?_cons_zero, Option.getD_some]) ?_
            have hVa := hV4.alloc (.cells #[.int .i64 u.k, .int .i64 u.n, .int .i64 u.x, .string u.s, .slice none 0 0] 26)
            refine hKK.out _ _ trivial (fun hHeld => ?_)
            clear hKK KK
            try simp only [Act.put, List.setIfInBounds_toArray, List.set_cons_zero, List.set_cons_succ]
            refine wpAnyH_ready (rs := [1]) (by kernel_rfl) (by simp) ?_
            refine AllReadyH.cons (o := ?o1y16) ?ho1y16 (fun KK hKK => ?st1y16) (AllReadyH.nil)
            case ho1y16 => (simp only [List.getElem?_toArray, List.getElem?_cons_succ, List.getElem?_cons_zero]; exact rfl)
            have yl := hVa.cell 4
            simp only [List.getElem?_toArray, List.getElem?_cons_succ, List.getElem?_cons_zero] at yl
            rw [if_pos (by rfl)]
            go_simp
            refine hKK.out _ _ trivial (fun hHeld => ?_)
            clear hKK KK
            try simp only [Act.put, List.setIfInBounds_toArray, List.set_cons_zero, List.set_cons_succ]
            clear yl
            refine wpAnyH_ready (rs := [5]) (by kernel_rfl) (by simp) ?_
            refine AllReadyH.cons (o := ?o5y15) ?ho5y15 (fun KK hKK => ?st5y15) (AllReadyH.nil)
            case ho5y15 => (simp only [List.getElem?_toArray, List.getElem?_cons_succ, List.getElem?_cons_zero]; exact rfl)
            have zb4 : gv + 1 ≤ w4.heap.size := hV4.lt
            refine step_val1 hR4 (by simp only [List.getElem?_toArray, List.getElem?_cons_succ, List.getElem?_cons_zero, Option.getD_some]) rfl (by simp only [List.getElem?_toArray, List.getElem?_cons_succ, List.getElem?_cons_zero, Option.getD_some]) hu.1.1 hnm zb4 ?_; intro A3 c3 w6 h6 hb6
            have hV6 := hV4.below hb6 (by omega)
            clear hVa
            refine hKK.out _ _ trivial (fun hHeld => ?_)
            clear hKK KK
            try simp only [Act.put, List.setIfInBounds_toArray, List.set_cons_zero, List.set_cons_succ]
            refine wpAnyH_take (i := 6) (oi := ?oi6x13) (v := ?vv6x13) ?hi6x13 (by kernel_rfl) (by kernel_rfl) (by kernel_rfl) ?hQ6x13 (Or.inl ⟨?hw6x13, ?hy6x13⟩) hHeld ?rest6x13
            case hi6x13 => (simp only [List.getElem?_toArray, List.getElem?_cons_succ, List.getElem?_cons_zero]; exact rfl)
            case hQ6x13 => exact fun _ _ _ h => h
            case hw6x13 => rfl
            case hy6x13 => ((intro w hSw; (try dsimp only at hSw); go_simp) <;> (with_reducible rfl))
            try simp only [Act.put, List.setIfInBounds_toArray, List.set_cons_zero, List.set_cons_succ]
            refine wpAnyH_ready (rs := [7]) (by kernel_rfl) (by simp) ?_
            refine AllReadyH.cons (o := ?o7y14) ?ho7y14 (fun KK hKK => ?st7y14) (AllReadyH.nil)
            case ho7y14 => (simp only [List.getElem?_toArray, List.getElem?_cons_succ, List.getElem?_cons_zero]; exact rfl)
            have f7 := hV6.frozen 4
            have y6 := hV6.cell 4
            simp only [List.getElem?_toArray, List.getElem?_cons_succ, List.getElem?_cons_zero] at y6
            rw [if_pos (by rfl)]
            go_simp
            obtain ⟨E1, E2, E3, E4, E5⟩ := dr_put (hB4.below hb6 (by omega)) hV6 h6 (hC4.belowB hb6 (by omega)) (hF4.onBelow (hb6.mono (by omega))) hgv hwv (.slice A3 (j + 1) c3)
            refine hKK.out _ _ trivial (fun hHeld => ?_)
            clear hKK KK
            try simp only [Act.put, List.setIfInBounds_toArray, List.set_cons_zero, List.set_cons_succ]
            refine wpAnyH_done (by kernel_rfl) ?_ _
            refine NoPanic.normal ?_
            have hacc3 : ∀ x ∈ acc ++ [u], NameOk x := fun x hx => by
              rcases List.mem_append.1 hx with h1 | h1
              · exact hacc x h1
              · rw [List.mem_singleton] at h1; subst h1; exact hu
            clear hHeld hB4 hV4 hR4 hC4 hF4 hV6 h6 hb6 f7 y6 hacc hu zb4
            generalize w6.setCell ⟨gv, 4, none⟩ (.slice A3 (j + 1) c3) = w7 at E1 E2 E3 E4 E5 ⊢
            as_aux_lemma =>
              have hB := E1
              have hV := E2
              have hR := E3
              have hacc := hacc3
              have hC := E4
              have hF := E5
              clear E1 E2 E3 E4 E5 hacc3
              go_wp2_with fail
              refine (s_l1Once B g n c A b 12 _ hC (by decide)).mono ?_; rintro r w8 ⟨x8, rfl, hC8, hf8⟩
              replace hB := hB.fr_' hf8 (by simpa using hgn)
              replace hV := hV.fr_' hf8 (by simp; omega)
              replace hR := hR.frg hf8 (by omega)
              replace hF := hF.trans hf8
              clear hC hf8
              have hC := hC8
              clear hC8
              cases x8
              · have p0 := hV.cell 0
                have p1 := hV.cell 1
                have p2 := hV.cell 2
                have p3 := hV.cell 3
                have p4 := hV.cell 4
                simp only [List.getElem?_toArray, List.getElem?_cons_succ, List.getElem?_cons_zero] at p0 p1 p2 p3 p4
                obtain ⟨fp, hL, hO, -⟩ := hR.list hR.cap.1 hR.cap.2
                have hrn : w.heap.size ∉ fp := fun hx => by have := (hO.2 _ hx).1; omega
                obtain ⟨x0, x1, x2, x3, x4, ⟨s0, t0⟩, ⟨s1, t1⟩, ⟨s2, t2⟩, ⟨s3, t3⟩, s4, t4⟩ := hB.five (o := 0) (by simp) (.int .i64 10) (.int .i64 0) (.int .i64 0) (.string ⟨#[]⟩)
                have hE := leaf_put hB hC hF (Nat.le_refl _) hgl ⟨10, 0, 0, ⟨#[]⟩, (acc ++ [u])⟩ ⟨A3, (j + 1), c3, fp⟩
                have hT : NmT ⟨10, 0, 0, ⟨#[]⟩, (acc ++ [u])⟩ := nmT_mk (by exact .inl rfl) (by have := hR.len; omega) hacc
                have hL6 := hL.set5_ (o := 0) (t := ⟨10, 0, 0, ⟨#[]⟩, (acc ++ [u])⟩) (e2 := ⟨A3, (j + 1), c3, fp⟩) hrn
                have hO6 := (hO.set5_ (o := 0) (t := ⟨10, 0, 0, ⟨#[]⟩, (acc ++ [u])⟩) (e := ⟨A3, (j + 1), c3, fp⟩) hrn).mono (lo2 := w.heap.size) (by omega)
                clear hL hO hR hB hV hC hF hacc
                go_wp2_with fail
                exact bodyPost_ret (results_blk Tryz.results18 Tryz.isAgg26 (by exact Tryz.sizeOf26) rfl hE.1) rfl ⟨⟨10, 0, 0, ⟨#[]⟩, (acc ++ [u])⟩, ⟨A3, (j + 1), c3, fp⟩, rfl, hL6, hO6, hT, hE.2.1, hE.2.2⟩
              · have q0 := hV.cell 0
                have f0 := hV.frozen 0
                simp only [List.getElem?_toArray, List.getElem?_cons_succ, List.getElem?_cons_zero] at q0
                go_upto_region 10 with fail
                obtain ⟨E1, E2, E3, E4, E5⟩ := dr_put0 hB hV hR hC hF hgv hwv (.int .i64 9)
                clear q0 f0 hB hV hR hC hF
                generalize w8.setCell ⟨gv, 0, none⟩ (.int .i64 9) = w9 at E1 E2 E3 E4 E5 ⊢
                have hB := E1
                have hV := E2
                have hR := E3
                have hC := E4
                have hF := E5
                clear E1 E2 E3 E4 E5
                have p0 := hV.cell 0
                have p1 := hV.cell 1
                have p2 := hV.cell 2
                have p3 := hV.cell 3
                have p4 := hV.cell 4
                simp only [List.getElem?_toArray, List.getElem?_cons_succ, List.getElem?_cons_zero] at p0 p1 p2 p3 p4
                obtain ⟨fp, hL, hO, -⟩ := hR.list hR.cap.1 hR.cap.2
                have hrn : w.heap.size ∉ fp := fun hx => by have := (hO.2 _ hx).1; omega
                obtain ⟨x0, x1, x2, x3, x4, ⟨s0, t0⟩, ⟨s1, t1⟩, ⟨s2, t2⟩, ⟨s3, t3⟩, s4, t4⟩ := hB.five (o := 0) (by simp) (.int .i64 9) (.int .i64 0) (.int .i64 0) (.string ⟨#[]⟩)
                have hE := leaf_put hB hC hF (Nat.le_refl _) hgl ⟨9, 0, 0, ⟨#[]⟩, (acc ++ [u])⟩ ⟨A3, (j + 1), c3, fp⟩
                have hT : NmT ⟨9, 0, 0, ⟨#[]⟩, (acc ++ [u])⟩ := nmT_mk (by exact .inr rfl) (by have := hR.len; omega) hacc
                have hL6 := hL.set5_ (o := 0) (t := ⟨9, 0, 0, ⟨#[]⟩, (acc ++ [u])⟩) (e2 := ⟨A3, (j + 1), c3, fp⟩) hrn
                have hO6 := (hO.set5_ (o := 0) (t := ⟨9, 0, 0, ⟨#[]⟩, (acc ++ [u])⟩) (e := ⟨A3, (j + 1), c3, fp⟩) hrn).mono (lo2 := w.heap.size) (by omega)
                clear hL hO hR hB hV hC hF hacc
                go_wp2_with fail
                exact bodyPost_ret (results_blk Tryz.results18 Tryz.isAgg26 (by exact Tryz.sizeOf26) rfl hE.1) rfl ⟨⟨9, 0, 0, ⟨#[]⟩, (acc ++ [u])⟩, ⟨A3, (j + 1), c3, fp⟩, rfl, hL6, hO6, hT, hE.2.1, hE.2.2⟩
    | succ f =>
      have hpos : (0 : Int) < ((f + 1 : Nat) : Int) := by omega
      have hnm : j + 2 ≤ 1099511627776 := by omega
      go_upto_region 5 with fail
      have kd := (Below.refl wr.heap.size wr).drew
      have hBd := hB.below kd hB.lt
      have hVd := hV.below kd hV.lt
      have hRd := hR.below kd
      have hCd := hC.below kd
      have hFd := hF.trans (Fr.of_below kd)
      clear hB hV hR hC hF kd
      refine wp_region_noPanic ?_
      refine wp_region_held_drew (S := fun _ => True) (by kernel_rfl) (trivial) (fun hHeld => ?_)
      generalize wr.drew = wv at hBd hVd hRd hCd hFd ⊢
      refine wpAnyH_take (i := 0) (oi := ?oi0x19) (v := ?vv0x19) ?hi0x19 (by kernel_rfl) (by kernel_rfl) (by kernel_rfl) ?hQ0x19 (Or.inl ⟨?hw0x19, ?hy0x19⟩) hHeld ?rest0x19
      case hi0x19 => (simp only [List.getElem?_toArray, List.getElem?_cons_succ, List.getElem?_cons_zero]; exact rfl)
      case hQ0x19 => exact fun _ _ _ h => h
      case hw0x19 => rfl
      case hy0x19 => ((intro w hSw; (try dsimp only at hSw); go_simp) <;> (with_reducible rfl))
      try simp only [Act.put, List.setIfInBounds_toArray, List.set_cons_zero, List.set_cons_succ]
      refine wpAnyH_take (i := 2) (oi := ?oi2x20) (v := ?vv2x20) ?hi2x20 (by kernel_rfl) (by kernel_rfl) (by kernel_rfl) ?hQ2x20 (Or.inl ⟨?hw2x20, ?hy2x20⟩) hHeld ?rest2x20
      case hi2x20 => (simp only [List.getElem?_toArray, List.getElem?_cons_succ, List.getElem?_cons_zero]; exact rfl)
      case hQ2x20 => exact fun _ _ _ h => h
      case hw2x20 => rfl
      case hy2x20 => ((intro w hSw; (try dsimp only at hSw); go_simp) <;> (with_reducible rfl))
      try simp only [Act.put, List.setIfInBounds_toArray, List.set_cons_zero, List.set_cons_succ]
      refine wpAnyH_take (i := 4) (oi := ?oi4x21) (v := ?vv4x21) ?hi4x21 (by kernel_rfl) (by kernel_rfl) (by kernel_rfl) ?hQ4x21 (Or.inl ⟨?hw4x21, ?hy4x21⟩) hHeld ?rest4x21
      case hi4x21 => (simp only [List.getElem?_toArray, List.getElem?_cons_succ, List.getElem?_cons_zero]; exact rfl)
      case hQ4x21 => exact fun _ _ _ h => h
      case hw4x21 => rfl
      case hy4x21 => ((intro w hSw; (try dsimp only at hSw); go_simp) <;> (with_reducible rfl))
      try simp only [Act.put, List.setIfInBounds_toArray, List.set_cons_zero, List.set_cons_succ]
      refine wpAnyH_ready (rs := [1, 3]) (by kernel_rfl) (by simp) ?_
      refine AllReadyH.cons (o := ?o1y52) ?ho1y52 (fun KK hKK => ?st1y52) (AllReadyH.cons (o := ?o3y52) ?ho3y52 (fun KK hKK => ?st3y52) (AllReadyH.nil))
      case ho1y52 => (simp only [List.getElem?_toArray, List.getElem?_cons_succ, List.getElem?_cons_zero]; exact rfl)
      case ho3y52 => (simp only [List.getElem?_toArray, List.getElem?_cons_succ, List.getElem?_cons_zero]; exact rfl)
      case st1y52 =>
        have yl := hVd.cell 4
        simp only [List.getElem?_toArray, List.getElem?_cons_succ, List.getElem?_cons_zero] at yl
        rw [if_pos (by rfl)]
        go_simp
        refine hKK.out _ _ trivial (fun hHeld => ?_)
        clear hKK KK
        try simp only [Act.put, List.setIfInBounds_toArray, List.set_cons_zero, List.set_cons_succ]
        clear yl
        refine wpAnyH_ready (rs := [3]) (by kernel_rfl) (by simp) ?_
        refine AllReadyH.cons (o := ?o3y28) ?ho3y28 (fun KK hKK => ?st3y28) (AllReadyH.nil)
        case ho3y28 => (simp only [List.getElem?_toArray, List.getElem?_cons_succ, List.getElem?_cons_zero]; exact rfl)
        rw [if_pos (by rfl)]
        go_simp
        go_at_call 33
        refine (s_l6NameK B g n c A b _ hCd).mono ?_; rintro r w4 ⟨u, rfl, hu, hC4, hf4⟩
        have hB4 := hBd.fr_' hf4 (by simpa using hgn)
        have hV4 := hVd.fr_' hf4 (by simp; omega)
        have hR4 := hRd.frg hf4 (by omega)
        have hF4 := hFd.trans hf4
        clear hBd hVd hRd hCd hFd hf4
        refine hKK.out _ _ trivial (fun hHeld => ?_)
        clear hKK KK
        try simp only [Act.put, List.setIfInBounds_toArray, List.set_cons_zero, List.set_cons_succ]
        refine wpAnyH_ready (rs := [5]) (by kernel_rfl) (by simp) ?_
        refine AllReadyH.cons (o := ?o5y27) ?ho5y27 (fun KK hKK => ?st5y27) (AllReadyH.nil)
        case ho5y27 => (simp only [List.getElem?_toArray, List.getElem?_cons_succ, List.getElem?_cons_zero]; exact rfl)
        rw [if_pos (by rfl)]
        go_simp
        go_at_call 23
        refine (s_l1Below B g n c A b 5 _ hC4 (by decide)).mono ?_; rintro r w5 ⟨z, rfl, hz, hC5, hf5⟩
        have hzb := hz.2 (by decide)
        have hB5 := hB4.fr_' hf5 (by simpa using hgn)
        have hV5 := hV4.fr_' hf5 (by simp; omega)
        have hR5 := hR4.frg hf5 (by omega)
        have hF5 := hF4.trans hf5
        clear hB4 hV4 hR4 hC4 hF4 hf5 hz
        refine hKK.out _ _ trivial (fun hHeld => ?_)
        clear hKK KK
        try simp only [Act.put, List.setIfInBounds_toArray, List.set_cons_zero, List.set_cons_succ]
        refine wpAnyH_ready (rs := [6]) (by kernel_rfl) (by simp) ?_
        refine AllReadyH.cons (o := ?o6y26) ?ho6y26 (fun KK hKK => ?st6y26) (AllReadyH.nil)
        case ho6y26 => (simp only [List.getElem?_toArray, List.getElem?_cons_succ, List.getElem?_cons_zero]; exact rfl)
        rw [if_pos (by rfl)]
        go_simp
        go_at_call 34
        refine (s_IntVal z _).mono ?_; rintro r w6 ⟨rfl, hb6⟩
        have hu2 := NameOk.int (n := z) (by omega)
        generalize leafTr 3 z 0 ⟨#[]⟩ = u2 at hu2 ⊢
        have hB6 := hB5.below hb6 hB5.lt
        have hV6 := hV5.below hb6 hV5.lt
        have hR6 := hR5.below hb6
        have hC6 := hC5.below hb6
        have hF6 := hF5.onBelow (hb6.mono hF5.size)
        clear hB5 hV5 hR5 hC5 hF5 hb6 hzb
        refine hKK.out _ _ trivial (fun hHeld => ?_)
        clear hKK KK
        try simp only [Act.put, List.setIfInBounds_toArray, List.set_cons_zero, List.set_cons_succ]
        refine wpAnyH_ready (rs := [7]) (by kernel_rfl) (by simp) ?_
        refine AllReadyH.cons (o := ?o7y25) ?ho7y25 (fun KK hKK => ?st7y25) (AllReadyH.nil)
        case ho7y25 => (simp only [List.getElem?_toArray, List.getElem?_cons_succ, List.getElem?_cons_zero]; exact rfl)
        refine step_build2 (t := u) (e := nE) (u := u2) (f := nE) (by simp only [List.getElem?_toArray, List.getElem?_cons_succ, List.getElem?_cons_zero, Option.getD_some]) (by simp only [List.getElem?_toArray, List.getElem?_cons_succ, List.getElem?_cons_zero, Option.getD_some]) ?_
        have hVa := hV6.alloc (.cells #[.int .i64 u.k, .int .i64 u.n, .int .i64 u.x, .string u.s, .slice none 0 0, .int .i64 u2.k, .int .i64 u2.n, .int .i64 u2.x, .string u2.s, .slice none 0 0] 26)
        refine hKK.out _ _ trivial (fun hHeld => ?_)
        clear hKK KK
        try simp only [Act.put, List.setIfInBounds_toArray, List.set_cons_zero, List.set_cons_succ]
        refine wpAnyH_ready (rs := [8]) (by kernel_rfl) (by simp) ?_
        refine AllReadyH.cons (o := ?o8y24) ?ho8y24 (fun KK hKK => ?st8y24) (AllReadyH.nil)
        case ho8y24 => (simp only [List.getElem?_toArray, List.getElem?_cons_succ, List.getElem?_cons_zero]; exact rfl)
        have zb6 : gv + 1 ≤ w6.heap.size := hV6.lt
        refine step_val2 hR6 (by simp only [List.getElem?_toArray, List.getElem?_cons_succ, List.getElem?_cons_zero, Option.getD_some]) rfl (by simp only [List.getElem?_toArray, List.getElem?_cons_succ, List.getElem?_cons_zero, Option.getD_some]) hu.1.1 hu2.1.1 hnm zb6 ?_; intro A3 c3 w7 h7 hb7
        have hV7 := hV6.below hb7 (by omega)
        clear hVa
        refine hKK.out _ _ trivial (fun hHeld => ?_)
        clear hKK KK
        try simp only [Act.put, List.setIfInBounds_toArray, List.set_cons_zero, List.set_cons_succ]
        refine wpAnyH_take (i := 9) (oi := ?oi9x22) (v := ?vv9x22) ?hi9x22 (by kernel_rfl) (by kernel_rfl) (by kernel_rfl) ?hQ9x22 (Or.inl ⟨?hw9x22, ?hy9x22⟩) hHeld ?rest9x22
        case hi9x22 => (simp only [List.getElem?_toArray, List.getElem?_cons_succ, List.getElem?_cons_zero]; exact rfl)
        case hQ9x22 => exact fun _ _ _ h => h
        case hw9x22 => rfl
        case hy9x22 => ((intro w hSw; (try dsimp only at hSw); go_simp) <;> (with_reducible rfl))
        try simp only [Act.put, List.setIfInBounds_toArray, List.set_cons_zero, List.set_cons_succ]
        refine wpAnyH_ready (rs := [10]) (by kernel_rfl) (by simp) ?_
        refine AllReadyH.cons (o := ?o10y23) ?ho10y23 (fun KK hKK => ?st10y23) (AllReadyH.nil)
        case ho10y23 => (simp only [List.getElem?_toArray, List.getElem?_cons_succ, List.getElem?_cons_zero]; exact rfl)
        have f7 := hV7.frozen 4
        have y7 := hV7.cell 4
        simp only [List.getElem?_toArray, List.getElem?_cons_succ, List.getElem?_cons_zero] at y7
        rw [if_pos (by rfl)]
        go_simp
        obtain ⟨E1, E2, E3, E4, E5⟩ := dr_put (hB6.below hb7 (by omega)) hV7 h7 (hC6.belowB hb7 (by omega)) (hF6.onBelow (hb7.mono (by omega))) hgv hwv (.slice A3 (j + 2) c3)
        refine hKK.out _ _ trivial (fun hHeld => ?_)
        clear hKK KK
        try simp only [Act.put, List.setIfInBounds_toArray, List.set_cons_zero, List.set_cons_succ]
        refine wpAnyH_done (by kernel_rfl) ?_ _
        refine NoPanic.normal ?_
        have hacc3 : ∀ x ∈ acc ++ [u, u2], NameOk x := fun x hx => by
          rcases List.mem_append.1 hx with h1 | h1
          · exact hacc x h1
          · simp only [List.mem_cons, List.not_mem_nil, or_false] at h1; rcases h1 with rfl | rfl; exact hu; exact hu2
        clear hHeld hB6 hV6 hR6 hC6 hF6 hV7 h7 hb7 f7 y7 hacc hu hu2 zb6
        generalize w7.setCell ⟨gv, 4, none⟩ (.slice A3 (j + 2) c3) = w8 at E1 E2 E3 E4 E5 ⊢
        as_aux_lemma =>
          go_wp2_with fail
          go_roundg f
          case measure => omega
          case rel => exact ⟨j + 2, c3, A3, acc ++ [u, u2], es ++ [nE, nE], by go_num, by omega, E1, E2, E3, hacc3, E4, E5⟩
      case st3y52 =>
        rw [if_pos (by rfl)]
        go_simp
        go_at_call 33
        refine (s_l6NameK B g n c A b _ hCd).mono ?_; rintro r w4 ⟨u, rfl, hu, hC4, hf4⟩
        have hB4 := hBd.fr_' hf4 (by simpa using hgn)
        have hV4 := hVd.fr_' hf4 (by simp; omega)
        have hR4 := hRd.frg hf4 (by omega)
        have hF4 := hFd.trans hf4
        clear hBd hVd hRd hCd hFd hf4
        refine hKK.out _ _ trivial (fun hHeld => ?_)
        clear hKK KK
        try simp only [Act.put, List.setIfInBounds_toArray, List.set_cons_zero, List.set_cons_succ]
        refine wpAnyH_ready (rs := [1, 5]) (by kernel_rfl) (by simp) ?_
        refine AllReadyH.cons (o := ?o1y51) ?ho1y51 (fun KK hKK => ?st1y51) (AllReadyH.cons (o := ?o5y51) ?ho5y51 (fun KK hKK => ?st5y51) (AllReadyH.nil))
        case ho1y51 => (simp only [List.getElem?_toArray, List.getElem?_cons_succ, List.getElem?_cons_zero]; exact rfl)
        case ho5y51 => (simp only [List.getElem?_toArray, List.getElem?_cons_succ, List.getElem?_cons_zero]; exact rfl)
        case st1y51 =>
          have yl := hV4.cell 4
          simp only [List.getElem?_toArray, List.getElem?_cons_succ, List.getElem?_cons_zero] at yl
          rw [if_pos (by rfl)]
          go_simp
          refine hKK.out _ _ trivial (fun hHeld => ?_)
          clear hKK KK
          try simp only [Act.put, List.setIfInBounds_toArray, List.set_cons_zero, List.set_cons_succ]
          clear yl
          refine wpAnyH_ready (rs := [5]) (by kernel_rfl) (by simp) ?_
          refine AllReadyH.cons (o := ?o5y34) ?ho5y34 (fun KK hKK => ?st5y34) (AllReadyH.nil)
          case ho5y34 => (simp only [List.getElem?_toArray, List.getElem?_cons_succ, List.getElem?_cons_zero]; exact rfl)
          rw [if_pos (by rfl)]
          go_simp
          go_at_call 23
          refine (s_l1Below B g n c A b 5 _ hC4 (by decide)).mono ?_; rintro r w5 ⟨z, rfl, hz, hC5, hf5⟩
          have hzb := hz.2 (by decide)
          have hB5 := hB4.fr_' hf5 (by simpa using hgn)
          have hV5 := hV4.fr_' hf5 (by simp; omega)
          have hR5 := hR4.frg hf5 (by omega)
          have hF5 := hF4.trans hf5
          clear hB4 hV4 hR4 hC4 hF4 hf5 hz
          refine hKK.out _ _ trivial (fun hHeld => ?_)
          clear hKK KK
          try simp only [Act.put, List.setIfInBounds_toArray, List.set_cons_zero, List.set_cons_succ]
          refine wpAnyH_ready (rs := [6]) (by kernel_rfl) (by simp) ?_
          refine AllReadyH.cons (o := ?o6y33) ?ho6y33 (fun KK hKK => ?st6y33) (AllReadyH.nil)
          case ho6y33 => (simp only [List.getElem?_toArray, List.getElem?_cons_succ, List.getElem?_cons_zero]; exact rfl)
          rw [if_pos (by rfl)]
          go_simp
          go_at_call 34
          refine (s_IntVal z _).mono ?_; rintro r w6 ⟨rfl, hb6⟩
          have hu2 := NameOk.int (n := z) (by omega)
          generalize leafTr 3 z 0 ⟨#[]⟩ = u2 at hu2 ⊢
          have hB6 := hB5.below hb6 hB5.lt
          have hV6 := hV5.below hb6 hV5.lt
          have hR6 := hR5.below hb6
          have hC6 := hC5.below hb6
          have hF6 := hF5.onBelow (hb6.mono hF5.size)
          clear hB5 hV5 hR5 hC5 hF5 hb6 hzb
          refine hKK.out _ _ trivial (fun hHeld => ?_)
          clear hKK KK
          try simp only [Act.put, List.setIfInBounds_toArray, List.set_cons_zero, List.set_cons_succ]
          refine wpAnyH_ready (rs := [7]) (by kernel_rfl) (by simp) ?_
          refine AllReadyH.cons (o := ?o7y32) ?ho7y32 (fun KK hKK => ?st7y32) (AllReadyH.nil)
          case ho7y32 => (simp only [List.getElem?_toArray, List.getElem?_cons_succ, List.getElem?_cons_zero]; exact rfl)
          refine step_build2 (t := u) (e := nE) (u := u2) (f := nE) (by simp only [List.getElem?_toArray, List.getElem?_cons_succ, List.getElem?_cons_zero, Option.getD_some]) (by simp only [List.getElem?_toArray, List.getElem?_cons_succ, List.getElem?_cons_zero, Option.getD_some]) ?_
          have hVa := hV6.alloc (.cells #[.int .i64 u.k, .int .i64 u.n, .int .i64 u.x, .string u.s, .slice none 0 0, .int .i64 u2.k, .int .i64 u2.n, .int .i64 u2.x, .string u2.s, .slice none 0 0] 26)
          refine hKK.out _ _ trivial (fun hHeld => ?_)
          clear hKK KK
          try simp only [Act.put, List.setIfInBounds_toArray, List.set_cons_zero, List.set_cons_succ]
          refine wpAnyH_ready (rs := [8]) (by kernel_rfl) (by simp) ?_
          refine AllReadyH.cons (o := ?o8y31) ?ho8y31 (fun KK hKK => ?st8y31) (AllReadyH.nil)
          case ho8y31 => (simp only [List.getElem?_toArray, List.getElem?_cons_succ, List.getElem?_cons_zero]; exact rfl)
          have zb6 : gv + 1 ≤ w6.heap.size := hV6.lt
          refine step_val2 hR6 (by simp only [List.getElem?_toArray, List.getElem?_cons_succ, List.getElem?_cons_zero, Option.getD_some]) rfl (by simp only [List.getElem?_toArray, List.getElem?_cons_succ, List.getElem?_cons_zero, Option.getD_some]) hu.1.1 hu2.1.1 hnm zb6 ?_; intro A3 c3 w7 h7 hb7
          have hV7 := hV6.below hb7 (by omega)
          clear hVa
          refine hKK.out _ _ trivial (fun hHeld => ?_)
          clear hKK KK
          try simp only [Act.put, List.setIfInBounds_toArray, List.set_cons_zero, List.set_cons_succ]
          refine wpAnyH_take (i := 9) (oi := ?oi9x29) (v := ?vv9x29) ?hi9x29 (by kernel_rfl) (by kernel_rfl) (by kernel_rfl) ?hQ9x29 (Or.inl ⟨?hw9x29, ?hy9x29⟩) hHeld ?rest9x29
          case hi9x29 => (simp only [List.getElem?_toArray, List.getElem?_cons_succ, List.getElem?_cons_zero]; exact rfl)
          case hQ9x29 => exact fun _ _ _ h => h
          case hw9x29 => rfl
          case hy9x29 => ((intro w hSw; (try dsimp only at hSw); go_simp) <;> (with_reducible rfl))
          try simp only [Act.put, List.setIfInBounds_toArray, List.set_cons_zero, List.set_cons_succ]
          refine wpAnyH_ready (rs := [10]) (by kernel_rfl) (by simp) ?_
          refine AllReadyH.cons (o := ?o10y30) ?ho10y30 (fun KK hKK => ?st10y30) (AllReadyH.nil)
          case ho10y30 => (simp only [List.getElem?_toArray, List.getElem?_cons_succ, List.getElem?_cons_zero]; exact rfl)
          have f7 := hV7.frozen 4
          have y7 := hV7.cell 4
          simp only [List.getElem?_toArray, List.getElem?_cons_succ, List.getElem?_cons_zero] at y7
          rw [if_pos (by rfl)]
          go_simp
          obtain ⟨E1, E2, E3, E4, E5⟩ := dr_put (hB6.below hb7 (by omega)) hV7 h7 (hC6.belowB hb7 (by omega)) (hF6.onBelow (hb7.mono (by omega))) hgv hwv (.slice A3 (j + 2) c3)
          refine hKK.out _ _ trivial (fun hHeld => ?_)
          clear hKK KK
          try simp only [Act.put, List.setIfInBounds_toArray, List.set_cons_zero, List.set_cons_succ]
          refine wpAnyH_done (by kernel_rfl) ?_ _
          refine NoPanic.normal ?_
          have hacc3 : ∀ x ∈ acc ++ [u, u2], NameOk x := fun x hx => by
            rcases List.mem_append.1 hx with h1 | h1
            · exact hacc x h1
            · simp only [List.mem_cons, List.not_mem_nil, or_false] at h1; rcases h1 with rfl | rfl; exact hu; exact hu2
          clear hHeld hB6 hV6 hR6 hC6 hF6 hV7 h7 hb7 f7 y7 hacc hu hu2 zb6
          generalize w7.setCell ⟨gv, 4, none⟩ (.slice A3 (j + 2) c3) = w8 at E1 E2 E3 E4 E5 ⊢
          as_aux_lemma =>
            go_wp2_with fail
            go_roundg f
            case measure => omega
            case rel => exact ⟨j + 2, c3, A3, acc ++ [u, u2], es ++ [nE, nE], by go_num, by omega, E1, E2, E3, hacc3, E4, E5⟩
        case st5y51 =>
          rw [if_pos (by rfl)]
          go_simp
          go_at_call 23
          refine (s_l1Below B g n c A b 5 _ hC4 (by decide)).mono ?_; rintro r w5 ⟨z, rfl, hz, hC5, hf5⟩
          have hzb := hz.2 (by decide)
          have hB5 := hB4.fr_' hf5 (by simpa using hgn)
          have hV5 := hV4.fr_' hf5 (by simp; omega)
          have hR5 := hR4.frg hf5 (by omega)
          have hF5 := hF4.trans hf5
          clear hB4 hV4 hR4 hC4 hF4 hf5 hz
          refine hKK.out _ _ trivial (fun hHeld => ?_)
          clear hKK KK
          try simp only [Act.put, List.setIfInBounds_toArray, List.set_cons_zero, List.set_cons_succ]
          refine wpAnyH_ready (rs := [1, 6]) (by kernel_rfl) (by simp) ?_
          refine AllReadyH.cons (o := ?o1y50) ?ho1y50 (fun KK hKK => ?st1y50) (AllReadyH.cons (o := ?o6y50) ?ho6y50 (fun KK hKK => ?st6y50) (AllReadyH.nil))
          case ho1y50 => (simp only [List.getElem?_toArray, List.getElem?_cons_succ, List.getElem?_cons_zero]; exact rfl)
          case ho6y50 => (simp only [List.getElem?_toArray, List.getElem?_cons_succ, List.getElem?_cons_zero]; exact rfl)
          case st1y50 =>
            have yl := hV5.cell 4
            simp only [List.getElem?_toArray, List.getElem?_cons_succ, List.getElem?_cons_zero] at yl
            rw [if_pos (by rfl)]
            go_simp
            refine hKK.out _ _ trivial (fun hHeld => ?_)
            clear hKK KK
            try simp only [Act.put, List.setIfInBounds_toArray, List.set_cons_zero, List.set_cons_succ]
            clear yl
            refine wpAnyH_ready (rs := [6]) (by kernel_rfl) (by simp) ?_
            refine AllReadyH.cons (o := ?o6y39) ?ho6y39 (fun KK hKK => ?st6y39) (AllReadyH.nil)
            case ho6y39 => (simp only [List.getElem?_toArray, List.getElem?_cons_succ, List.getElem?_cons_zero]; exact rfl)
            rw [if_pos (by rfl)]
            go_simp
            go_at_call 34
            refine (s_IntVal z _).mono ?_; rintro r w6 ⟨rfl, hb6⟩
            have hu2 := NameOk.int (n := z) (by omega)
            generalize leafTr 3 z 0 ⟨#[]⟩ = u2 at hu2 ⊢
            have hB6 := hB5.below hb6 hB5.lt
            have hV6 := hV5.below hb6 hV5.lt
            have hR6 := hR5.below hb6
            have hC6 := hC5.below hb6
            have hF6 := hF5.onBelow (hb6.mono hF5.size)
            clear hB5 hV5 hR5 hC5 hF5 hb6 hzb
            refine hKK.out _ _ trivial (fun hHeld => ?_)
            clear hKK KK
            try simp only [Act.put, List.setIfInBounds_toArray, List.set_cons_zero, List.set_cons_succ]
            refine wpAnyH_ready (rs := [7]) (by kernel_rfl) (by simp) ?_
            refine AllReadyH.cons (o := ?o7y38) ?ho7y38 (fun KK hKK => ?st7y38) (AllReadyH.nil)
            case ho7y38 => (simp only [List.getElem?_toArray, List.getElem?_cons_succ, List.getElem?_cons_zero]; exact rfl)
            refine step_build2 (t := u) (e := nE) (u := u2) (f := nE) (by simp only [List.getElem?_toArray, List.getElem?_cons_succ, List.getElem?_cons_zero, Option.getD_some]) (by simp only [List.getElem?_toArray, List.getElem?_cons_succ, List.getElem?_cons_zero, Option.getD_some]) ?_
            have hVa := hV6.alloc (.cells #[.int .i64 u.k, .int .i64 u.n, .int .i64 u.x, .string u.s, .slice none 0 0, .int .i64 u2.k, .int .i64 u2.n, .int .i64 u2.x, .string u2.s, .slice none 0 0] 26)
            refine hKK.out _ _ trivial (fun hHeld => ?_)
            clear hKK KK
            try simp only [Act.put, List.setIfInBounds_toArray, List.set_cons_zero, List.set_cons_succ]
            refine wpAnyH_ready (rs := [8]) (by kernel_rfl) (by simp) ?_
            refine AllReadyH.cons (o := ?o8y37) ?ho8y37 (fun KK hKK => ?st8y37) (AllReadyH.nil)
            case ho8y37 => (simp only [List.getElem?_toArray, List.getElem?_cons_succ, List.getElem?_cons_zero]; exact rfl)
            have zb6 : gv + 1 ≤ w6.heap.size := hV6.lt
            refine step_val2 hR6 (by simp only [List.getElem?_toArray, List.getElem?_cons_succ, List.getElem?_cons_zero, Option.getD_some]) rfl (by simp only [List.getElem?_toArray, List.getElem?_cons_succ, List.getElem?_cons_zero, Option.getD_some]) hu.1.1 hu2.1.1 hnm zb6 ?_; intro A3 c3 w7 h7 hb7
            have hV7 := hV6.below hb7 (by omega)
            clear hVa
            refine hKK.out _ _ trivial (fun hHeld => ?_)
            clear hKK KK
            try simp only [Act.put, List.setIfInBounds_toArray, List.set_cons_zero, List.set_cons_succ]
            refine wpAnyH_take (i := 9) (oi := ?oi9x35) (v := ?vv9x35) ?hi9x35 (by kernel_rfl) (by kernel_rfl) (by kernel_rfl) ?hQ9x35 (Or.inl ⟨?hw9x35, ?hy9x35⟩) hHeld ?rest9x35
            case hi9x35 => (simp only [List.getElem?_toArray, List.getElem?_cons_succ, List.getElem?_cons_zero]; exact rfl)
            case hQ9x35 => exact fun _ _ _ h => h
            case hw9x35 => rfl
            case hy9x35 => ((intro w hSw; (try dsimp only at hSw); go_simp) <;> (with_reducible rfl))
            try simp only [Act.put, List.setIfInBounds_toArray, List.set_cons_zero, List.set_cons_succ]
            refine wpAnyH_ready (rs := [10]) (by kernel_rfl) (by simp) ?_
            refine AllReadyH.cons (o := ?o10y36) ?ho10y36 (fun KK hKK => ?st10y36) (AllReadyH.nil)
            case ho10y36 => (simp only [List.getElem?_toArray, List.getElem?_cons_succ, List.getElem?_cons_zero]; exact rfl)
            have f7 := hV7.frozen 4
            have y7 := hV7.cell 4
            simp only [List.getElem?_toArray, List.getElem?_cons_succ, List.getElem?_cons_zero] at y7
            rw [if_pos (by rfl)]
            go_simp
            obtain ⟨E1, E2, E3, E4, E5⟩ := dr_put (hB6.below hb7 (by omega)) hV7 h7 (hC6.belowB hb7 (by omega)) (hF6.onBelow (hb7.mono (by omega))) hgv hwv (.slice A3 (j + 2) c3)
            refine hKK.out _ _ trivial (fun hHeld => ?_)
            clear hKK KK
            try simp only [Act.put, List.setIfInBounds_toArray, List.set_cons_zero, List.set_cons_succ]
            refine wpAnyH_done (by kernel_rfl) ?_ _
            refine NoPanic.normal ?_
            have hacc3 : ∀ x ∈ acc ++ [u, u2], NameOk x := fun x hx => by
              rcases List.mem_append.1 hx with h1 | h1
              · exact hacc x h1
              · simp only [List.mem_cons, List.not_mem_nil, or_false] at h1; rcases h1 with rfl | rfl; exact hu; exact hu2
            clear hHeld hB6 hV6 hR6 hC6 hF6 hV7 h7 hb7 f7 y7 hacc hu hu2 zb6
            generalize w7.setCell ⟨gv, 4, none⟩ (.slice A3 (j + 2) c3) = w8 at E1 E2 E3 E4 E5 ⊢
            as_aux_lemma =>
              go_wp2_with fail
              go_roundg f
              case measure => omega
              case rel => exact ⟨j + 2, c3, A3, acc ++ [u, u2], es ++ [nE, nE], by go_num, by omega, E1, E2, E3, hacc3, E4, E5⟩
          case st6y50 =>
            rw [if_pos (by rfl)]
            go_simp
            go_at_call 34
            refine (s_IntVal z _).mono ?_; rintro r w6 ⟨rfl, hb6⟩
            have hu2 := NameOk.int (n := z) (by omega)
            generalize leafTr 3 z 0 ⟨#[]⟩ = u2 at hu2 ⊢
            have hB6 := hB5.below hb6 hB5.lt
            have hV6 := hV5.below hb6 hV5.lt
            have hR6 := hR5.below hb6
            have hC6 := hC5.below hb6
            have hF6 := hF5.onBelow (hb6.mono hF5.size)
            clear hB5 hV5 hR5 hC5 hF5 hb6 hzb
            refine hKK.out _ _ trivial (fun hHeld => ?_)
            clear hKK KK
            try simp only [Act.put, List.setIfInBounds_toArray, List.set_cons_zero, List.set_cons_succ]
            refine wpAnyH_ready (rs := [1, 7]) (by kernel_rfl) (by simp) ?_
            refine AllReadyH.cons (o := ?o1y49) ?ho1y49 (fun KK hKK => ?st1y49) (AllReadyH.cons (o := ?o7y49) ?ho7y49 (fun KK hKK => ?st7y49) (AllReadyH.nil))
            case ho1y49 => (simp only [List.getElem?_toArray, List.getElem?_cons_succ, List.getElem?_cons_zero]; exact rfl)
            case ho7y49 => (simp only [List.getElem?_toArray, List.getElem?_cons_succ, List.getElem?_cons_zero]; exact rfl)
            case st1y49 =>
              have yl := hV6.cell 4
              simp only [List.getElem?_toArray, List.getElem?_cons_succ, List.getElem?_cons_zero] at yl
              rw [if_pos (by rfl)]
              go_simp
              refine hKK.out _ _ trivial (fun hHeld => ?_)
              clear hKK KK
              try simp only [Act.put, List.setIfInBounds_toArray, List.set_cons_zero, List.set_cons_succ]
              clear yl
              refine wpAnyH_ready (rs := [7]) (by kernel_rfl) (by simp) ?_
              refine AllReadyH.cons (o := ?o7y43) ?ho7y43 (fun KK hKK => ?st7y43) (AllReadyH.nil)
              case ho7y43 => (simp only [List.getElem?_toArray, List.getElem?_cons_succ, List.getElem?_cons_zero]; exact rfl)
              refine step_build2 (t := u) (e := nE) (u := u2) (f := nE) (by simp only [List.getElem?_toArray, List.getElem?_cons_succ, List.getElem?_cons_zero, Option.getD_some]) (by simp only [List.getElem?_toArray, List.getElem?_cons_succ, List.getElem?_cons_zero, Option.getD_some]) ?_
              have hVa := hV6.alloc (.cells #[.int .i64 u.k, .int .i64 u.n, .int .i64 u.x, .string u.s, .slice none 0 0, .int .i64 u2.k, .int .i64 u2.n, .int .i64 u2.x, .string u2.s, .slice none 0 0] 26)
              refine hKK.out _ _ trivial (fun hHeld => ?_)
              clear hKK KK
              try simp only [Act.put, List.setIfInBounds_toArray, List.set_cons_zero, List.set_cons_succ]
              refine wpAnyH_ready (rs := [8]) (by kernel_rfl) (by simp) ?_
              refine AllReadyH.cons (o := ?o8y42) ?ho8y42 (fun KK hKK => ?st8y42) (AllReadyH.nil)
              case ho8y42 => (simp only [List.getElem?_toArray, List.getElem?_cons_succ, List.getElem?_cons_zero]; exact rfl)
              have zb6 : gv + 1 ≤ w6.heap.size := hV6.lt
              refine step_val2 hR6 (by simp only [List.getElem?_toArray, List.getElem?_cons_succ, List.getElem?_cons_zero, Option.getD_some]) rfl (by simp only [List.getElem?_toArray, List.getElem?_cons_succ, List.getElem?_cons_zero, Option.getD_some]) hu.1.1 hu2.1.1 hnm zb6 ?_; intro A3 c3 w7 h7 hb7
              have hV7 := hV6.below hb7 (by omega)
              clear hVa
              refine hKK.out _ _ trivial (fun hHeld => ?_)
              clear hKK KK
              try simp only [Act.put, List.setIfInBounds_toArray, List.set_cons_zero, List.set_cons_succ]
              refine wpAnyH_take (i := 9) (oi := ?oi9x40) (v := ?vv9x40) ?hi9x40 (by kernel_rfl) (by kernel_rfl) (by kernel_rfl) ?hQ9x40 (Or.inl ⟨?hw9x40, ?hy9x40⟩) hHeld ?rest9x40
              case hi9x40 => (simp only [List.getElem?_toArray, List.getElem?_cons_succ, List.getElem?_cons_zero]; exact rfl)
              case hQ9x40 => exact fun _ _ _ h => h
              case hw9x40 => rfl
              case hy9x40 => ((intro w hSw; (try dsimp only at hSw); go_simp) <;> (with_reducible rfl))
              try simp only [Act.put, List.setIfInBounds_toArray, List.set_cons_zero, List.set_cons_succ]
              refine wpAnyH_ready (rs := [10]) (by kernel_rfl) (by simp) ?_
              refine AllReadyH.cons (o := ?o10y41) ?ho10y41 (fun KK hKK => ?st10y41) (AllReadyH.nil)
              case ho10y41 => (simp only [List.getElem?_toArray, List.getElem?_cons_succ, List.getElem?_cons_zero]; exact rfl)
              have f7 := hV7.frozen 4
              have y7 := hV7.cell 4
              simp only [List.getElem?_toArray, List.getElem?_cons_succ, List.getElem?_cons_zero] at y7
              rw [if_pos (by rfl)]
              go_simp
              obtain ⟨E1, E2, E3, E4, E5⟩ := dr_put (hB6.below hb7 (by omega)) hV7 h7 (hC6.belowB hb7 (by omega)) (hF6.onBelow (hb7.mono (by omega))) hgv hwv (.slice A3 (j + 2) c3)
              refine hKK.out _ _ trivial (fun hHeld => ?_)
              clear hKK KK
              try simp only [Act.put, List.setIfInBounds_toArray, List.set_cons_zero, List.set_cons_succ]
              refine wpAnyH_done (by kernel_rfl) ?_ _
              refine NoPanic.normal ?_
              have hacc3 : ∀ x ∈ acc ++ [u, u2], NameOk x := fun x hx => by
                rcases List.mem_append.1 hx with h1 | h1
                · exact hacc x h1
                · simp only [List.mem_cons, List.not_mem_nil, or_false] at h1; rcases h1 with rfl | rfl; exact hu; exact hu2
              clear hHeld hB6 hV6 hR6 hC6 hF6 hV7 h7 hb7 f7 y7 hacc hu hu2 zb6
              generalize w7.setCell ⟨gv, 4, none⟩ (.slice A3 (j + 2) c3) = w8 at E1 E2 E3 E4 E5 ⊢
              as_aux_lemma =>
                go_wp2_with fail
                go_roundg f
                case measure => omega
                case rel => exact ⟨j + 2, c3, A3, acc ++ [u, u2], es ++ [nE, nE], by go_num, by omega, E1, E2, E3, hacc3, E4, E5⟩
            case st7y49 =>
              refine step_build2 (t := u) (e := nE) (u := u2) (f := nE) (by simp only [List.getElem?_toArray, List.getElem?_cons_succ, List.getElem?_cons_zero, Option.getD_some]) (by simp only [List.getElem?_toArray, List.getElem?_cons_succ, List.getElem?_cons_zero, Option.getD_some]) ?_
              have hVa := hV6.alloc (.cells #[.int .i64 u.k, .int .i64 u.n, .int .i64 u.x, .string u.s, .slice none 0 0, .int .i64 u2.k, .int .i64 u2.n, .int .i64 u2.x, .string u2.s, .slice none 0 0] 26)
              refine hKK.out _ _ trivial (fun hHeld => ?_)
              clear hKK KK
              try simp only [Act.put, List.setIfInBounds_toArray, List.set_cons_zero, List.set_cons_succ]
              refine wpAnyH_ready (rs := [1]) (by kernel_rfl) (by simp) ?_
              refine AllReadyH.cons (o := ?o1y48) ?ho1y48 (fun KK hKK => ?st1y48) (AllReadyH.nil)
              case ho1y48 => (simp only [List.getElem?_toArray, List.getElem?_cons_succ, List.getElem?_cons_zero]; exact rfl)
              have yl := hVa.cell 4
              simp only [List.getElem?_toArray, List.getElem?_cons_succ, List.getElem?_cons_zero] at yl
              rw [if_pos (by rfl)]
              go_simp
              refine hKK.out _ _ trivial (fun hHeld => ?_)
              clear hKK KK
              try simp only [Act.put, List.setIfInBounds_toArray, List.set_cons_zero, List.set_cons_succ]
              clear yl
              refine wpAnyH_ready (rs := [8]) (by kernel_rfl) (by simp) ?_
              refine AllReadyH.cons (o := ?o8y47) ?ho8y47 (fun KK hKK => ?st8y47) (AllReadyH.nil)
              case ho8y47 => (simp only [List.getElem?_toArray, List.getElem?_cons_succ, List.getElem?_cons_zero]; exact rfl)
              have zb6 : gv + 1 ≤ w6.heap.size := hV6.lt
              refine step_val2 hR6 (by simp only [List.getElem?_toArray, List.getElem?_cons_succ, List.getElem?_cons_zero, Option.getD_some]) rfl (by simp only [List.getElem?_toArray, List.getElem?_cons_succ, List.getElem?_cons_zero, Option.getD_some]) hu.1.1 hu2.1.1 hnm zb6 ?_; intro A3 c3 w7 h7 hb7
              have hV7 := hV6.below hb7 (by omega)
              clear hVa
              refine hKK.out _ _ trivial (fun hHeld => ?_)
              clear hKK KK
              try simp only [Act.put, List.setIfInBounds_toArray, List.set_cons_zero, List.set_cons_succ]
              refine wpAnyH_take (i := 9) (oi := ?oi9x45) (v := ?vv9x45) ?hi9x45 (by kernel_rfl) (by kernel_rfl) (by kernel_rfl) ?hQ9x45 (Or.inl ⟨?hw9x45, ?hy9x45⟩) hHeld ?rest9x45
              case hi9x45 => (simp only [List.getElem?_toArray, List.getElem?_cons_succ, List.getElem?_cons_zero]; exact rfl)
              case hQ9x45 => exact fun _ _ _ h => h
              case hw9x45 => rfl
              case hy9x45 => ((intro w hSw; (try dsimp only at hSw); go_simp) <;> (with_reducible rfl))
              try simp only [Act.put, List.setIfInBounds_toArray, List.set_cons_zero, List.set_cons_succ]
              refine wpAnyH_ready (rs := [10]) (by kernel_rfl) (by simp) ?_
              refine AllReadyH.cons (o := ?o10y46) ?ho10y46 (fun KK hKK => ?st10y46) (AllReadyH.nil)
              case ho10y46 => (simp only [List.getElem?_toArray, List.getElem?_cons_succ, List.getElem?_cons_zero]; exact rfl)
              have f7 := hV7.frozen 4
              have y7 := hV7.cell 4
              simp only [List.getElem?_toArray, List.getElem?_cons_succ, List.getElem?_cons_zero] at y7
              rw [if_pos (by rfl)]
              go_simp
              obtain ⟨E1, E2, E3, E4, E5⟩ := dr_put (hB6.below hb7 (by omega)) hV7 h7 (hC6.belowB hb7 (by omega)) (hF6.onBelow (hb7.mono (by omega))) hgv hwv (.slice A3 (j + 2) c3)
              refine hKK.out _ _ trivial (fun hHeld => ?_)
              clear hKK KK
              try simp only [Act.put, List.setIfInBounds_toArray, List.set_cons_zero, List.set_cons_succ]
              refine wpAnyH_done (by kernel_rfl) ?_ _
              refine NoPanic.normal ?_
              have hacc3 : ∀ x ∈ acc ++ [u, u2], NameOk x := fun x hx => by
                rcases List.mem_append.1 hx with h1 | h1
                · exact hacc x h1
                · simp only [List.mem_cons, List.not_mem_nil, or_false] at h1; rcases h1 with rfl | rfl; exact hu; exact hu2
              clear hHeld hB6 hV6 hR6 hC6 hF6 hV7 h7 hb7 f7 y7 hacc hu hu2 zb6
              generalize w7.setCell ⟨gv, 4, none⟩ (.slice A3 (j + 2) c3) = w8 at E1 E2 E3 E4 E5 ⊢
              as_aux_lemma =>
                go_wp2_with fail
                go_roundg f
                case measure => omega
                case rel => exact ⟨j + 2, c3, A3, acc ++ [u, u2], es ++ [nE, nE], by go_num, by omega, E1, E2, E3, hacc3, E4, E5⟩
set_option maxHeartbeats 2000000 in
theorem s_DrawSortTight (A : Option Addr) (n c : Nat) (b : List UInt8) (w : World) (h : Sl w w.heap.size 1 A n c (u8s b)) (hn : n ≤ 1048576) :
    Calls Tryz.prog 5 #[.slice A n c] w fun r w' => ∃ (t : Tr) (e : El), r = .returned (trV t e) ∧ LsAt w' t.l e ∧ e.lt w'.heap.size ∧ NmT t ∧ Below w.heap.size w w' := by
  have h0 : Sl (w.alloc (.cells #[.int .i64 0, .int .i64 0, .int .i64 0, .string ⟨#[]⟩, .slice none 0 0] 26)) (w.alloc (.cells #[.int .i64 0, .int .i64 0, .int .i64 0, .string ⟨#[]⟩, .slice none 0 0] 26)).heap.size 1 A n c (u8s b) := (h.alloc (Nat.le_refl _) _).more (by simp)
  have k0 := Below.one w (.cells #[.int .i64 0, .int .i64 0, .int .i64 0, .string ⟨#[]⟩, .slice none 0 0] 26)
  have hB := Blk.new w 26 #[.int .i64 0, .int .i64 0, .int .i64 0, .string ⟨#[]⟩, .slice none 0 0]
  have hz : (w.alloc (.cells #[.int .i64 0, .int .i64 0, .int .i64 0, .string ⟨#[]⟩, .slice none 0 0] 26)).heap.size = w.heap.size + 1 := by simp
  go_enter Tryz.func5, Tryz.ntmps5
  go_wp2_with fail
  refine (s_l1New A n c b _ h0 hn).mono ?_; rintro r w1 ⟨rfl, hC, hb1⟩
  rw [hz] at hC ⊢
  go_wp2_with fail
  refine (s_l7Names _ _ n c A b _ hC).mono ?_; rintro r w2 ⟨t, u, rfl, hl, ho, ht, hC2, hf2⟩
  have hB2 := Blk.fr_' (hB.below hb1 hB.lt) hf2 (by simp)
  obtain ⟨x0, x1, x2, x3, x4, ⟨s0, t0⟩, ⟨s1, t1⟩, ⟨s2, t2⟩, ⟨s3, t3⟩, s4, t4⟩ := hB2.five (o := 0) (by simp) (.int .i64 t.k) (.int .i64 t.n) (.int .i64 t.x) (.string t.s)
  have hE := hB2.five_ t u
  have hK := below_set5 (o := 0) (t := t) (e := u) ((k0.up hb1).trans (hf2.up (Nat.le_succ _) (k0.up hb1).size)) (Nat.le_refl w.heap.size)
  have hw1 : w.heap.size + 1 ≤ w1.heap.size := Nat.le_of_lt hC.lt
  have hrn : w.heap.size ∉ u.fp := fun hx => by have := (ho.2 _ hx).1; omega
  have hL6 := hl.set5_ (o := 0) (t := t) (e2 := u) hrn
  have hO6 := ho.set5_ (o := 0) (t := t) (e := u) hrn
  clear hl ho
  go_wp2_with fail
  exact bodyPost_ret (results_blk Tryz.results5 Tryz.isAgg26 (by exact Tryz.sizeOf26) rfl hE) rfl ⟨t, u, rfl, hL6, (fun x hx => hO6.lt hx), ht, hK⟩
end Go.Proofs.YtmnlkedacnemcaaGreatDoor
