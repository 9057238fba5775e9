/- SortMap: the program's, on names that have no trees below them. Written by gen/sortmap.py. -/
import Derived.Test.YtmnlkedacnemcaaGreatDoorTwSortTight
import Derived.Test.YtmnlkedacnemcaaGreatDoorTwLessVal2
set_option linter.unusedVariables false
set_option maxRecDepth 100000
set_option linter.unusedSimpArgs false
namespace Go.Proofs.YtmnlkedacnemcaaGreatDoor
open Go.RowKit

set_option maxHeartbeats 20000000 in
theorem i_sortPairsV (t : Tr) (e : El) (w : World) (hl : LsAt w t.l e) (hel : e.lt w.heap.size) (hwf : ∀ u ∈ t.l, NmOk u) (hm : t.sz ≤ 1048576) :
    Calls Tryz.prog 19 #[trV t e, .func (.func 32) #[] #[]] w fun r w' => CopyOf w w' r (sortV t) := by
  have hen := hl.len
  have hsz := t.sz_eq
  have hszl := szT_le t.l 0
  have hen9 : e.n ≤ 1048576 := by omega
  have k2 := Below.two w (.cells (valCells t e) 26) (.cells #[.int .i64 0, .int .i64 0, .int .i64 0, .string ⟨#[]⟩, .slice none 0 0] 26)
  have hZ : Blk ((w.alloc (.cells (valCells t e) 26)).alloc (.cells #[.int .i64 0, .int .i64 0, .int .i64 0, .string ⟨#[]⟩, .slice none 0 0] 26)) (w.heap.size + 1) 26 #[.int .i64 0, .int .i64 0, .int .i64 0, .string ⟨#[]⟩, .slice none 0 0] := by
    simpa using Blk.new (w.alloc (.cells (valCells t e) 26)) 26 #[.int .i64 0, .int .i64 0, .int .i64 0, .string ⟨#[]⟩, .slice none 0 0]
  have hV : Blk ((w.alloc (.cells (valCells t e) 26)).alloc (.cells #[.int .i64 0, .int .i64 0, .int .i64 0, .string ⟨#[]⟩, .slice none 0 0] 26)) w.heap.size 26 (valCells t e) := (Blk.new w _ _).alloc _
  have hcp := i_copyVal t e _ (hl.below hel k2) (hel.mono k2.size) (by omega)
  have hpr := fun w1 => i_isPaired t e w1 (by omega)
  obtain ⟨pr, hpd⟩ : ∃ p, decide (t.k = 10 ∧ e.n % 2 = 0) = p := ⟨_, rfl⟩
  rw [hpd] at hpr
  cases pr
  · have hst : sortV t = t := by
      unfold sortV
      rw [if_neg]
      rw [hen]
      simpa using hpd
    rw [hst]
    clear hpd hst
    go_enter Tryz.func19, Tryz.ntmps19
    go_wp2_with (first
      | (go_at_call 35; refine hcp.mono ?_; rintro r w1 ⟨v0, rfl, hv1, hv2, hb1⟩; obtain ⟨c0, c1, c2, c3, c4⟩ := (hV.below hb1 hV.lt).boxV; have hVl : w.heap.size < w1.heap.size := (hV.below hb1 hV.lt).lt)
      | (go_at_call 36; refine (hpr _).mono ?_; rintro r w3 ⟨rfl, hb3⟩; have BX := ((Blk.new w1 26 (valCells t v0)).below hb3 (by simp)); obtain ⟨d0, d1, d2, d3, d4⟩ := BX.boxV; have BZ := ((hZ.below hb1 hZ.lt).alloc (.cells (valCells t v0) 26)).below hb3 (by have := (hZ.below hb1 hZ.lt).lt; simp; omega); obtain ⟨x0, x1, x2, x3, x4, ⟨s0, t0⟩, ⟨s1, t1⟩, ⟨s2, t2⟩, ⟨s3, t3⟩, s4, t4⟩ := BZ.five (o := 0) (by simp) (.int .i64 t.k) (.int .i64 t.n) (.int .i64 t.x) (.string t.s)))
    have hn2 : w.heap.size + 1 ∉ v0.fp := fun hx => by have := (hv2.2 _ hx).1; simp at this; omega
    have kb3 := (Below.one w1 (.cells (valCells t v0) 26)).up hb3
    have hblk : Blk (set5 w3 (w.heap.size + 1) 0 t v0) (w.heap.size + 1) 26 _ := Blk.five_ BZ t v0
    have r1 : LsAt (set5 w3 (w.heap.size + 1) 0 t v0) t.l v0 := (hv1.below (fun g hg => hv2.lt hg) kb3).set5_ hn2
    have r2 : Own (set5 w3 (w.heap.size + 1) 0 t v0) w.heap.size v0.fp := Own.mono ((hv2.below (fun g hg => hv2.lt hg) kb3).set5_ hn2) k2.size
    have r3 : Below w.heap.size w (set5 w3 (w.heap.size + 1) 0 t v0) := below_set5 ((k2.up hb1).up kb3) (by omega)
    exact bodyPost_ret (results_blk Tryz.results19 Tryz.isAgg26 (by exact Tryz.sizeOf26) rfl hblk) rfl ⟨v0, rfl, r1, r2, r3⟩
  · have hpd2 : t.k = 10 ∧ e.n % 2 = 0 := by simpa using hpd
    have hst : sortV t = ⟨t.k, t.n, t.x, t.s, accV id t.l (t.l.length / 2)⟩ := by
      unfold sortV
      rw [if_pos]
      rw [hen]; exact hpd2
    rw [hst]
    obtain ⟨R, hR⟩ : ∃ R, accV id t.l (t.l.length / 2) = R := ⟨_, rfl⟩
    rw [hR]
    have hev : t.l.length % 2 = 0 := by rw [hen]; exact hpd2.2
    clear hpd hst hpd2
    go_enter Tryz.func19, Tryz.ntmps19
    go_wp2_with (first
      | (go_at_call 35; refine hcp.mono ?_; rintro r w1 ⟨v0, rfl, hv1, hv2, hb1⟩; obtain ⟨c0, c1, c2, c3, c4⟩ := (hV.below hb1 hV.lt).boxV; have hVl : w.heap.size < w1.heap.size := (hV.below hb1 hV.lt).lt)
      | (go_at_call 36; refine (hpr _).mono ?_; rintro r w3 ⟨rfl, hb3⟩; have BX := ((Blk.new w1 26 (valCells t v0)).below hb3 (by simp))))
    have BZ := ((hZ.below hb1 hZ.lt).alloc (.cells (valCells t v0) 26)).below hb3 (by have := (hZ.below hb1 hZ.lt).lt; simp; omega)
    have kb3 := (Below.one w1 (.cells (valCells t v0) 26)).up hb3
    have hl3 := hv1.below (fun g hg => hv2.lt hg) kb3
    have ho3 := (hv2.below (fun g hg => hv2.lt hg) kb3).mono (lo2 := w.heap.size + 2) (by simp)
    have k3 := (k2.up hb1).up kb3
    have hn3 : w1.heap.size ∉ v0.fp := fun hx => Nat.lt_irrefl _ (hv2.lt hx)
    have z1 : w.heap.size + 2 ≤ w1.heap.size := by have := hb1.size; simp at this; omega
    clear hcp hv1 hv2 hb1 hb3 hZ hV hpr kb3 hVl c0 c1 c2 c3 c4 k2
    generalize w1.heap.size = gx at BX hn3 z1 ⊢
    obtain ⟨vA, vn, vc, vfp⟩ := v0
    have hvn : t.l.length = vn := hl3.len
    have hvc : vn ≤ vc ∧ vc ≤ maxLen := ⟨((lsAt_iff _ _).1 hl3).2.1, ((lsAt_iff _ _).1 hl3).2.2.1⟩
    by_cases h0 : vn = 0
    · subst h0
      have htl : t.l = [] := List.eq_nil_of_length_eq_zero hvn
      have hRt : R = t.l := by rw [← hR, htl]; rfl
      have HRt := Lib.hid hRt
      have hn2 : w.heap.size + 1 ∉ vfp := fun hx => by have := (ho3.2 _ hx).1; omega
      clear hRt htl hR hvn hev hen
      go_loopg [6, 7] 0 (fun f zi zk wr => zi = .int .i64 2 ∧ wr = w3)
      case atStart => exact ⟨rfl, rfl⟩
      case round =>
        obtain ⟨rfl, hwr⟩ := hrel
        subst hwr
        obtain ⟨b0, b1, b2, b3, b4⟩ := BX.boxV
        obtain ⟨x0, x1, x2, x3, x4, ⟨s0, t0⟩, ⟨s1, t1⟩, ⟨s2, t2⟩, ⟨s3, t3⟩, s4, t4⟩ := BZ.five (o := 0) (by simp) (.int .i64 t.k) (.int .i64 t.n) (.int .i64 t.x) (.string t.s)
        go_wp2_with fail
        have hblk : Blk (set5 wr (w.heap.size + 1) 0 t ⟨vA, 0, vc, vfp⟩) (w.heap.size + 1) 26 _ := Blk.five_ BZ t ⟨vA, 0, vc, vfp⟩
        have r1 := hl3.set5_ (e2 := ⟨vA, 0, vc, vfp⟩) (g := w.heap.size + 1) (o := 0) (t := t) hn2
        have r2 := (ho3.mono (lo2 := w.heap.size) (by omega)).set5_ (g := w.heap.size + 1) (o := 0) (t := t) (e := ⟨vA, 0, vc, vfp⟩) hn2
        have r3 : Below w.heap.size w (set5 wr (w.heap.size + 1) 0 t ⟨vA, 0, vc, vfp⟩) := below_set5 k3 (by omega)
        have hrt := HRt.out
        exact bodyPost_ret (results_blk Tryz.results19 Tryz.isAgg26 (by exact Tryz.sizeOf26) rfl hblk) rfl ⟨⟨vA, 0, vc, vfp⟩, rfl, by rw [hrt]; exact r1, r2, r3⟩
    obtain ⟨g, o, es, hV3⟩ := hl3.open_ (by show 0 < vn; omega)
    have hA3 : vA = some ⟨g, o, none⟩ := hV3.adr
    have hgv : g ∈ vfp := by have := hV3.fp; simp only at this; rw [this]; exact List.mem_cons_self
    have hXf : (t.l.zip es).map Prod.fst = t.l := List.map_fst_zip (by have := hV3.eslen; simp only at this; omega)
    have hXl : (t.l.zip es).length = vn := by have := hV3.eslen; simp only at this; rw [List.length_zip]; omega
    have hX := RX.of hV3 ho3 (by show 0 < vn; omega)
    subst hA3
    have hR2 : (accV Prod.fst (t.l.zip es) (vn / 2)).map Prod.fst = R := by rw [accV_map, hXf, ← hvn, hR]
    have hXw : ∀ x ∈ t.l.zip es, NmOk x.1 ∧ x.1.sz ≤ 1048576 := fun x hx => by
      have hx2 : x.1 ∈ t.l := by rw [← hXf]; exact List.mem_map.2 ⟨x, hx, rfl⟩
      obtain ⟨i, hi, he⟩ := List.getElem_of_mem hx2
      exact ⟨hwf _ hx2, by rw [← he]; exact Nat.le_trans (child_sz hi) hm⟩
    generalize t.l.zip es = X at hX hXl hR2 hXw
    have hgx : gx ≠ g := fun e => hn3 (e ▸ hgv)
    have hglo := (hX.own.2 g List.mem_cons_self).1
    clear hV3 hl3 ho3 hXf
    go_loopg [6, 7] (vn / 2 - 1) (fun f zi zk wr => ∃ (j I : Nat), j + f = vn / 2 ∧ 1 ≤ j ∧ I = 2 * j ∧ zi = .int .i64 I ∧ RX wr (w.heap.size + 2) g o (accV Prod.fst X j ++ X.drop (2 * j)) ∧ Blk wr gx 26 (valCells t ⟨some ⟨g, o, none⟩, vn, vc, vfp⟩) ∧ Blk wr (w.heap.size + 1) 26 #[.int .i64 0, .int .i64 0, .int .i64 0, .string ⟨#[]⟩, .slice none 0 0] ∧ Below w.heap.size w wr)
    case atStart => exact ⟨1, 2, by omega, by omega, rfl, rfl, by rw [accV_one (by omega)]; exact hX, BX, BZ, k3⟩
    case round =>
      obtain ⟨j, I, hjf, hj1, hI, rfl, hXr, BXr, BZr, kr⟩ := hrel
      clear hX BX BZ k3
      obtain ⟨b0, b1, b2, b3, b4⟩ := BXr.boxV
      by_cases hlt : I < vn
      · obtain ⟨f, rfl⟩ : ∃ f, gk = f + 1 := ⟨gk - 1, by omega⟩
        have hjl : 2 * j + 1 < X.length := by omega
        have hacl := accV_len Prod.fst X j (by omega)
        have hac := accV_succ (f := Prod.fst) hjl
        have hdr : X.drop (2 * j) = X[2 * j] :: X[2 * j + 1] :: X.drop (2 * (j + 1)) := by
          rw [List.drop_eq_getElem_cons (show 2 * j < X.length by omega), List.drop_eq_getElem_cons (show 2 * j + 1 < X.length by omega)]
          rfl
        have hins : insG (accV Prod.fst X j) X[2 * j] X[2 * j + 1] j ++ X.drop (2 * (j + 1)) = accV Prod.fst X j ++ X.drop (2 * j) := by
          unfold insG
          rw [hdr, List.take_of_length_le (by omega), List.drop_eq_nil_of_le (by omega)]
          simp
        rw [← hins] at hXr
        have hawf := hXw X[2 * j] (List.getElem_mem _)
        have haccw : ∀ x ∈ accV Prod.fst X j, NmOk x.1 ∧ x.1.sz ≤ 1048576 := fun x hx => hXw x ((accV_perm Prod.fst X j (by omega)).mem_iff.1 (List.mem_append_left _ hx))
        generalize X[2 * j] = a at hac hXr hawf
        generalize X[2 * j + 1] = b at hac hXr
        obtain ⟨S, hSd⟩ : ∃ S, X.drop (2 * (j + 1)) = S := ⟨_, rfl⟩
        rw [hSd] at hXr
        obtain ⟨P, hP⟩ : ∃ P, posV Prod.fst (accV Prod.fst X j) a j = P := ⟨_, rfl⟩
        rw [hP] at hac
        generalize accV Prod.fst X j = acc at hac hXr hP hacl haccw
        clear hins hdr
        have HI := Lib.hid hI
        clear hI
        go_wp2_with fail
        go_loopg [7] j (fun f2 zk wi => ∃ z : Int, z = ((2 * f2 : Nat) : Int) ∧ f2 ≤ j ∧ zk = .int .i64 z ∧ posV Prod.fst acc a f2 = P ∧ RX wi (w.heap.size + 2) g o (insG acc a b f2 ++ S) ∧ Blk wi gx 26 (valCells t ⟨some ⟨g, o, none⟩, vn, vc, vfp⟩) ∧ Blk wi (w.heap.size + 1) 26 #[.int .i64 0, .int .i64 0, .int .i64 0, .string ⟨#[]⟩, .slice none 0 0] ∧ Below w.heap.size w wi)
        case atStart => exact ⟨I, by have := HI.out; omega, Nat.le_refl _, rfl, hP, hXr, BXr, BZr, kr⟩
        case round =>
          obtain ⟨z, hK0, hf2, rfl, hP2, hXi, BXi, BZi, ki⟩ := hrel
          clear hXr BXr BZr kr b0 b1 b2 b3 b4
          rcases Nat.eq_zero_or_pos gk with hz | hz
          · subst hz
            obtain rfl : z = 0 := by omega
            obtain rfl : P = 0 := hP2.symm
            rw [← hac] at hXi
            clear hac hP hP2 hacl haccw hawf hf2 hK0
            obtain ⟨b0, b1, b2, b3, b4⟩ := BXi.boxV
            go_wp2_with fail
            go_quiet (fail)
            go_wp2_with fail
            have hXd := hXi.below (below_drewN (Below.refl wr.heap.size wr) nq)
            rw [← hSd] at hXd
            go_roundg f
            case measure => omega
            case rel => exact ⟨j + 1, I + 2, by omega, by omega, by have := HI.out; omega, by go_num, hXd, BXi.drewN nq, BZi.drewN nq, below_drewN ki nq⟩
          · obtain ⟨f2, rfl⟩ : ∃ f2, gk = f2 + 1 := ⟨gk - 1, by omega⟩
            obtain ⟨K, hKf⟩ : ∃ K, K = 2 * f2 := ⟨_, rfl⟩
            obtain rfl : z = (K : Int) + 2 := by omega
            obtain ⟨Q, p, q, S2, hQl, hpi, hpm, hs1, hs2⟩ := insG_split (s := acc) (f := f2) (by omega) a b
            have hXi0 := hXi
            rw [hs1, List.append_assoc] at hXi
            simp only [List.cons_append] at hXi
            have hQK : Q.length = K := by omega
            have hca := hXi.cells (K + 2) a (by rw [List.getElem?_append_right (by omega)]; simp [hQK])
            have hcp := hXi.cells K p (by rw [List.getElem?_append_right (by omega)]; simp [hQK])
            have hcb := hXi.cells (K + 3) b (by rw [List.getElem?_append_right (by omega)]; simp [hQK])
            have hcq := hXi.cells (K + 1) q (by rw [List.getElem?_append_right (by omega)]; simp [hQK])
            have hLT := fun w1 (hb : Below wr.heap.size wr w1) => i_LessVal a.1 p.1 a.2 p.2 w1 hawf.1 (haccw p hpm).1 (((hXi.kids a (by simp)).below (hXi.lt (by simp)) hb)) (((hXi.kids p (by simp)).below (hXi.lt (by simp)) hb)) ((hXi.lt (x := a) (by simp)).mono hb.size) ((hXi.lt (x := p) (by simp)).mono hb.size) hawf.2 (haccw p hpm).2
            have hpos := fun h => posV_no (f := Prod.fst) (a := a) (k := f2) hpi h
            have hpos2 := fun h => posV_yes (f := Prod.fst) (a := a) (k := f2) hpi h
            have HK := Lib.hid hKf
            have hK1 : K + 2 < vn := by have := hXi.room; omega
            clear hKf hK0 hs1 hpi
            obtain ⟨L, hL⟩ : ∃ L, lessV a.1 p.1 = L := ⟨_, rfl⟩
            rw [hL] at hLT
            have hS0 := fun (w' : World) (hb : Below wr.heap.size wr w') => (show (w'.cell? ⟨gx, 4, none⟩ = some (.slice (some ⟨g, o, none⟩) vn vc) ∧ RowV w' g (o + (K + 2) * 5) a.1 a.2 ∧ RowV w' g (o + K * 5) p.1 p.2) ∧ Below wr.heap.size wr w' from ⟨⟨(BXi.below hb BXi.lt).boxV.2.2.2.2, (hXi.below hb).cells (K + 2) a (by rw [List.getElem?_append_right (by omega)]; simp [hQK]), (hXi.below hb).cells K p (by rw [List.getElem?_append_right (by omega)]; simp [hQK])⟩, hb⟩)
            have hLT2 := fun (w' : World) (h : (w'.cell? ⟨gx, 4, none⟩ = some (.slice (some ⟨g, o, none⟩) vn vc) ∧ RowV w' g (o + (K + 2) * 5) a.1 a.2 ∧ RowV w' g (o + K * 5) p.1 p.2) ∧ Below wr.heap.size wr w') => hLT w' h.2
            have n1 : (0 : Int) ≤ (K : Int) + 2 := by omega
            have n2 : (K : Int) + 2 < (vn : Int) := by omega
            have n3 : (0 : Int) ≤ (K : Int) := by omega
            have n4 : (K : Int) < (vn : Int) := by omega
            have n5 : (K : Int) + 2 - 2 = K := by omega
            have n6 : ((K : Int) + 2).toNat = K + 2 := by omega
            have n7 : IntKind.i64.wrap (K : Int) = K := by rw [IntKind.wrap_i64]; omega
            have n8 : IntKind.i64.wrap ((K : Int) + 2 - 2) = K := by rw [IntKind.wrap_i64]; omega
            have hbk : decide ((0 : Int) < (K : Int) + 2) = true := by simp; omega
            cases L
            · go_wp2_with fail
              go_region_held3 (fun w' => (w'.cell? ⟨gx, 4, none⟩ = some (.slice (some ⟨g, o, none⟩) vn vc) ∧ RowV w' g (o + (K + 2) * 5) a.1 a.2 ∧ RowV w' g (o + K * 5) p.1 p.2) ∧ Below wr.heap.size wr w')
                (first | exact hS0 _ (Below.refl _ _).drew | exact hS0 _ ((Below.refl _ _).drew.up hbA))
                (first | (go_at_call 32; refine (hLT2 _ (by assumption)).mono ?_; rintro r w9 ⟨rfl, hbA⟩))
              rename_i hHeld
              have kb := hHeld.2
              rename World => w9
              have hP3 : P = f2 + 1 := by rw [← hP2]; exact hpos hL
              rw [hP3] at hac
              have hXd := hXi0.below kb
              rw [← hac, ← hSd] at hXd
              clear hP hP2 hP3 hpos hpos2 hac hs2 hXi hXi0 hca hcp hcb hcq hHeld
              go_wp2_with fail
              go_roundg f
              case measure => omega
              case rel => exact ⟨j + 1, I + 2, by omega, by omega, by have := HI.out; omega, by go_num, hXd, BXi.below kb BXi.lt, BZi.below kb BZi.lt, ki.up kb⟩
            · go_wp2_with fail
              go_region_held3 (fun w' => (w'.cell? ⟨gx, 4, none⟩ = some (.slice (some ⟨g, o, none⟩) vn vc) ∧ RowV w' g (o + (K + 2) * 5) a.1 a.2 ∧ RowV w' g (o + K * 5) p.1 p.2) ∧ Below wr.heap.size wr w')
                (first | exact hS0 _ (Below.refl _ _).drew | exact hS0 _ ((Below.refl _ _).drew.up hbA))
                (first | (go_at_call 32; refine (hLT2 _ (by assumption)).mono ?_; rintro r w9 ⟨rfl, hbA⟩))
              rename_i hHeld
              have kb := hHeld.2
              rename World => w9
              obtain ⟨⟨d4, ⟨a0, a1, a2, a3, a4⟩, p0, p1, p2, p3, p4⟩, _⟩ := hHeld
              have hX9 := hXi.below kb
              obtain ⟨T9, cs9, hB9, hr9⟩ := hX9.room
              have hlen9 : (Q ++ p :: q :: a :: b :: (S2 ++ S)).length = K + 4 + (S2 ++ S).length := by simp [hQK]; omega
              have hP3 : posV Prod.fst acc a f2 = P := by rw [← hP2]; exact (hpos2 hL).symm
              have BX9 := BXi.below kb BXi.lt
              have BZ9 := BZi.below kb BZi.lt
              have ki9 := ki.up kb
              clear hP hP2 hpos hpos2 hac hXi hXi0 hca hcp hcb hcq hS0 hLT hLT2 hL
              have hH := hX9.half
              have h5a := hB9.five (o := o + (K + 2) * 5) (by omega) (.int .i64 p.1.k) (.int .i64 p.1.n) (.int .i64 p.1.x) (.string p.1.s)
              obtain ⟨cs10, hs10, hB10⟩ := hB9.set5_ (o := o + (K + 2) * 5) p.1 p.2
              have h5b := hB10.five (o := o + K * 5) (by omega) (.int .i64 a.1.k) (.int .i64 a.1.n) (.int .i64 a.1.x) (.string a.1.s)
              unfold set5 at h5b
              obtain ⟨x0, x1, x2, x3, x4, ⟨s0, t0⟩, ⟨s1, t1⟩, ⟨s2, t2⟩, ⟨s3, t3⟩, s4, t4⟩ := h5a
              obtain ⟨y0, y1, y2, y3, y4, ⟨u0, v0⟩, ⟨u1, v1⟩, ⟨u2, v2⟩, ⟨u3, v3⟩, u4, v4⟩ := h5b
              go_upto_region 10 with fail
              go_region
              go_upto_region 11 with fail
              as_aux_lemma =>
                have hH2 := ((hH.set_ (i := K + 2) (by omega) p).set_ (i := K) (by rw [List.length_set]; omega) a).drew
                have BX10 := ((BX9.far5 (o := o + (K + 2) * 5) (t := p.1) (e := p.2) hgx).far5 (o := o + K * 5) (t := a.1) (e := a.2) hgx).drew
                have BZ10 := ((BZ9.far5 (g := g) (o := o + (K + 2) * 5) (t := p.1) (e := p.2) (by omega)).far5 (g := g) (o := o + K * 5) (t := a.1) (e := a.2) (by omega)).drew
                have ki10 := (below_set5 (g := g) (o := o + K * 5) (t := a.1) (e := a.2) (below_set5 (g := g) (o := o + (K + 2) * 5) (t := p.1) (e := p.2) ki9 (by omega)) (by omega)).drew
                unfold set5 at hH2 BX10 BZ10 ki10
                clear x0 x1 x2 x3 x4 s0 t0 s1 t1 s2 t2 s3 t3 s4 t4 y0 y1 y2 y3 y4 u0 v0 u1 v1 u2 v2 u3 v3 u4 v4 a0 a1 a2 a3 a4 p0 p1 p2 p3 p4 d4 hB10 hs10 hB9 hr9 hX9 hH BX9 BZ9 ki9
                generalize ((((((((((w9.setCell ⟨g, o + (K + 2) * 5, none⟩ (.int .i64 p.1.k)).setCell ⟨g, o + (K + 2) * 5 + 1, none⟩ (.int .i64 p.1.n)).setCell ⟨g, o + (K + 2) * 5 + 2, none⟩ (.int .i64 p.1.x)).setCell ⟨g, o + (K + 2) * 5 + 3, none⟩ (.string p.1.s)).setCell ⟨g, o + (K + 2) * 5 + 4, none⟩ (.slice p.2.A p.2.n p.2.c)).setCell ⟨g, o + K * 5, none⟩ (.int .i64 a.1.k)).setCell ⟨g, o + K * 5 + 1, none⟩ (.int .i64 a.1.n)).setCell ⟨g, o + K * 5 + 2, none⟩ (.int .i64 a.1.x)).setCell ⟨g, o + K * 5 + 3, none⟩ (.string a.1.s)).setCell ⟨g, o + K * 5 + 4, none⟩ (.slice a.2.A a.2.n a.2.c)).drew = w10 at hH2 BX10 BZ10 ki10 ⊢
                refine wp_region_noPanic ?_
                have hSd : w10.drew.cell? ⟨gx, 4, none⟩ = some (.slice (some ⟨g, o, none⟩) vn vc) := BX10.drew.boxV.2.2.2.2
                refine wp_region_held_drew (S := fun w' => w'.cell? ⟨gx, 4, none⟩ = some (.slice (some ⟨g, o, none⟩) vn vc)) (by kernel_rfl) hSd (fun hHeld => ?_)
                replace hH2 := hH2.drew
                replace BX10 := BX10.drew
                replace BZ10 := BZ10.drew
                replace ki10 := ki10.drew
                clear hSd
                generalize w10.drew = wv at hHeld hH2 BX10 BZ10 ki10 ⊢
                have hlen10 : ((Q ++ p :: q :: a :: b :: (S2 ++ S)).set (K + 2) p).length = K + 4 + (S2 ++ S).length := by rw [List.length_set]; exact hlen9
                have hlen11 : (((Q ++ p :: q :: a :: b :: (S2 ++ S)).set (K + 2) p).set K a).length = K + 4 + (S2 ++ S).length := by rw [List.length_set]; exact hlen10
                obtain ⟨b0, b1, b2, b3, b4⟩ := hH2.cells (K + 3) b (by rw [← hQK]; simp [List.set_append])
                obtain ⟨q0, q1, q2, q3, q4⟩ := hH2.cells (K + 1) q (by rw [← hQK]; simp [List.set_append])
                obtain ⟨T10, csr, hBr, hrr⟩ := hH2.room
                have hra : o + (K + 3) * 5 + 5 ≤ csr.size := by omega
                obtain ⟨cs10, hs10, hB10⟩ := hBr.set5_ (o := o + (K + 3) * 5) q.1 q.2
                have hrb : o + (K + 1) * 5 + 5 ≤ cs10.size := by omega
                have hH4 := (hH2.set_ (i := K + 3) (by omega) q).set_ (i := K + 1) (by rw [List.length_set]; omega) b
                have hA5 := (BX10.far5 (o := o + (K + 3) * 5) (t := q.1) (e := q.2) hgx).boxV.2.2.2.2
                have BX11 := (BX10.far5 (o := o + (K + 3) * 5) (t := q.1) (e := q.2) hgx).far5 (o := o + (K + 1) * 5) (t := b.1) (e := b.2) hgx
                have hB5 := BX11.boxV.2.2.2.2
                have BZ11 := (BZ10.far5 (g := g) (o := o + (K + 3) * 5) (t := q.1) (e := q.2) (by omega)).far5 (g := g) (o := o + (K + 1) * 5) (t := b.1) (e := b.2) (by omega)
                have ki11 := below_set5 (g := g) (o := o + (K + 1) * 5) (t := b.1) (e := b.2) (below_set5 (g := g) (o := o + (K + 3) * 5) (t := q.1) (e := q.2) ki10 (by omega)) (by omega)
                rw [swap_pairs Q (S2 ++ S) p q a b K hQK] at hH4
                have hX11 := hH4.full (swap_perm Q (S2 ++ S) p q a b)
                have e11 : Q ++ a :: b :: p :: q :: (S2 ++ S) = insG acc a b f2 ++ S := by rw [hs2]; simp
                rw [e11] at hX11
                obtain ⟨ia, hia⟩ : ∃ ia, ia = K + 3 := ⟨_, rfl⟩
                obtain ⟨ib, hib⟩ : ∃ ib, ib = K + 1 := ⟨_, rfl⟩
                have lo1 : o + ia * 5 = o + (K + 3) * 5 := by rw [hia]
                have lo2 : o + ib * 5 = o + (K + 1) * 5 := by rw [hib]
                generalize o + (K + 3) * 5 = oa at b0 b1 b2 b3 b4 hra hB10 hX11 BX11 BZ11 ki11 lo1 hA5 hB5
                generalize o + (K + 1) * 5 = ob at q0 q1 q2 q3 q4 hrb hX11 BX11 BZ11 ki11 lo2 hB5
                obtain ⟨z, hz⟩ : ∃ z, z = (K : Int) + 2 := ⟨_, rfl⟩
                obtain ⟨za, hza⟩ : ∃ za, za = (K : Int) + 3 := ⟨_, rfl⟩
                obtain ⟨zb, hzb⟩ : ∃ zb, zb = (K : Int) + 1 := ⟨_, rfl⟩
                have m7 : IntKind.i64.wrap (z + 1) = za := by rw [IntKind.wrap_i64]; omega
                have m8 : IntKind.i64.wrap (z - 1) = zb := by rw [IntKind.wrap_i64]; omega
                have l1 : za < (vn : Int) := by omega
                have l2 : (0 : Int) ≤ za := by omega
                have l3 : zb < (vn : Int) := by omega
                have l4 : (0 : Int) ≤ zb := by omega
                have l5 : za.toNat = ia := by omega
                have l6 : zb.toNat = ib := by omega
                rw [← hz]
                have HZ := Lib.hid (And.intro hz (And.intro hQK hs2))
                have N7 := Lib.hid (And.intro n7 n8)
                have HSA := Lib.hid (And.intro hBr hra)
                have HSB := Lib.hid (And.intro hB10 hrb)
                clear hz hza hzb hia hib hlen10 hlen11 hlen9 hH2 hBr hrr hB10 hs10 hra hrb BX10 BZ10 ki10 hH4 e11 hQK hs2 n1 n2 n3 n4 n5 n6 n7 n8 hbk
                have HR11 := Lib.hid (And.intro hX11 (And.intro BX11 (And.intro BZ11 ki11)))
                have HF2 := Lib.hid hf2
                have HQ5 := Lib.hid (show Cells5 wv g ob q.1 q.2 from ⟨q0, q1, q2, q3, q4⟩)
                have HB55 := Lib.hid (show Cells5 wv g oa b.1 b.2 from ⟨b0, b1, b2, b3, b4⟩)
                have HA5 := Lib.hid hA5
                have HB5 := Lib.hid hB5
                clear hX11 BX11 BZ11 ki11 hA5 hB5 q0 q1 q2 q3 q4 b0 b1 b2 b3 b4 hm hsz hszl hen9 hen hev hR hvn hR2 hXl hXw hacl haccw hawf hSd hQl hpm hbA kb
                as_aux_lemma =>
                  refine wpAnyH_take (i := 0) (oi := ?oi0x1) (v := ?vv0x1) ?hi0x1 (by kernel_rfl) (by kernel_rfl) (by kernel_rfl) ?hQ0x1 (Or.inl ⟨?hw0x1, ?hy0x1⟩) hHeld ?rest0x1
                  case hi0x1 => (simp only [List.getElem?_toArray, List.getElem?_cons_succ, List.getElem?_cons_zero]; exact rfl)
                  case hQ0x1 => exact fun _ _ _ h => h
                  case hw0x1 => rfl
                  case hy0x1 => ((intro w hSw; (try dsimp only at hSw); go_simp) <;> (with_reducible rfl))
                  try simp only [Act.put, List.setIfInBounds_toArray, List.set_cons_zero, List.set_cons_succ]
                  refine wpAnyH_take (i := 1) (oi := ?oi1x2) (v := ?vv1x2) ?hi1x2 (by kernel_rfl) (by kernel_rfl) (by kernel_rfl) ?hQ1x2 (Or.inl ⟨?hw1x2, ?hy1x2⟩) hHeld ?rest1x2
                  case hi1x2 => (simp only [List.getElem?_toArray, List.getElem?_cons_succ, List.getElem?_cons_zero]; exact rfl)
                  case hQ1x2 => exact fun _ _ _ h => h
                  case hw1x2 => rfl
                  case hy1x2 => ((intro w hSw; (try dsimp only at hSw); go_simp) <;> (with_reducible rfl))
                  try simp only [Act.put, List.setIfInBounds_toArray, List.set_cons_zero, List.set_cons_succ]
                  refine wpAnyH_take (i := 2) (oi := ?oi2x3) (v := ?vv2x3) ?hi2x3 (by kernel_rfl) (by kernel_rfl) (by kernel_rfl) ?hQ2x3 (Or.inl ⟨?hw2x3, ?hy2x3⟩) hHeld ?rest2x3
                  case hi2x3 => (simp only [List.getElem?_toArray, List.getElem?_cons_succ, List.getElem?_cons_zero]; exact rfl)
                  case hQ2x3 => exact fun _ _ _ h => h
                  case hw2x3 => rfl
                  case hy2x3 => ((intro w hSw; (try dsimp only at hSw); go_simp) <;> (with_reducible rfl))
                  try simp only [Act.put, List.setIfInBounds_toArray, List.set_cons_zero, List.set_cons_succ]
                  refine wpAnyH_take (i := 3) (oi := ?oi3x4) (v := ?vv3x4) ?hi3x4 (by kernel_rfl) (by kernel_rfl) (by kernel_rfl) ?hQ3x4 (Or.inl ⟨?hw3x4, ?hy3x4⟩) hHeld ?rest3x4
                  case hi3x4 => (simp only [List.getElem?_toArray, List.getElem?_cons_succ, List.getElem?_cons_zero]; exact rfl)
                  case hQ3x4 => exact fun _ _ _ h => h
                  case hw3x4 => rfl
                  case hy3x4 => ((intro w hSw; (try dsimp only at hSw); go_simp) <;> (with_reducible rfl))
                  try simp only [Act.put, List.setIfInBounds_toArray, List.set_cons_zero, List.set_cons_succ]
                  refine wpAnyH_take (i := 4) (oi := ?oi4x5) (v := ?vv4x5) ?hi4x5 (by kernel_rfl) (by kernel_rfl) (by kernel_rfl) ?hQ4x5 (Or.inl ⟨?hw4x5, ?hy4x5⟩) hHeld ?rest4x5
                  case hi4x5 => (simp only [List.getElem?_toArray, List.getElem?_cons_succ, List.getElem?_cons_zero]; exact rfl)
                  case hQ4x5 => exact fun _ _ _ h => h
                  case hw4x5 => rfl
                  case hy4x5 => ((intro w hSw; (try dsimp only at hSw); go_simp) <;> (with_reducible rfl))
                  try simp only [Act.put, List.setIfInBounds_toArray, List.set_cons_zero, List.set_cons_succ]
                  refine wpAnyH_take (i := 5) (oi := ?oi5x6) (v := ?vv5x6) ?hi5x6 (by kernel_rfl) (by kernel_rfl) (by kernel_rfl) ?hQ5x6 (Or.inl ⟨?hw5x6, ?hy5x6⟩) hHeld ?rest5x6
                  case hi5x6 => (simp only [List.getElem?_toArray, List.getElem?_cons_succ, List.getElem?_cons_zero]; exact rfl)
                  case hQ5x6 => exact fun _ _ _ h => h
                  case hw5x6 => rfl
                  case hy5x6 => ((intro w hSw; (try dsimp only at hSw); go_simp) <;> (with_reducible rfl))
                  try simp only [Act.put, List.setIfInBounds_toArray, List.set_cons_zero, List.set_cons_succ]
                  refine wpAnyH_take (i := 6) (oi := ?oi6x7) (v := ?vv6x7) ?hi6x7 (by kernel_rfl) (by kernel_rfl) (by kernel_rfl) ?hQ6x7 (Or.inl ⟨?hw6x7, ?hy6x7⟩) hHeld ?rest6x7
                  case hi6x7 => (simp only [List.getElem?_toArray, List.getElem?_cons_succ, List.getElem?_cons_zero]; exact rfl)
                  case hQ6x7 => exact fun _ _ _ h => h
                  case hw6x7 => rfl
                  case hy6x7 => ((intro w hSw; (try dsimp only at hSw); go_simp) <;> (with_reducible rfl))
                  try simp only [Act.put, List.setIfInBounds_toArray, List.set_cons_zero, List.set_cons_succ]
                  refine wpAnyH_take (i := 7) (oi := ?oi7x8) (v := ?vv7x8) ?hi7x8 (by kernel_rfl) (by kernel_rfl) (by kernel_rfl) ?hQ7x8 (Or.inl ⟨?hw7x8, ?hy7x8⟩) hHeld ?rest7x8
                  case hi7x8 => (simp only [List.getElem?_toArray, List.getElem?_cons_succ, List.getElem?_cons_zero]; exact rfl)
                  case hQ7x8 => exact fun _ _ _ h => h
                  case hw7x8 => rfl
                  case hy7x8 => ((intro w hSw; (try dsimp only at hSw); go_simp) <;> (with_reducible rfl))
                  try simp only [Act.put, List.setIfInBounds_toArray, List.set_cons_zero, List.set_cons_succ]
                  refine wpAnyH_take (i := 8) (oi := ?oi8x9) (v := ?vv8x9) ?hi8x9 (by kernel_rfl) (by kernel_rfl) (by kernel_rfl) ?hQ8x9 (Or.inl ⟨?hw8x9, ?hy8x9⟩) hHeld ?rest8x9
                  case hi8x9 => (simp only [List.getElem?_toArray, List.getElem?_cons_succ, List.getElem?_cons_zero]; exact rfl)
                  case hQ8x9 => exact fun _ _ _ h => h
                  case hw8x9 => rfl
                  case hy8x9 => ((intro w hSw; (try dsimp only at hSw); go_simp) <;> (with_reducible rfl))
                  try simp only [Act.put, List.setIfInBounds_toArray, List.set_cons_zero, List.set_cons_succ]
                  refine wpAnyH_take (i := 9) (oi := ?oi9x10) (v := ?vv9x10) ?hi9x10 (by kernel_rfl) (by kernel_rfl) (by kernel_rfl) ?hQ9x10 (Or.inl ⟨?hw9x10, ?hy9x10⟩) hHeld ?rest9x10
                  case hi9x10 => (simp only [List.getElem?_toArray, List.getElem?_cons_succ, List.getElem?_cons_zero]; exact rfl)
                  case hQ9x10 => exact fun _ _ _ h => h
                  case hw9x10 => rfl
                  case hy9x10 => ((intro w hSw; (try dsimp only at hSw); go_simp) <;> (with_reducible rfl))
                  try simp only [Act.put, List.setIfInBounds_toArray, List.set_cons_zero, List.set_cons_succ]
                  refine wpAnyH_take (i := 10) (oi := ?oi10x11) (v := ?vv10x11) ?hi10x11 (by kernel_rfl) (by kernel_rfl) (by kernel_rfl) ?hQ10x11 (Or.inl ⟨?hw10x11, ?hy10x11⟩) hHeld ?rest10x11
                  case hi10x11 => (simp only [List.getElem?_toArray, List.getElem?_cons_succ, List.getElem?_cons_zero]; exact rfl)
                  case hQ10x11 => exact fun _ _ _ h => h
                  case hw10x11 => rfl
                  case hy10x11 => ((intro w hSw; (try dsimp only at hSw); go_simp) <;> (with_reducible rfl))
                  try simp only [Act.put, List.setIfInBounds_toArray, List.set_cons_zero, List.set_cons_succ]
                  refine wpAnyH_take (i := 11) (oi := ?oi11x12) (v := ?vv11x12) ?hi11x12 (by kernel_rfl) (by kernel_rfl) (by kernel_rfl) ?hQ11x12 (Or.inl ⟨?hw11x12, ?hy11x12⟩) hHeld ?rest11x12
                  case hi11x12 => (simp only [List.getElem?_toArray, List.getElem?_cons_succ, List.getElem?_cons_zero]; exact rfl)
                  case hQ11x12 => exact fun _ _ _ h => h
                  case hw11x12 => rfl
                  case hy11x12 => ((intro w hSw; (try dsimp only at hSw); go_simp) <;> (with_reducible rfl))
                  try simp only [Act.put, List.setIfInBounds_toArray, List.set_cons_zero, List.set_cons_succ]
                  refine wpAnyH_take (i := 12) (oi := ?oi12x13) (v := ?vv12x13) ?hi12x13 (by kernel_rfl) (by kernel_rfl) (by kernel_rfl) ?hQ12x13 (Or.inl ⟨?hw12x13, ?hy12x13⟩) hHeld ?rest12x13
                  case hi12x13 => (simp only [List.getElem?_toArray, List.getElem?_cons_succ, List.getElem?_cons_zero]; exact rfl)
                  case hQ12x13 => exact fun _ _ _ h => h
                  case hw12x13 => rfl
                  case hy12x13 => ((intro w hSw; (try dsimp only at hSw); go_simp) <;> (with_reducible rfl))
                  try simp only [Act.put, List.setIfInBounds_toArray, List.set_cons_zero, List.set_cons_succ]
                  refine wpAnyH_take (i := 14) (oi := ?oi14x14) (v := ?vv14x14) ?hi14x14 (by kernel_rfl) (by kernel_rfl) (by kernel_rfl) ?hQ14x14 (Or.inl ⟨?hw14x14, ?hy14x14⟩) hHeld ?rest14x14
                  case hi14x14 => (simp only [List.getElem?_toArray, List.getElem?_cons_succ, List.getElem?_cons_zero]; exact rfl)
                  case hQ14x14 => exact fun _ _ _ h => h
                  case hw14x14 => rfl
                  case hy14x14 => ((intro w hSw; (try dsimp only at hSw); go_simp) <;> (with_reducible rfl))
                  try simp only [Act.put, List.setIfInBounds_toArray, List.set_cons_zero, List.set_cons_succ]
                  refine wpAnyH_take (i := 15) (oi := ?oi15x15) (v := ?vv15x15) ?hi15x15 (by kernel_rfl) (by kernel_rfl) (by kernel_rfl) ?hQ15x15 (Or.inl ⟨?hw15x15, ?hy15x15⟩) hHeld ?rest15x15
                  case hi15x15 => (simp only [List.getElem?_toArray, List.getElem?_cons_succ, List.getElem?_cons_zero]; exact rfl)
                  case hQ15x15 => exact fun _ _ _ h => h
                  case hw15x15 => rfl
                  case hy15x15 => ((intro w hSw; (try dsimp only at hSw); go_simp) <;> (with_reducible rfl))
                  try simp only [Act.put, List.setIfInBounds_toArray, List.set_cons_zero, List.set_cons_succ]
                  refine wpAnyH_take (i := 16) (oi := ?oi16x16) (v := ?vv16x16) ?hi16x16 (by kernel_rfl) (by kernel_rfl) (by kernel_rfl) ?hQ16x16 (Or.inl ⟨?hw16x16, ?hy16x16⟩) hHeld ?rest16x16
                  case hi16x16 => (simp only [List.getElem?_toArray, List.getElem?_cons_succ, List.getElem?_cons_zero]; exact rfl)
                  case hQ16x16 => exact fun _ _ _ h => h
                  case hw16x16 => rfl
                  case hy16x16 => ((intro w hSw; (try dsimp only at hSw); go_simp) <;> (with_reducible rfl))
                  try simp only [Act.put, List.setIfInBounds_toArray, List.set_cons_zero, List.set_cons_succ]
                  refine wpAnyH_take (i := 17) (oi := ?oi17x17) (v := ?vv17x17) ?hi17x17 (by kernel_rfl) (by kernel_rfl) (by kernel_rfl) ?hQ17x17 (Or.inl ⟨?hw17x17, ?hy17x17⟩) hHeld ?rest17x17
                  case hi17x17 => (simp only [List.getElem?_toArray, List.getElem?_cons_succ, List.getElem?_cons_zero]; exact rfl)
                  case hQ17x17 => exact fun _ _ _ h => h
                  case hw17x17 => rfl
                  case hy17x17 => ((intro w hSw; (try dsimp only at hSw); go_simp) <;> (with_reducible rfl))
                  try simp only [Act.put, List.setIfInBounds_toArray, List.set_cons_zero, List.set_cons_succ]
                  refine wpAnyH_take (i := 18) (oi := ?oi18x18) (v := ?vv18x18) ?hi18x18 (by kernel_rfl) (by kernel_rfl) (by kernel_rfl) ?hQ18x18 (Or.inl ⟨?hw18x18, ?hy18x18⟩) hHeld ?rest18x18
                  case hi18x18 => (simp only [List.getElem?_toArray, List.getElem?_cons_succ, List.getElem?_cons_zero]; exact rfl)
                  case hQ18x18 => exact fun _ _ _ h => h
                  case hw18x18 => rfl
                  case hy18x18 => ((intro w hSw; (try dsimp only at hSw); go_simp) <;> (with_reducible rfl))
                  try simp only [Act.put, List.setIfInBounds_toArray, List.set_cons_zero, List.set_cons_succ]
                  as_aux_lemma =>
                    refine wpAnyH_ready (rs := [13, 19]) (by kernel_rfl) (by simp) ?_
                    refine AllReadyH.cons (o := ?o13y29) ?ho13y29 (fun KK hKK => ?st13y29) (AllReadyH.cons (o := ?o19y29) ?ho19y29 (fun KK hKK => ?st19y29) (AllReadyH.nil))
                    case ho13y29 => (simp only [List.getElem?_toArray, List.getElem?_cons_succ, List.getElem?_cons_zero]; exact rfl)
                    case ho19y29 => (simp only [List.getElem?_toArray, List.getElem?_cons_succ, List.getElem?_cons_zero]; exact rfl)
                    case st13y29 =>
                      refine step_load5 (by simp only [List.getElem?_toArray, List.getElem?_cons_succ, List.getElem?_cons_zero, Option.getD_some]) HQ5.out ?_
                      refine hKK.out _ _ hHeld (fun hHeld => ?_)
                      clear hKK KK
                      try simp only [Act.put, List.setIfInBounds_toArray, List.set_cons_zero, List.set_cons_succ]
                      refine wpAnyH_ready (rs := [19]) (by kernel_rfl) (by simp) ?_
                      refine AllReadyH.cons (o := ?o19y23) ?ho19y23 (fun KK hKK => ?st19y23) (AllReadyH.nil)
                      case ho19y23 => (simp only [List.getElem?_toArray, List.getElem?_cons_succ, List.getElem?_cons_zero]; exact rfl)
                      refine step_load5 (by simp only [List.getElem?_toArray, List.getElem?_cons_succ, List.getElem?_cons_zero, Option.getD_some]) HB55.out ?_
                      refine hKK.out _ _ hHeld (fun hHeld => ?_)
                      clear hKK KK
                      try simp only [Act.put, List.setIfInBounds_toArray, List.set_cons_zero, List.set_cons_succ]
                      as_aux_lemma =>
                        refine wpAnyH_take (i := 20) (oi := ?oi20x19) (v := ?vv20x19) ?hi20x19 (by kernel_rfl) (by kernel_rfl) (by kernel_rfl) ?hQ20x19 (Or.inl ⟨?hw20x19, ?hy20x19⟩) hHeld ?rest20x19
                        case hi20x19 => (simp only [List.getElem?_toArray, List.getElem?_cons_succ, List.getElem?_cons_zero]; exact rfl)
                        case hQ20x19 => exact fun _ _ _ h => h
                        case hw20x19 => rfl
                        case hy20x19 => ((intro w hSw; (try dsimp only at hSw); go_simp) <;> (with_reducible rfl))
                        try simp only [Act.put, List.setIfInBounds_toArray, List.set_cons_zero, List.set_cons_succ]
                        refine wpAnyH_ready (rs := [21]) (by kernel_rfl) (by simp) ?_
                        refine AllReadyH.cons (o := ?o21y22) ?ho21y22 (fun KK hKK => ?st21y22) (AllReadyH.nil)
                        case ho21y22 => (simp only [List.getElem?_toArray, List.getElem?_cons_succ, List.getElem?_cons_zero]; exact rfl)
                        refine step_store5 (t := q.1) (e := q.2) (g := g) (off := oa) (by simp only [List.getElem?_toArray, List.getElem?_cons_succ, List.getElem?_cons_zero, Option.getD_some]) (by simp only [List.getElem?_toArray, List.getElem?_cons_succ, List.getElem?_cons_zero, Option.getD_some]) HSA.out.1 HSA.out.2 ?_
                        refine hKK.out _ _ HA5.out (fun hHeld => ?_)
                        clear hKK KK
                        try simp only [Act.put, List.setIfInBounds_toArray, List.set_cons_zero, List.set_cons_succ]
                        refine wpAnyH_take (i := 22) (oi := ?oi22x20) (v := ?vv22x20) ?hi22x20 (by kernel_rfl) (by kernel_rfl) (by kernel_rfl) ?hQ22x20 (Or.inl ⟨?hw22x20, ?hy22x20⟩) hHeld ?rest22x20
                        case hi22x20 => (simp only [List.getElem?_toArray, List.getElem?_cons_succ, List.getElem?_cons_zero]; exact rfl)
                        case hQ22x20 => exact fun _ _ _ h => h
                        case hw22x20 => rfl
                        case hy22x20 => ((intro w hSw; (try dsimp only at hSw); go_simp) <;> (with_reducible rfl))
                        try simp only [Act.put, List.setIfInBounds_toArray, List.set_cons_zero, List.set_cons_succ]
                        refine wpAnyH_ready (rs := [23]) (by kernel_rfl) (by simp) ?_
                        refine AllReadyH.cons (o := ?o23y21) ?ho23y21 (fun KK hKK => ?st23y21) (AllReadyH.nil)
                        case ho23y21 => (simp only [List.getElem?_toArray, List.getElem?_cons_succ, List.getElem?_cons_zero]; exact rfl)
                        refine step_store5 (t := b.1) (e := b.2) (g := g) (off := ob) (by simp only [List.getElem?_toArray, List.getElem?_cons_succ, List.getElem?_cons_zero, Option.getD_some]) (by simp only [List.getElem?_toArray, List.getElem?_cons_succ, List.getElem?_cons_zero, Option.getD_some]) HSB.out.1 HSB.out.2 ?_
                        refine hKK.out _ _ HB5.out (fun hHeld => ?_)
                        clear hKK KK
                        try simp only [Act.put, List.setIfInBounds_toArray, List.set_cons_zero, List.set_cons_succ]
                        refine wpAnyH_done (by kernel_rfl) ?_ _
                        refine NoPanic.normal ?_
                        obtain ⟨hX11, BX11, BZ11, ki11⟩ := HR11.out
                        clear HR11 hHeld
                        generalize set5 (set5 wv g oa q.1 q.2) g ob b.1 b.2 = w12 at hX11 BX11 BZ11 ki11 ⊢
                        obtain rfl := HZ.out.1
                        obtain ⟨n7, n8⟩ := N7.out
                        go_wp2_with fail
                        go_roundg f2
                        case measure => omega
                        case rel => exact ⟨(K : Int), by have := HK.out; omega, by have := HF2.out; omega, by go_num, hP3, hX11, BX11, BZ11, ki11⟩
                    case st19y29 =>
                      refine step_load5 (by simp only [List.getElem?_toArray, List.getElem?_cons_succ, List.getElem?_cons_zero, Option.getD_some]) HB55.out ?_
                      refine hKK.out _ _ hHeld (fun hHeld => ?_)
                      clear hKK KK
                      try simp only [Act.put, List.setIfInBounds_toArray, List.set_cons_zero, List.set_cons_succ]
                      refine wpAnyH_ready (rs := [13]) (by kernel_rfl) (by simp) ?_
                      refine AllReadyH.cons (o := ?o13y28) ?ho13y28 (fun KK hKK => ?st13y28) (AllReadyH.nil)
                      case ho13y28 => (simp only [List.getElem?_toArray, List.getElem?_cons_succ, List.getElem?_cons_zero]; exact rfl)
                      refine step_load5 (by simp only [List.getElem?_toArray, List.getElem?_cons_succ, List.getElem?_cons_zero, Option.getD_some]) HQ5.out ?_
                      refine hKK.out _ _ hHeld (fun hHeld => ?_)
                      clear hKK KK
                      try simp only [Act.put, List.setIfInBounds_toArray, List.set_cons_zero, List.set_cons_succ]
                      as_aux_lemma =>
                        refine wpAnyH_take (i := 20) (oi := ?oi20x24) (v := ?vv20x24) ?hi20x24 (by kernel_rfl) (by kernel_rfl) (by kernel_rfl) ?hQ20x24 (Or.inl ⟨?hw20x24, ?hy20x24⟩) hHeld ?rest20x24
                        case hi20x24 => (simp only [List.getElem?_toArray, List.getElem?_cons_succ, List.getElem?_cons_zero]; exact rfl)
                        case hQ20x24 => exact fun _ _ _ h => h
                        case hw20x24 => rfl
                        case hy20x24 => ((intro w hSw; (try dsimp only at hSw); go_simp) <;> (with_reducible rfl))
                        try simp only [Act.put, List.setIfInBounds_toArray, List.set_cons_zero, List.set_cons_succ]
                        refine wpAnyH_ready (rs := [21]) (by kernel_rfl) (by simp) ?_
                        refine AllReadyH.cons (o := ?o21y27) ?ho21y27 (fun KK hKK => ?st21y27) (AllReadyH.nil)
                        case ho21y27 => (simp only [List.getElem?_toArray, List.getElem?_cons_succ, List.getElem?_cons_zero]; exact rfl)
                        refine step_store5 (t := q.1) (e := q.2) (g := g) (off := oa) (by simp only [List.getElem?_toArray, List.getElem?_cons_succ, List.getElem?_cons_zero, Option.getD_some]) (by simp only [List.getElem?_toArray, List.getElem?_cons_succ, List.getElem?_cons_zero, Option.getD_some]) HSA.out.1 HSA.out.2 ?_
                        refine hKK.out _ _ HA5.out (fun hHeld => ?_)
                        clear hKK KK
                        try simp only [Act.put, List.setIfInBounds_toArray, List.set_cons_zero, List.set_cons_succ]
                        refine wpAnyH_take (i := 22) (oi := ?oi22x25) (v := ?vv22x25) ?hi22x25 (by kernel_rfl) (by kernel_rfl) (by kernel_rfl) ?hQ22x25 (Or.inl ⟨?hw22x25, ?hy22x25⟩) hHeld ?rest22x25
                        case hi22x25 => (simp only [List.getElem?_toArray, List.getElem?_cons_succ, List.getElem?_cons_zero]; exact rfl)
                        case hQ22x25 => exact fun _ _ _ h => h
                        case hw22x25 => rfl
                        case hy22x25 => ((intro w hSw; (try dsimp only at hSw); go_simp) <;> (with_reducible rfl))
                        try simp only [Act.put, List.setIfInBounds_toArray, List.set_cons_zero, List.set_cons_succ]
                        refine wpAnyH_ready (rs := [23]) (by kernel_rfl) (by simp) ?_
                        refine AllReadyH.cons (o := ?o23y26) ?ho23y26 (fun KK hKK => ?st23y26) (AllReadyH.nil)
                        case ho23y26 => (simp only [List.getElem?_toArray, List.getElem?_cons_succ, List.getElem?_cons_zero]; exact rfl)
                        refine step_store5 (t := b.1) (e := b.2) (g := g) (off := ob) (by simp only [List.getElem?_toArray, List.getElem?_cons_succ, List.getElem?_cons_zero, Option.getD_some]) (by simp only [List.getElem?_toArray, List.getElem?_cons_succ, List.getElem?_cons_zero, Option.getD_some]) HSB.out.1 HSB.out.2 ?_
                        refine hKK.out _ _ HB5.out (fun hHeld => ?_)
                        clear hKK KK
                        try simp only [Act.put, List.setIfInBounds_toArray, List.set_cons_zero, List.set_cons_succ]
                        refine wpAnyH_done (by kernel_rfl) ?_ _
                        refine NoPanic.normal ?_
                        obtain ⟨hX11, BX11, BZ11, ki11⟩ := HR11.out
                        clear HR11 hHeld
                        generalize set5 (set5 wv g oa q.1 q.2) g ob b.1 b.2 = w12 at hX11 BX11 BZ11 ki11 ⊢
                        obtain rfl := HZ.out.1
                        obtain ⟨n7, n8⟩ := N7.out
                        go_wp2_with fail
                        go_roundg f2
                        case measure => omega
                        case rel => exact ⟨(K : Int), by have := HK.out; omega, by have := HF2.out; omega, by go_num, hP3, hX11, BX11, BZ11, ki11⟩
      · have hj2 : j = vn / 2 := by omega
        have hjv : 2 * j = vn := by omega
        have hXd : X.drop (2 * j) = [] := List.drop_eq_nil_of_le (by omega)
        rw [hXd, List.append_nil] at hXr
        have hln := accV_len Prod.fst X j (by omega)
        have hLs := hXr.list (n := vn) (c := vc) (by omega) (by omega) hvc.1 hvc.2
        have hOw := hXr.own
        rw [← hj2] at hR2
        rw [hR2] at hLs
        have hn2 : w.heap.size + 1 ∉ g :: elFp ((accV Prod.fst X j).map Prod.snd) := fun hx => by have := (hOw.2 _ hx).1; omega
        have hld : decide ((I : Int) < (vn : Int)) = false := decide_eq_false (by omega)
        have hld2 : ¬ (I : Int) < (vn : Int) := by omega
        generalize g :: elFp ((accV Prod.fst X j).map Prod.snd) = fpX at hLs hOw hn2
        clear hI hjf hj1 hXr hXd hln hR2 hj2 hjv hXw hXl hev hvn hen hR
        obtain ⟨x0, x1, x2, x3, x4, ⟨s0, t0⟩, ⟨s1, t1⟩, ⟨s2, t2⟩, ⟨s3, t3⟩, s4, t4⟩ := BZr.five (o := 0) (by simp) (.int .i64 t.k) (.int .i64 t.n) (.int .i64 t.x) (.string t.s)
        go_wp2_with fail
        have hblk : Blk (set5 wr (w.heap.size + 1) 0 t ⟨some ⟨g, o, none⟩, vn, vc, fpX⟩) (w.heap.size + 1) 26 _ := Blk.five_ BZr t ⟨some ⟨g, o, none⟩, vn, vc, fpX⟩
        have r1 := hLs.set5_ (e2 := ⟨some ⟨g, o, none⟩, vn, vc, fpX⟩) (g := w.heap.size + 1) (o := 0) (t := t) hn2
        have r2 := (hOw.mono (lo2 := w.heap.size) (by omega)).set5_ (g := w.heap.size + 1) (o := 0) (t := t) (e := ⟨some ⟨g, o, none⟩, vn, vc, fpX⟩) hn2
        have r3 : Below w.heap.size w (set5 wr (w.heap.size + 1) 0 t ⟨some ⟨g, o, none⟩, vn, vc, fpX⟩) := below_set5 kr (by omega)
        exact bodyPost_ret (results_blk Tryz.results19 Tryz.isAgg26 (by exact Tryz.sizeOf26) rfl hblk) rfl ⟨⟨some ⟨g, o, none⟩, vn, vc, fpX⟩, rfl, r1, r2, r3⟩
theorem i_SortMap (t : Tr) (e : El) (w : World) (hl : LsAt w t.l e) (hel : e.lt w.heap.size) (hwf : ∀ u ∈ t.l, NmOk u) (hm : t.sz ≤ 1048576) :
    Calls Tryz.prog 16 #[trV t e] w fun r w' => CopyOf w w' r (sortV t) := by
  have k0 := Below.two w (.cells (valCells t e) 26) (.cells #[.int .i64 0, .int .i64 0, .int .i64 0, .string ⟨#[]⟩, .slice none 0 0] 26)
  have BX : Blk ((w.alloc (.cells (valCells t e) 26)).alloc (.cells #[.int .i64 0, .int .i64 0, .int .i64 0, .string ⟨#[]⟩, .slice none 0 0] 26)) w.heap.size 26 (valCells t e) := (Blk.new w _ _).alloc _
  have BZ : Blk ((w.alloc (.cells (valCells t e) 26)).alloc (.cells #[.int .i64 0, .int .i64 0, .int .i64 0, .string ⟨#[]⟩, .slice none 0 0] 26)) (w.heap.size + 1) 26 #[.int .i64 0, .int .i64 0, .int .i64 0, .string ⟨#[]⟩, .slice none 0 0] := by
    simpa using Blk.new (w.alloc (.cells (valCells t e) 26)) 26 #[.int .i64 0, .int .i64 0, .int .i64 0, .string ⟨#[]⟩, .slice none 0 0]
  obtain ⟨u, hu⟩ : ∃ u, sortV t = u := ⟨_, rfl⟩
  rw [hu]
  go_enter Tryz.func16, Tryz.ntmps16
  go_upto_region 1 with fail
  generalize ((w.alloc (.cells (valCells t e) 26)).alloc (.cells #[.int .i64 0, .int .i64 0, .int .i64 0, .string ⟨#[]⟩, .slice none 0 0] 26)) = w0 at k0 BX BZ ⊢
  have hSo := i_sortPairsV t e w0 (hl.below hel k0) (hel.mono k0.size) hwf hm
  rw [hu] at hSo
  obtain ⟨p0, p1, p2, p3, p4⟩ := BX.boxV
  go_wp2_with fail
  refine hSo.mono ?_; rintro r w1 ⟨v, rfl, hv1, hv2, hb1⟩
  have BZ1 := BZ.below hb1 BZ.lt
  have hz := BZ.lt
  have hun : w.heap.size + 1 ∉ v.fp := fun hx => by have := (hv2.2 _ hx).1; omega
  obtain ⟨x0, x1, x2, x3, x4, ⟨s0, t0⟩, ⟨s1, t1⟩, ⟨s2, t2⟩, ⟨s3, t3⟩, s4, t4⟩ := BZ1.five (o := 0) (by simp) (.int .i64 u.k) (.int .i64 u.n) (.int .i64 u.x) (.string u.s)
  have hK := below_set5 (g := w.heap.size + 1) (o := 0) (t := u) (e := v) (k0.up hb1) (by omega)
  have hkz := k0.size
  clear p0 p1 p2 p3 p4
  go_wp2_with fail
  exact bodyPost_ret (results_blk Tryz.results16 Tryz.isAgg26 (by exact Tryz.sizeOf26) (by rfl) (BZ1.five_ u v)) rfl (by unfold CopyOf; exact ⟨v, rfl, hv1.set5_ hun, (hv2.set5_ hun).mono hkz, hK⟩)
end Go.Proofs.YtmnlkedacnemcaaGreatDoor
