/- SortTight: the reference's; the program's entry. Written by gen/sorts.py. -/
import Derived.Test.YtmnlkedacnemcaaGreatDoorTwSortTight
import Derived.Test.YtmnlkedacnemcaaGreatDoorTwM18
set_option linter.unusedVariables false
set_option maxRecDepth 100000
set_option linter.unusedSimpArgs false
namespace Go.Proofs.YtmnlkedacnemcaaGreatDoor
open Go.RowKit

theorem i_SortTight (t : Tr) (e : El) (w : World) (hl : LsAt w t.l e) (hel : e.lt w.heap.size) (hwf : t.wf) (hm : t.sz ≤ 1048576) :
    Calls Tryz.prog 6 #[trV t e] w fun r w' => CopyOf w w' r (sortT t) := by
  have k0 := Below.two w (.cells (valCells t e) 26) (.cells #[.int .i64 0, .int .i64 0, .int .i64 0, .string ⟨#[]⟩, .slice none 0 0] 26)
  have BX : Blk ((w.alloc (.cells (valCells t e) 26)).alloc (.cells #[.int .i64 0, .int .i64 0, .int .i64 0, .string ⟨#[]⟩, .slice none 0 0] 26)) w.heap.size 26 (valCells t e) := (Blk.new w _ _).alloc _
  have BZ : Blk ((w.alloc (.cells (valCells t e) 26)).alloc (.cells #[.int .i64 0, .int .i64 0, .int .i64 0, .string ⟨#[]⟩, .slice none 0 0] 26)) (w.heap.size + 1) 26 #[.int .i64 0, .int .i64 0, .int .i64 0, .string ⟨#[]⟩, .slice none 0 0] := by
    simpa using Blk.new (w.alloc (.cells (valCells t e) 26)) 26 #[.int .i64 0, .int .i64 0, .int .i64 0, .string ⟨#[]⟩, .slice none 0 0]
  obtain ⟨u, hu⟩ : ∃ u, sortT t = u := ⟨_, rfl⟩
  rw [hu]
  go_enter Tryz.func6, Tryz.ntmps6
  go_upto_region 1 with fail
  generalize ((w.alloc (.cells (valCells t e) 26)).alloc (.cells #[.int .i64 0, .int .i64 0, .int .i64 0, .string ⟨#[]⟩, .slice none 0 0] 26)) = w0 at k0 BX BZ ⊢
  have hSo := i_sortPairs t e w0 (hl.below hel k0) (hel.mono k0.size) hwf hm
  rw [hu] at hSo
  obtain ⟨p0, p1, p2, p3, p4⟩ := BX.boxV
  go_wp2_with fail
  refine hSo.mono ?_; rintro r w1 ⟨v, rfl, hv1, hv2, hb1⟩
  have BZ1 := BZ.below hb1 BZ.lt
  have hz := BZ.lt
  have hun : w.heap.size + 1 ∉ v.fp := fun hx => by have := (hv2.2 _ hx).1; omega
  obtain ⟨x0, x1, x2, x3, x4, ⟨s0, t0⟩, ⟨s1, t1⟩, ⟨s2, t2⟩, ⟨s3, t3⟩, s4, t4⟩ := BZ1.five (o := 0) (by simp) (.int .i64 u.k) (.int .i64 u.n) (.int .i64 u.x) (.string u.s)
  have hK := below_set5 (g := w.heap.size + 1) (o := 0) (t := u) (e := v) (k0.up hb1) (by omega)
  have hkz := k0.size
  clear p0 p1 p2 p3 p4
  go_wp2_with fail
  exact bodyPost_ret (results_blk Tryz.results6 Tryz.isAgg26 (by exact Tryz.sizeOf26) (by rfl) (BZ1.five_ u v)) rfl (by unfold CopyOf; exact ⟨v, rfl, hv1.set5_ hun, (hv2.set5_ hun).mono hkz, hK⟩)
theorem s_l7Map (t : Tr) (e : El) (w : World) (hn : e.n ≤ 9223372036854775807) :
    Calls Tryz.prog 26 #[trV t e] w fun r w' => r = .returned (.bool (decide (t.k = 10 ∧ e.n % 2 = 0))) ∧ Below w.heap.size w w' := by
  by_cases h1 : t.k = 10
  · by_cases h2 : e.n % 2 = 0
    · have hq : (t.k == 10) = true := by simp [h1]
      have hr : ((e.n : Int) % 2 == 0) = true := by simp; omega
      have hd : decide (t.k = 10 ∧ e.n % 2 = 0) = true := by simp [h1, h2]
      rw [hd]
      go_enter Tryz.func26, Tryz.ntmps26
      go_wp2_with fail
      go_ret
      exact ⟨rfl, Below.one _ _⟩
    · have hq : (t.k == 10) = true := by simp [h1]
      have hr : ((e.n : Int) % 2 == 0) = false := by simp; omega
      have hd : decide (t.k = 10 ∧ e.n % 2 = 0) = false := by simp [h2]
      rw [hd]
      go_enter Tryz.func26, Tryz.ntmps26
      go_wp2_with fail
      go_ret
      exact ⟨rfl, Below.one _ _⟩
  · have hq : (t.k == 10) = false := by simp [h1]
    have hd : decide (t.k = 10 ∧ e.n % 2 = 0) = false := by simp [h1]
    rw [hd]
    go_enter Tryz.func26, Tryz.ntmps26
    go_wp2_with fail
    go_ret
    exact ⟨rfl, Below.one _ _⟩
set_option maxHeartbeats 20000000 in
theorem s_SortTight (t : Tr) (e : El) (w : World) (hl : LsAt w t.l e) (hel : e.lt w.heap.size) (hwf : t.wf) (hm : t.sz ≤ 1048576) :
    Calls Tryz.prog 10 #[trV t e] w fun r w' => CopyOf w w' r (sortT t) := by
  have hen := hl.len
  have hsz := t.sz_eq
  have hszl := szT_le t.l 0
  have hen9 : e.n ≤ 1048576 := by omega
  have k2 := Below.two w (.cells (valCells t e) 26) (.cells #[.int .i64 0, .int .i64 0, .int .i64 0, .string ⟨#[]⟩, .slice none 0 0] 26)
  have hV : Blk ((w.alloc (.cells (valCells t e) 26)).alloc (.cells #[.int .i64 0, .int .i64 0, .int .i64 0, .string ⟨#[]⟩, .slice none 0 0] 26)) w.heap.size 26 (valCells t e) := (Blk.new w _ _).alloc _
  have hZ : Blk ((w.alloc (.cells (valCells t e) 26)).alloc (.cells #[.int .i64 0, .int .i64 0, .int .i64 0, .string ⟨#[]⟩, .slice none 0 0] 26)) (w.heap.size + 1) 26 #[.int .i64 0, .int .i64 0, .int .i64 0, .string ⟨#[]⟩, .slice none 0 0] := by
    simpa using Blk.new (w.alloc (.cells (valCells t e) 26)) 26 #[.int .i64 0, .int .i64 0, .int .i64 0, .string ⟨#[]⟩, .slice none 0 0]
  have hpr := fun w1 => s_l7Map t e w1 (by omega)
  obtain ⟨pr, hpd⟩ : ∃ p, decide (t.k = 10 ∧ e.n % 2 = 0) = p := ⟨_, rfl⟩
  rw [hpd] at hpr
  obtain ⟨RT, hRT⟩ : ∃ RT, sortT t = RT := ⟨_, rfl⟩
  rw [hRT]
  go_enter Tryz.func10, Tryz.ntmps10
  go_upto_region 1 with fail
  generalize ((w.alloc (.cells (valCells t e) 26)).alloc (.cells #[.int .i64 0, .int .i64 0, .int .i64 0, .string ⟨#[]⟩, .slice none 0 0] 26)) = w0 at k2 hV hZ ⊢
  have hcp := s_l6Copy t e w0 (hl.below hel k2) (hel.mono k2.size) (by omega)
  obtain ⟨p0, p1, p2, p3, p4⟩ := hV.boxV
  go_wp2_with fail
  refine hcp.mono ?_; rintro r w1 ⟨v0, rfl, hv1, hv2, hb1⟩
  have kq := Below.one w1 (.cells (valCells t v0) 26)
  have BX := Blk.new w1 26 (valCells t v0)
  have hV1 := (hV.below hb1 hV.lt).below kq (hV.below hb1 hV.lt).lt
  have BZ := (hZ.below hb1 hZ.lt).below kq (hZ.below hb1 hZ.lt).lt
  have hvl : ∀ g ∈ v0.fp, g < w1.heap.size := fun g hg => hv2.lt hg
  have hl3 := hv1.below hvl kq
  have hz0 := hZ.lt
  have ho3 := (hv2.below hvl kq).mono (lo2 := w.heap.size + 2) (by omega)
  have k3 := (k2.up hb1).up kq
  have z1 : w.heap.size + 2 ≤ w1.heap.size := by have := hb1.size; omega
  clear hcp hv1 hv2 hb1 hZ hV k2 p0 p1 p2 p3 p4 hl hel hz0
  go_upto_region 2 with fail
  generalize (w1.alloc (.cells (valCells t v0) 26)) = w3 at BX hV1 BZ hl3 ho3 k3 kq ⊢
  generalize w1.heap.size = gx at BX hvl z1 ⊢
  clear kq
  obtain ⟨p0, p1, p2, p3, p4⟩ := hV1.boxV
  obtain ⟨vA, vn, vc, vfp⟩ := v0
  have hvn : t.l.length = vn := hl3.len
  have hvc : vn ≤ vc ∧ vc ≤ maxLen := ⟨((lsAt_iff _ _).1 hl3).2.1, ((lsAt_iff _ _).1 hl3).2.2.1⟩
  go_wp2_with fail
  refine (hpr _).mono ?_; rintro r w4 ⟨rfl, hb4⟩
  replace BX := BX.below hb4 BX.lt
  replace BZ := BZ.below hb4 BZ.lt
  have hl4 := hl3.below (fun g hg => ho3.lt hg) hb4
  have ho4 := ho3.below (fun g hg => ho3.lt hg) hb4
  have k4 := k3.up hb4
  clear hl3 ho3 k3 hb4 hV1 p0 p1 p2 p3 p4 hpr
  obtain ⟨p0, p1, p2, p3, p4⟩ := BX.boxV
  cases pr
  · have hst : sortT t = t := by
      unfold sortT
      rw [if_neg]
      rw [hen]
      simpa using hpd
    obtain rfl : t = RT := by rw [← hRT, hst]
    clear hpd hst hRT
    obtain ⟨x0, x1, x2, x3, x4, ⟨s0, t0⟩, ⟨s1, t1⟩, ⟨s2, t2⟩, ⟨s3, t3⟩, s4, t4⟩ := BZ.five (o := 0) (by simp) (.int .i64 t.k) (.int .i64 t.n) (.int .i64 t.x) (.string t.s)
    have hn2 : w.heap.size + 1 ∉ vfp := fun hx => by have := (ho4.2 _ hx).1; omega
    have r1 := hl4.set5_ (e2 := ⟨vA, vn, vc, vfp⟩) (g := w.heap.size + 1) (o := 0) (t := t) hn2
    have r2 := (ho4.mono (lo2 := w.heap.size) (by omega)).set5_ (g := w.heap.size + 1) (o := 0) (t := t) (e := ⟨vA, vn, vc, vfp⟩) hn2
    have r3 : Below w.heap.size w (set5 w4 (w.heap.size + 1) 0 t ⟨vA, vn, vc, vfp⟩) := below_set5 k4 (by omega)
    go_wp2_with fail
    exact bodyPost_ret (results_blk Tryz.results10 Tryz.isAgg26 (by exact Tryz.sizeOf26) (by rfl) (BZ.five_ t ⟨vA, vn, vc, vfp⟩)) rfl (by unfold CopyOf; exact ⟨⟨vA, vn, vc, vfp⟩, rfl, r1, r2, r3⟩)
  · have hpd2 : t.k = 10 ∧ e.n % 2 = 0 := by simpa using hpd
    have hst : sortT t = ⟨t.k, t.n, t.x, t.s, accG id t.l (t.l.length / 2)⟩ := by
      unfold sortT
      rw [if_pos]
      rw [hen]; exact hpd2
    obtain ⟨R, hR⟩ : ∃ R, accG id t.l (t.l.length / 2) = R := ⟨_, rfl⟩
    rw [hR] at hst
    obtain rfl : RT = ⟨t.k, t.n, t.x, t.s, R⟩ := by rw [← hRT, hst]
    clear hRT
    have hev : t.l.length % 2 = 0 := by rw [hen]; exact hpd2.2
    clear hpd hst hpd2
    have hv9 : vn ≤ 1048576 := by omega
    have NV0 := NV.new w4 w4.heap.size rfl
    have kn := Below.one w4 (.cells #[] 26)
    have hgxl := BX.lt
    by_cases h0 : vn = 0
    · subst h0
      have htl : t.l = [] := List.eq_nil_of_length_eq_zero hvn
      have hRt : R = [] := by rw [← hR, htl]; rfl
      subst hRt
      clear htl hR hev hen hsz hszl hl4 ho4
      have BX5 := BX.below kn BX.lt
      have BZ5 := BZ.below kn BZ.lt
      have k5 := k4.up kn
      have hw5 : w4.heap.size ≠ w.heap.size + 1 := by have := BZ.lt; omega
      have hgz : gx ≠ w.heap.size + 1 := by omega
      go_upto_region 6 with fail
      generalize (w4.alloc (.cells #[] 26)) = w5 at BX5 BZ5 k5 ⊢
      generalize w4.heap.size = gr at hw5 ⊢
      go_loopg [4, 5] 0 (fun f zi zk wr => zi = .slice (some ⟨gr, 0, none⟩) 0 0 ∧ zk = .int .i64 0 ∧ wr = w5)
      case atStart => exact ⟨rfl, rfl, rfl⟩
      case round =>
        obtain ⟨rfl, rfl, hwr⟩ := hrel
        subst hwr
        obtain ⟨b0, b1, b2, b3, b4⟩ := BX5.boxV
        have bf := BX5.frozen 4
        have BX6 : Blk (wr.setCell ⟨gx, 4, none⟩ (.slice (some ⟨gr, 0, none⟩) 0 0)) gx 26 (valCells t ⟨some ⟨gr, 0, none⟩, 0, 0, []⟩) := by simpa [valCells] using BX5.set_ 4 (.slice (some ⟨gr, 0, none⟩) 0 0)
        have BZ6 := BZ5.far (p := ⟨gx, 4, none⟩) (by exact fun e => hgz e.symm) (.slice (some ⟨gr, 0, none⟩) 0 0)
        have k6 := k5.setCell (p := ⟨gx, 4, none⟩) (by show w.heap.size ≤ gx; omega) (.slice (some ⟨gr, 0, none⟩) 0 0)
        obtain ⟨x0, x1, x2, x3, x4, ⟨s0, t0⟩, ⟨s1, t1⟩, ⟨s2, t2⟩, ⟨s3, t3⟩, s4, t4⟩ := BZ6.five (o := 0) (by simp) (.int .i64 t.k) (.int .i64 t.n) (.int .i64 t.x) (.string t.s)
        obtain ⟨c0, c1, c2, c3, c4⟩ := BX6.boxV
        have r3 := below_set5 (g := w.heap.size + 1) (o := 0) (t := t) (e := ⟨some ⟨gr, 0, none⟩, 0, 0, []⟩) k6 (by omega)
        go_wp2_with fail
        exact bodyPost_ret (results_blk Tryz.results10 Tryz.isAgg26 (by exact Tryz.sizeOf26) (by rfl) (BZ6.five_ t ⟨some ⟨gr, 0, none⟩, 0, 0, []⟩)) rfl (by unfold CopyOf; exact ⟨⟨some ⟨gr, 0, none⟩, 0, 0, []⟩, rfl, LsAt.nil_ _ _, Own.nil_ _ _, r3⟩)
    obtain ⟨g, o, es, hV3⟩ := hl4.open_ (by show 0 < vn; omega)
    have hA3 : vA = some ⟨g, o, none⟩ := hV3.adr
    have hgv : g ∈ vfp := by have := hV3.fp; simp only at this; rw [this]; exact List.mem_cons_self
    have hXf : (t.l.zip es).map Prod.fst = t.l := List.map_fst_zip (by have := hV3.eslen; simp only at this; omega)
    have hXl : (t.l.zip es).length = vn := by have := hV3.eslen; simp only at this; rw [List.length_zip]; omega
    have hX := RX.of hV3 ho4 (by show 0 < vn; omega)
    have hXe : (t.l.zip es).map Prod.snd = es := List.map_snd_zip (by have := hV3.eslen; simp only at this; omega)
    have hXlow : ∀ x ∈ t.l.zip es, ∀ y ∈ x.2.fp, y < gx := fun x hx y hy => hvl y (by
      have hfp := hV3.fp
      simp only at hfp
      have hx2 : x.2 ∈ es := by rw [← hXe]; exact List.mem_map.2 ⟨x, hx, rfl⟩
      obtain ⟨i, hi⟩ := List.mem_iff_getElem?.1 hx2
      show y ∈ vfp
      rw [hfp]; exact List.mem_cons_of_mem _ (elFp_mem hi hy))
    subst hA3
    have hR2 : (accG Prod.fst (t.l.zip es) (vn / 2)).map Prod.fst = R := by rw [accG_map, hXf, ← hvn, hR]
    have hXw : ∀ x ∈ t.l.zip es, x.1.wf ∧ x.1.sz ≤ 1048576 := fun x hx => by
      have hx2 : x.1 ∈ t.l := by rw [← hXf]; exact List.mem_map.2 ⟨x, hx, rfl⟩
      obtain ⟨i, hi, he⟩ := List.getElem_of_mem hx2
      exact ⟨((Tr.wf_iff t).1 hwf).2.2.2.2 _ hx2, by rw [← he]; exact Nat.le_trans (child_sz hi) hm⟩
    generalize t.l.zip es = X at hX hXl hR2 hXw hXlow hXe
    have hglt : g < gx := hvl g hgv
    clear hV3 hl4 ho4 hXf hXe hvl
    have hX5 := hX.below kn
    have BX5 := BX.below kn BX.lt
    have BZ5 := BZ.below kn BZ.lt
    have k5 := k4.up kn
    have NV5 : NV (w4.alloc (.cells #[] 26)) (gx + 1) (some ⟨w4.heap.size, 0, none⟩) 0 0 (XT (accG Prod.fst X 0)) (XE (accG Prod.fst X 0)) := ⟨own_mono NV0.row (by omega), rfl, rfl, fun j t u h => by simp [accG] at h, fun g hg => by simp [accG, elFp] at hg⟩
    clear hX BX BZ k4 NV0 kn p0 p1 p2 p3 p4
    go_upto_region 6 with fail
    generalize (w4.alloc (.cells #[] 26)) = w5 at hX5 BX5 BZ5 k5 NV5 ⊢
    generalize w4.heap.size = gr at NV5 ⊢
    have HR := Lib.hid (And.intro hR2 (And.intro hvn hev))
    clear hR hR2 hvn hev hen hsz hszl hen9 hm hwf
    have hvm : vn % 2 = 0 := by have := HR.out.2.1; have := HR.out.2.2; omega
    go_loopg [4, 5] (vn / 2) (fun f y4 y5 wr => ∃ (j I nj cj gj : Nat), j + f = vn / 2 ∧ I = 2 * j ∧ nj = 2 * j ∧ y4 = .slice (some ⟨gj, 0, none⟩) nj cj ∧ y5 = .int .i64 I ∧ NV wr (gx + 1) (some ⟨gj, 0, none⟩) nj cj (XT (accG Prod.fst X j)) (XE (accG Prod.fst X j)) ∧ RX wr (w.heap.size + 2) g o X ∧ Blk wr gx 26 (valCells t ⟨some ⟨g, o, none⟩, vn, vc, vfp⟩) ∧ Blk wr (w.heap.size + 1) 26 #[.int .i64 0, .int .i64 0, .int .i64 0, .string ⟨#[]⟩, .slice none 0 0] ∧ Below w.heap.size w wr)
    case atStart => exact ⟨0, 0, 0, 0, gr, by omega, rfl, rfl, rfl, rfl, NV5, hX5, BX5, BZ5, k5⟩
    case round =>
      obtain ⟨j, I, nj, cj, gj, hjf, hI, hnj, rfl, rfl, hN, hXr, BXr, BZr, kr⟩ := hrel
      clear NV5 hX5 BX5 BZ5 k5
      obtain ⟨b0, b1, b2, b3, b4⟩ := BXr.boxV
      by_cases hlt : I < vn
      · obtain ⟨f, rfl⟩ : ∃ f, gk = f + 1 := ⟨gk - 1, by omega⟩
        have hjl : 2 * j + 1 < X.length := by omega
        have hacl := accG_len Prod.fst X j (by omega)
        have hac := accG_succ (f := Prod.fst) hjl
        have hga : X[2 * j]? = some X[2 * j] := List.getElem?_eq_getElem _
        have hgb : X[2 * j + 1]? = some X[2 * j + 1] := List.getElem?_eq_getElem _
        have hawf := hXw X[2 * j] (List.getElem_mem _)
        have haccw : ∀ x ∈ accG Prod.fst X j, x.1.wf ∧ x.1.sz ≤ 1048576 := fun x hx => hXw x ((accG_perm Prod.fst X j (by omega)).mem_iff.1 (List.mem_append_left _ hx))
        generalize X[2 * j] = a at hac hga hawf
        generalize X[2 * j + 1] = b at hac hgb
        have HNJ := Lib.hid (And.intro hnj (And.intro hI hjf))
        clear hnj hI hjf
        go_wp2_with fail
        go_loopg [6] j (fun f2 zk wi => ∃ z : Int, z = ((2 * f2 : Nat) : Int) ∧ f2 ≤ j ∧ zk = .int .i64 z ∧ posG Prod.fst (accG Prod.fst X j) a f2 = posG Prod.fst (accG Prod.fst X j) a j ∧ NV wi (gx + 1) (some ⟨gj, 0, none⟩) nj cj (XT (accG Prod.fst X j)) (XE (accG Prod.fst X j)) ∧ RX wi (w.heap.size + 2) g o X ∧ Blk wi gx 26 (valCells t ⟨some ⟨g, o, none⟩, vn, vc, vfp⟩) ∧ Blk wi (w.heap.size + 1) 26 #[.int .i64 0, .int .i64 0, .int .i64 0, .string ⟨#[]⟩, .slice none 0 0] ∧ Below w.heap.size w wi)
        case atStart => exact ⟨nj, by have := HNJ.out.1; omega, Nat.le_refl _, rfl, rfl, hN, hXr, BXr, BZr, kr⟩
        case round =>
          obtain ⟨z, hK0, hf2, rfl, hP2, hNi, hXi, BXi, BZi, ki⟩ := hrel
          clear hN hXr BXr BZr kr b0 b1 b2 b3 b4
          rename World => wi
          obtain ⟨kk, hkk⟩ : ∃ kk, kk = 2 * gk := ⟨_, rfl⟩
          obtain rfl : z = (kk : Int) := by omega
          rcases Nat.eq_zero_or_pos gk with hz | hz
          · subst hz
            obtain ⟨PP, HP⟩ : ∃ PP, Hid (posG Prod.fst (accG Prod.fst X j) a j = PP ∧ kk = 2 * PP ∧ PP ≤ j) := ⟨0, Lib.hid ⟨hP2.symm, hkk, Nat.zero_le _⟩⟩
            have qq : decide ((0 : Int) < (kk : Int)) = false := decide_eq_false (by omega)
            have qq2 : decide (0 < kk) = false := decide_eq_false (by omega)
            have HA := Lib.hid hac
            clear hP2 hkk hK0 hac
            go_wp2_with fail
            go_quiet (fail)
            have kdn := below_drewN (Below.refl wi.heap.size wi) nq
            replace hNi := hNi.below (by have := BXi.lt; omega) kdn
            replace hXi := hXi.below kdn
            replace BZi := BZi.below kdn BZi.lt
            replace ki := ki.up kdn
            replace BXi := BXi.below kdn BXi.lt
            clear kdn
            generalize wi.drewN nq = wi at hNi hXi BZi ki BXi ⊢
            go_upto_region 11 with fail
            clear qq qq2
            obtain ⟨hnj, hI, hjf⟩ := HNJ.out
            obtain ⟨hPP, hkk, hPj⟩ := HP.out
            have hkl : kk ≤ nj := by omega
            have hSd : BoxV wi.drew gx t ⟨some ⟨g, o, none⟩, vn, vc, vfp⟩ := BXi.drew.boxV
            have hcA : Cells5 wi.drew g (o + I * 5) a.1 a.2 := (hXi.below (Below.refl _ _).drew).cells I a (by rw [hI]; exact hga)
            have hcB : Cells5 wi.drew g (o + (I + 1) * 5) b.1 b.2 := (hXi.below (Below.refl _ _).drew).cells (I + 1) b (by rw [hI]; exact hgb)
            have hXd := hXi.below (Below.refl _ _).drew
            have hNd := hNi.below (by have := BXi.lt; omega) (Below.refl _ _).drew
            have BXd := BXi.drew
            have BZd := BZi.drew
            have kd := ki.drew
            have hsl := hNd.sl_
            obtain ⟨ib, hib⟩ : ∃ ib, ib = I + 1 := ⟨_, rfl⟩
            have lo2 : o + ib * 5 = o + (I + 1) * 5 := by rw [hib]
            obtain ⟨oa, hoa⟩ : ∃ oa, o + I * 5 = oa := ⟨_, rfl⟩
            obtain ⟨ob, hob⟩ : ∃ ob, o + (I + 1) * 5 = ob := ⟨_, rfl⟩
            rw [hoa] at hcA
            have lo1 : o + I * 5 = oa := hoa
            rw [hob] at hcB lo2
            obtain ⟨zb, hzb⟩ : ∃ zb, zb = (I : Int) + 1 := ⟨_, rfl⟩
            have m1 : (I : Int) < (vn : Int) := by omega
            have m2 : (0 : Int) ≤ (I : Int) := by omega
            have m3 : IntKind.i64.wrap ((I : Int) + 1) = zb := by rw [IntKind.wrap_i64]; omega
            have m4 : zb < (vn : Int) := by omega
            have m5 : (0 : Int) ≤ zb := by omega
            have m6 : zb.toNat = ib := by omega
            have hcj := hNd.cap
            have m7 : (kk : Int) ≤ (cj : Int) := by omega
            have m8 : (0 : Int) ≤ (kk : Int) := by omega
            have m9 : (kk : Int) ≤ (nj : Int) := by omega
            have m10 : (nj : Int) ≤ (cj : Int) := by omega
            have hYl : (accG Prod.fst X j).length = nj := by have := hNd.len; simpa [XT] using this
            clear hnj hI hjf hPP hkk hPj hzb hib hoa hob
            refine wp_region_noPanic ?_
            refine wp_region_held_drew (S := fun w' => w'.cell? ⟨gx, 4, none⟩ = some (.slice (some ⟨g, o, none⟩) vn vc) ∧ Cells5 w' g oa a.1 a.2 ∧ Cells5 w' g ob b.1 b.2) (by kernel_rfl) (⟨hSd.2.2.2.2, hcA, hcB⟩) (fun hHeld => ?_)
            generalize hwv : wi.drew = wv at hHeld hNd BXd BZd kd hsl hXd ⊢
            clear hwv hSd hcA hcB hNi hXi BXi BZi ki
            have hgv2 : g < wv.heap.size := by have := BXd.lt; omega
            have hHB := fun (w' : World) (hb : Below wv.heap.size wv w') => (show w'.cell? ⟨gx, 4, none⟩ = some (.slice (some ⟨g, o, none⟩) vn vc) ∧ Cells5 w' g oa a.1 a.2 ∧ Cells5 w' g ob b.1 b.2 from ⟨(hb.cell (p := ⟨gx, 4, none⟩) BXd.lt).trans hHeld.1, hHeld.2.1.eq5 fun i hi => hb.cell (p := ⟨g, _, none⟩) hgv2, hHeld.2.2.eq5 fun i hi => hb.cell (p := ⟨g, _, none⟩) hgv2⟩)
            have K0 := Below.refl wv.heap.size wv
            as_aux_lemma =>
              refine wpAnyH_take (i := 1) (oi := ?oi1x1) (v := ?vv1x1) ?hi1x1 (by kernel_rfl) (by kernel_rfl) (by kernel_rfl) ?hQ1x1 (Or.inl ⟨?hw1x1, ?hy1x1⟩) hHeld ?rest1x1
              case hi1x1 => (simp only [List.getElem?_toArray, List.getElem?_cons_succ, List.getElem?_cons_zero]; exact rfl)
              case hQ1x1 => exact fun _ _ _ h => h
              case hw1x1 => rfl
              case hy1x1 => ((intro w hSw; (try dsimp only at hSw); go_simp) <;> (with_reducible rfl))
              try simp only [Act.put, List.setIfInBounds_toArray, List.set_cons_zero, List.set_cons_succ]
              refine wpAnyH_take (i := 2) (oi := ?oi2x2) (v := ?vv2x2) ?hi2x2 (by kernel_rfl) (by kernel_rfl) (by kernel_rfl) ?hQ2x2 (Or.inl ⟨?hw2x2, ?hy2x2⟩) hHeld ?rest2x2
              case hi2x2 => (simp only [List.getElem?_toArray, List.getElem?_cons_succ, List.getElem?_cons_zero]; exact rfl)
              case hQ2x2 => exact fun _ _ _ h => h
              case hw2x2 => rfl
              case hy2x2 => ((intro w hSw; (try dsimp only at hSw); go_simp) <;> (with_reducible rfl))
              try simp only [Act.put, List.setIfInBounds_toArray, List.set_cons_zero, List.set_cons_succ]
              refine wpAnyH_take (i := 3) (oi := ?oi3x3) (v := ?vv3x3) ?hi3x3 (by kernel_rfl) (by kernel_rfl) (by kernel_rfl) ?hQ3x3 (Or.inl ⟨?hw3x3, ?hy3x3⟩) hHeld ?rest3x3
              case hi3x3 => (simp only [List.getElem?_toArray, List.getElem?_cons_succ, List.getElem?_cons_zero]; exact rfl)
              case hQ3x3 => exact fun _ _ _ h => h
              case hw3x3 => rfl
              case hy3x3 => ((intro w hSw; (try dsimp only at hSw); go_simp) <;> (with_reducible rfl))
              try simp only [Act.put, List.setIfInBounds_toArray, List.set_cons_zero, List.set_cons_succ]
              refine wpAnyH_take (i := 5) (oi := ?oi5x4) (v := ?vv5x4) ?hi5x4 (by kernel_rfl) (by kernel_rfl) (by kernel_rfl) ?hQ5x4 (Or.inl ⟨?hw5x4, ?hy5x4⟩) hHeld ?rest5x4
              case hi5x4 => (simp only [List.getElem?_toArray, List.getElem?_cons_succ, List.getElem?_cons_zero]; exact rfl)
              case hQ5x4 => exact fun _ _ _ h => h
              case hw5x4 => rfl
              case hy5x4 => ((intro w hSw; (try dsimp only at hSw); go_simp) <;> (with_reducible rfl))
              try simp only [Act.put, List.setIfInBounds_toArray, List.set_cons_zero, List.set_cons_succ]
              refine wpAnyH_take (i := 6) (oi := ?oi6x5) (v := ?vv6x5) ?hi6x5 (by kernel_rfl) (by kernel_rfl) (by kernel_rfl) ?hQ6x5 (Or.inl ⟨?hw6x5, ?hy6x5⟩) hHeld ?rest6x5
              case hi6x5 => (simp only [List.getElem?_toArray, List.getElem?_cons_succ, List.getElem?_cons_zero]; exact rfl)
              case hQ6x5 => exact fun _ _ _ h => h
              case hw6x5 => rfl
              case hy6x5 => ((intro w hSw; (try dsimp only at hSw); go_simp) <;> (with_reducible rfl))
              try simp only [Act.put, List.setIfInBounds_toArray, List.set_cons_zero, List.set_cons_succ]
              refine wpAnyH_take (i := 7) (oi := ?oi7x6) (v := ?vv7x6) ?hi7x6 (by kernel_rfl) (by kernel_rfl) (by kernel_rfl) ?hQ7x6 (Or.inl ⟨?hw7x6, ?hy7x6⟩) hHeld ?rest7x6
              case hi7x6 => (simp only [List.getElem?_toArray, List.getElem?_cons_succ, List.getElem?_cons_zero]; exact rfl)
              case hQ7x6 => exact fun _ _ _ h => h
              case hw7x6 => rfl
              case hy7x6 => ((intro w hSw; (try dsimp only at hSw); go_simp) <;> (with_reducible rfl))
              try simp only [Act.put, List.setIfInBounds_toArray, List.set_cons_zero, List.set_cons_succ]
              refine wpAnyH_take (i := 8) (oi := ?oi8x7) (v := ?vv8x7) ?hi8x7 (by kernel_rfl) (by kernel_rfl) (by kernel_rfl) ?hQ8x7 (Or.inl ⟨?hw8x7, ?hy8x7⟩) hHeld ?rest8x7
              case hi8x7 => (simp only [List.getElem?_toArray, List.getElem?_cons_succ, List.getElem?_cons_zero]; exact rfl)
              case hQ8x7 => exact fun _ _ _ h => h
              case hw8x7 => rfl
              case hy8x7 => ((intro w hSw; (try dsimp only at hSw); go_simp) <;> (with_reducible rfl))
              try simp only [Act.put, List.setIfInBounds_toArray, List.set_cons_zero, List.set_cons_succ]
              refine wpAnyH_take (i := 9) (oi := ?oi9z8) (v := ?vv9z8) ?hi9z8 (by kernel_rfl) (by kernel_rfl) (by kernel_rfl) ?hQ9z8 ?hy9z8 hHeld ?rest9z8
              case hi9z8 => (simp only [List.getElem?_toArray, List.getElem?_cons_succ, List.getElem?_cons_zero]; exact rfl)
              case hQ9z8 => exact fun _ _ _ h => h
              case hy9z8 =>
                refine yields_load5 (t := a.1) (e := a.2) (g := g) (off := oa) ?_ ?_
                · simp only [List.getElem?_toArray, List.getElem?_cons_succ, List.getElem?_cons_zero, Option.getD_some]
                · exact fun w hS => hS.2.1
              try simp only [Act.put, List.setIfInBounds_toArray, List.set_cons_zero, List.set_cons_succ]
              refine wpAnyH_take (i := 10) (oi := ?oi10x9) (v := ?vv10x9) ?hi10x9 (by kernel_rfl) (by kernel_rfl) (by kernel_rfl) ?hQ10x9 (Or.inl ⟨?hw10x9, ?hy10x9⟩) hHeld ?rest10x9
              case hi10x9 => (simp only [List.getElem?_toArray, List.getElem?_cons_succ, List.getElem?_cons_zero]; exact rfl)
              case hQ10x9 => exact fun _ _ _ h => h
              case hw10x9 => rfl
              case hy10x9 => ((intro w hSw; (try dsimp only at hSw); go_simp) <;> (with_reducible rfl))
              try simp only [Act.put, List.setIfInBounds_toArray, List.set_cons_zero, List.set_cons_succ]
              refine wpAnyH_take (i := 11) (oi := ?oi11x10) (v := ?vv11x10) ?hi11x10 (by kernel_rfl) (by kernel_rfl) (by kernel_rfl) ?hQ11x10 (Or.inl ⟨?hw11x10, ?hy11x10⟩) hHeld ?rest11x10
              case hi11x10 => (simp only [List.getElem?_toArray, List.getElem?_cons_succ, List.getElem?_cons_zero]; exact rfl)
              case hQ11x10 => exact fun _ _ _ h => h
              case hw11x10 => rfl
              case hy11x10 => ((intro w hSw; (try dsimp only at hSw); go_simp) <;> (with_reducible rfl))
              try simp only [Act.put, List.setIfInBounds_toArray, List.set_cons_zero, List.set_cons_succ]
              refine wpAnyH_take (i := 12) (oi := ?oi12x11) (v := ?vv12x11) ?hi12x11 (by kernel_rfl) (by kernel_rfl) (by kernel_rfl) ?hQ12x11 (Or.inl ⟨?hw12x11, ?hy12x11⟩) hHeld ?rest12x11
              case hi12x11 => (simp only [List.getElem?_toArray, List.getElem?_cons_succ, List.getElem?_cons_zero]; exact rfl)
              case hQ12x11 => exact fun _ _ _ h => h
              case hw12x11 => rfl
              case hy12x11 => ((intro w hSw; (try dsimp only at hSw); go_simp) <;> (with_reducible rfl))
              try simp only [Act.put, List.setIfInBounds_toArray, List.set_cons_zero, List.set_cons_succ]
              refine wpAnyH_take (i := 13) (oi := ?oi13x12) (v := ?vv13x12) ?hi13x12 (by kernel_rfl) (by kernel_rfl) (by kernel_rfl) ?hQ13x12 (Or.inl ⟨?hw13x12, ?hy13x12⟩) hHeld ?rest13x12
              case hi13x12 => (simp only [List.getElem?_toArray, List.getElem?_cons_succ, List.getElem?_cons_zero]; exact rfl)
              case hQ13x12 => exact fun _ _ _ h => h
              case hw13x12 => rfl
              case hy13x12 => ((intro w hSw; (try dsimp only at hSw); go_simp) <;> (with_reducible rfl))
              try simp only [Act.put, List.setIfInBounds_toArray, List.set_cons_zero, List.set_cons_succ]
              refine wpAnyH_take (i := 14) (oi := ?oi14x13) (v := ?vv14x13) ?hi14x13 (by kernel_rfl) (by kernel_rfl) (by kernel_rfl) ?hQ14x13 (Or.inl ⟨?hw14x13, ?hy14x13⟩) hHeld ?rest14x13
              case hi14x13 => (simp only [List.getElem?_toArray, List.getElem?_cons_succ, List.getElem?_cons_zero]; exact rfl)
              case hQ14x13 => exact fun _ _ _ h => h
              case hw14x13 => rfl
              case hy14x13 => ((intro w hSw; (try dsimp only at hSw); go_simp) <;> (with_reducible rfl))
              try simp only [Act.put, List.setIfInBounds_toArray, List.set_cons_zero, List.set_cons_succ]
              refine wpAnyH_take (i := 15) (oi := ?oi15z14) (v := ?vv15z14) ?hi15z14 (by kernel_rfl) (by kernel_rfl) (by kernel_rfl) ?hQ15z14 ?hy15z14 hHeld ?rest15z14
              case hi15z14 => (simp only [List.getElem?_toArray, List.getElem?_cons_succ, List.getElem?_cons_zero]; exact rfl)
              case hQ15z14 => exact fun _ _ _ h => h
              case hy15z14 =>
                refine yields_load5 (t := b.1) (e := b.2) (g := g) (off := ob) ?_ ?_
                · simp only [List.getElem?_toArray, List.getElem?_cons_succ, List.getElem?_cons_zero, Option.getD_some]
                · exact fun w hS => hS.2.2
              try simp only [Act.put, List.setIfInBounds_toArray, List.set_cons_zero, List.set_cons_succ]
              refine wpAnyH_take (i := 18) (oi := ?oi18x15) (v := ?vv18x15) ?hi18x15 (by kernel_rfl) (by kernel_rfl) (by kernel_rfl) ?hQ18x15 (Or.inl ⟨?hw18x15, ?hy18x15⟩) hHeld ?rest18x15
              case hi18x15 => (simp only [List.getElem?_toArray, List.getElem?_cons_succ, List.getElem?_cons_zero]; exact rfl)
              case hQ18x15 => exact fun _ _ _ h => h
              case hw18x15 => rfl
              case hy18x15 => ((intro w hSw; (try dsimp only at hSw); go_simp) <;> (with_reducible rfl))
              try simp only [Act.put, List.setIfInBounds_toArray, List.set_cons_zero, List.set_cons_succ]
              refine wpAnyH_take (i := 19) (oi := ?oi19x16) (v := ?vv19x16) ?hi19x16 (by kernel_rfl) (by kernel_rfl) (by kernel_rfl) ?hQ19x16 (Or.inl ⟨?hw19x16, ?hy19x16⟩) hHeld ?rest19x16
              case hi19x16 => (simp only [List.getElem?_toArray, List.getElem?_cons_succ, List.getElem?_cons_zero]; exact rfl)
              case hQ19x16 => exact fun _ _ _ h => h
              case hw19x16 => rfl
              case hy19x16 => ((intro w hSw; (try dsimp only at hSw); go_simp) <;> (with_reducible rfl))
              try simp only [Act.put, List.setIfInBounds_toArray, List.set_cons_zero, List.set_cons_succ]
              refine wpAnyH_take (i := 20) (oi := ?oi20x17) (v := ?vv20x17) ?hi20x17 (by kernel_rfl) (by kernel_rfl) (by kernel_rfl) ?hQ20x17 (Or.inl ⟨?hw20x17, ?hy20x17⟩) hHeld ?rest20x17
              case hi20x17 => (simp only [List.getElem?_toArray, List.getElem?_cons_succ, List.getElem?_cons_zero]; exact rfl)
              case hQ20x17 => exact fun _ _ _ h => h
              case hw20x17 => rfl
              case hy20x17 => ((intro w hSw; (try dsimp only at hSw); go_simp) <;> (with_reducible rfl))
              try simp only [Act.put, List.setIfInBounds_toArray, List.set_cons_zero, List.set_cons_succ]
              as_aux_lemma =>
                refine wpAnyH_ready (rs := [0, 16]) (by kernel_rfl) (by simp) ?_
                refine AllReadyH.cons (o := ?o0y32) ?ho0y32 (fun KK hKK => ?st0y32) (AllReadyH.cons (o := ?o16y32) ?ho16y32 (fun KK hKK => ?st16y32) (AllReadyH.nil))
                case ho0y32 => (simp only [List.getElem?_toArray, List.getElem?_cons_succ, List.getElem?_cons_zero]; exact rfl)
                case ho16y32 => (simp only [List.getElem?_toArray, List.getElem?_cons_succ, List.getElem?_cons_zero]; exact rfl)
                case st0y32 =>
                  refine step_build0 ?_
                  have r0 : World.ownsRow (wv.alloc (.cells #[] 26)) wv.heap.size 26 5 (.slice (some ⟨wv.heap.size, 0, none⟩) 0 0) 0 [] := own_mono (World.ownsRow_lit wv #[] 0 (Nat.le_refl _) (by decide) rfl) K0.size
                  have K1 := K0.alloc K0.size (.cells #[] 26)
                  refine hKK.out _ _ (hHB _ K1) (fun hHeld => ?_)
                  clear hKK KK
                  try simp only [Act.put, List.setIfInBounds_toArray, List.set_cons_zero, List.set_cons_succ]
                  refine wpAnyH_ready (rs := [4, 16]) (by kernel_rfl) (by simp) ?_
                  refine AllReadyH.cons (o := ?o4y26) ?ho4y26 (fun KK hKK => ?st4y26) (AllReadyH.cons (o := ?o16y26) ?ho16y26 (fun KK hKK => ?st16y26) (AllReadyH.nil))
                  case ho4y26 => (simp only [List.getElem?_toArray, List.getElem?_cons_succ, List.getElem?_cons_zero]; exact rfl)
                  case ho16y26 => (simp only [List.getElem?_toArray, List.getElem?_cons_succ, List.getElem?_cons_zero]; exact rfl)
                  case st4y26 =>
                    refine step_appr (by simp only [List.getElem?_toArray, List.getElem?_cons_succ, List.getElem?_cons_zero, Option.getD_some]) (by simp only [List.getElem?_toArray, List.getElem?_cons_succ, List.getElem?_cons_zero, Option.getD_some]) r0 (sl_take (hsl.below K1) hYl (show kk ≤ nj by omega)) (cellsX_one _) (by omega) K1.size ?_
                    intro A4 c4 wa4 ra4 hg4
                    have K2 := K1.trans (hg4.fr.below (fun x hx => (row_lt r0 hx).1) K1.size)
                    refine hKK.out _ _ (hHB _ K2) (fun hHeld => ?_)
                    clear hKK KK
                    try simp only [Act.put, List.setIfInBounds_toArray, List.set_cons_zero, List.set_cons_succ]
                    refine wpAnyH_ready (rs := [16]) (by kernel_rfl) (by simp) ?_
                    refine AllReadyH.cons (o := ?o16y21) ?ho16y21 (fun KK hKK => ?st16y21) (AllReadyH.nil)
                    case ho16y21 => (simp only [List.getElem?_toArray, List.getElem?_cons_succ, List.getElem?_cons_zero]; exact rfl)
                    refine step_build2 (t := a.1) (e := a.2) (u := b.1) (f := b.2) (by simp only [List.getElem?_toArray, List.getElem?_cons_succ, List.getElem?_cons_zero, Option.getD_some]) (by simp only [List.getElem?_toArray, List.getElem?_cons_succ, List.getElem?_cons_zero, Option.getD_some]) ?_
                    have LT := Blk.new wa4 26 #[.int .i64 a.1.k, .int .i64 a.1.n, .int .i64 a.1.x, .string a.1.s, .slice a.2.A a.2.n a.2.c, .int .i64 b.1.k, .int .i64 b.1.n, .int .i64 b.1.x, .string b.1.s, .slice b.2.A b.2.n b.2.c]
                    have K3 := K2.alloc K2.size (.cells #[.int .i64 a.1.k, .int .i64 a.1.n, .int .i64 a.1.x, .string a.1.s, .slice a.2.A a.2.n a.2.c, .int .i64 b.1.k, .int .i64 b.1.n, .int .i64 b.1.x, .string b.1.s, .slice b.2.A b.2.n b.2.c] 26)
                    have rr := own_bel ra4 (Below.one wa4 (.cells #[.int .i64 a.1.k, .int .i64 a.1.n, .int .i64 a.1.x, .string a.1.s, .slice a.2.A a.2.n a.2.c, .int .i64 b.1.k, .int .i64 b.1.n, .int .i64 b.1.x, .string b.1.s, .slice b.2.A b.2.n b.2.c] 26))
                    refine hKK.out _ _ (hHB _ K3) (fun hHeld => ?_)
                    clear hKK KK
                    try simp only [Act.put, List.setIfInBounds_toArray, List.set_cons_zero, List.set_cons_succ]
                    refine wpAnyH_ready (rs := [17]) (by kernel_rfl) (by simp) ?_
                    refine AllReadyH.cons (o := ?o17y20) ?ho17y20 (fun KK hKK => ?st17y20) (AllReadyH.nil)
                    case ho17y20 => (simp only [List.getElem?_toArray, List.getElem?_cons_succ, List.getElem?_cons_zero]; exact rfl)
                    refine step_appr (by simp only [List.getElem?_toArray, List.getElem?_cons_succ, List.getElem?_cons_zero, Option.getD_some]) (by simp only [List.getElem?_toArray, List.getElem?_cons_succ, List.getElem?_cons_zero, Option.getD_some]) rr (sl_lit LT) (cellsX_one _) (by omega) K3.size ?_
                    intro A17 c17 wa17 ra17 hg17
                    have K4 := K3.trans (hg17.fr.below (fun x hx => (row_lt rr hx).1) K3.size)
                    refine hKK.out _ _ (hHB _ K4) (fun hHeld => ?_)
                    clear hKK KK
                    try simp only [Act.put, List.setIfInBounds_toArray, List.set_cons_zero, List.set_cons_succ]
                    refine wpAnyH_ready (rs := [21]) (by kernel_rfl) (by simp) ?_
                    refine AllReadyH.cons (o := ?o21y19) ?ho21y19 (fun KK hKK => ?st21y19) (AllReadyH.nil)
                    case ho21y19 => (simp only [List.getElem?_toArray, List.getElem?_cons_succ, List.getElem?_cons_zero]; exact rfl)
                    refine step_appr (by simp only [List.getElem?_toArray, List.getElem?_cons_succ, List.getElem?_cons_zero, Option.getD_some]) (by simp only [List.getElem?_toArray, List.getElem?_cons_succ, List.getElem?_cons_zero, Option.getD_some]) ra17 (sl_drop2 (hsl.below K4) hYl (show kk ≤ nj by omega)) (cellsX_one _) (by omega) K4.size ?_
                    intro A21 c21 wa21 ra21 hg21
                    have K5 := K4.trans (hg21.fr.below (fun x hx => (row_lt ra17 hx).1) K4.size)
                    refine hKK.out _ _ (hHB _ K5) (fun hHeld => ?_)
                    clear hKK KK
                    try simp only [Act.put, List.setIfInBounds_toArray, List.set_cons_zero, List.set_cons_succ]
                    refine wpAnyH_take (i := 22) (oi := ?oi22x18) (v := ?vv22x18) ?hi22x18 (by kernel_rfl) (by kernel_rfl) (by kernel_rfl) ?hQ22x18 (Or.inl ⟨?hw22x18, ?hy22x18⟩) hHeld ?rest22x18
                    case hi22x18 => (simp only [List.getElem?_toArray, List.getElem?_cons_succ, List.getElem?_cons_zero]; exact rfl)
                    case hQ22x18 => exact fun _ _ _ h => h
                    case hw22x18 => rfl
                    case hy22x18 => ((intro w hSw; (try dsimp only at hSw); go_simp) <;> (with_reducible rfl))
                    try simp only [Act.put, List.setIfInBounds_toArray, List.set_cons_zero, List.set_cons_succ]
                    refine wpAnyH_done (by kernel_rfl) ?_ _
                    refine NoPanic.normal ?_
                    clear hHeld hHB
                    obtain ⟨hnj, hI, hjf⟩ := HNJ.out
                    obtain ⟨hPP, hkk, hPj⟩ := HP.out
                    have hac := HA.out
                    have hnn : 0 + kk + 2 + (nj - kk) = nj + 2 := by omega
                    have hcs : [] ++ cellsX (List.take kk (accG Prod.fst X j)) ++ cellsX [a, b] ++ cellsX (List.drop kk (accG Prod.fst X j)) = cellsX (insG (accG Prod.fst X j) a b PP) := by rw [insG_cells, hkk]; simp
                    have hXF := hXd.below K5
                    have hIl : (insG (accG Prod.fst X j) a b PP).length = 0 + kk + 2 + (nj - kk) := by rw [insG_len (by omega)]; omega
                    have hmm : ∀ x ∈ insG (accG Prod.fst X j) a b PP, x ∈ X := fun x hx => by
                      rcases insG_mem hx with rfl | rfl | hx
                      · exact List.mem_of_getElem? hga
                      · exact List.mem_of_getElem? hgb
                      · exact (accG_perm Prod.fst X j (by omega)).mem_iff.1 (List.mem_append_left _ hx)
                    have hNF := NV.mk_ (lo := gx + 1) ra21 (by have := BXd.lt; omega) hcs hIl (fun x hx => hXF.kids x (hmm x hx)) (fun x hx y hy => Nat.lt_succ_of_lt (hXlow x (hmm x hx) y hy))
                    obtain ⟨gF, hgF⟩ := own_some ra21 (by omega)
                    subst hgF
                    have BXF := BXd.below K5 BXd.lt
                    have BZF := BZd.below K5 BZd.lt
                    have kF := kd.up K5
                    rw [hnn] at hNF
                    rw [← hPP, ← hac] at hNF
                    have HF := Lib.hid (And.intro hNF (And.intro hXF (And.intro BXF (And.intro BZF kF))))
                    have HJ := Lib.hid (And.intro hjf (And.intro hI hnj))
                    clear hNF hXF BXF BZF kF hcs hIl hmm hnn hnj hI hjf hPP hkk hPj hac HNJ HP HA hYl hkl
                    try generalize (if cj = kk then (some ⟨gj, 0, none⟩ : Option Addr) else some ⟨gj, kk * 5, none⟩) = pz
                    go_wp2_with fail
                    all_goals
                      go_roundg f
                      case measure => omega
                      case rel =>
                        obtain ⟨hNF, hXF, BXF, BZF, kF⟩ := HF.out
                        obtain ⟨hjf, hI, hnj⟩ := HJ.out
                        exact ⟨j + 1, I + 2, nj + 2, _, gF, by omega, by omega, by omega, by first | rfl | (simp; omega) | (congr 1 <;> omega), by go_num, hNF, hXF, BXF, BZF, kF⟩
                  case st16y26 =>
                    refine step_build2 (t := a.1) (e := a.2) (u := b.1) (f := b.2) (by simp only [List.getElem?_toArray, List.getElem?_cons_succ, List.getElem?_cons_zero, Option.getD_some]) (by simp only [List.getElem?_toArray, List.getElem?_cons_succ, List.getElem?_cons_zero, Option.getD_some]) ?_
                    have LT := Blk.new (wv.alloc (.cells #[] 26)) 26 #[.int .i64 a.1.k, .int .i64 a.1.n, .int .i64 a.1.x, .string a.1.s, .slice a.2.A a.2.n a.2.c, .int .i64 b.1.k, .int .i64 b.1.n, .int .i64 b.1.x, .string b.1.s, .slice b.2.A b.2.n b.2.c]
                    have K2 := K1.alloc K1.size (.cells #[.int .i64 a.1.k, .int .i64 a.1.n, .int .i64 a.1.x, .string a.1.s, .slice a.2.A a.2.n a.2.c, .int .i64 b.1.k, .int .i64 b.1.n, .int .i64 b.1.x, .string b.1.s, .slice b.2.A b.2.n b.2.c] 26)
                    have rr := own_bel r0 (Below.one (wv.alloc (.cells #[] 26)) (.cells #[.int .i64 a.1.k, .int .i64 a.1.n, .int .i64 a.1.x, .string a.1.s, .slice a.2.A a.2.n a.2.c, .int .i64 b.1.k, .int .i64 b.1.n, .int .i64 b.1.x, .string b.1.s, .slice b.2.A b.2.n b.2.c] 26))
                    refine hKK.out _ _ (hHB _ K2) (fun hHeld => ?_)
                    clear hKK KK
                    try simp only [Act.put, List.setIfInBounds_toArray, List.set_cons_zero, List.set_cons_succ]
                    refine wpAnyH_ready (rs := [4]) (by kernel_rfl) (by simp) ?_
                    refine AllReadyH.cons (o := ?o4y25) ?ho4y25 (fun KK hKK => ?st4y25) (AllReadyH.nil)
                    case ho4y25 => (simp only [List.getElem?_toArray, List.getElem?_cons_succ, List.getElem?_cons_zero]; exact rfl)
                    refine step_appr (by simp only [List.getElem?_toArray, List.getElem?_cons_succ, List.getElem?_cons_zero, Option.getD_some]) (by simp only [List.getElem?_toArray, List.getElem?_cons_succ, List.getElem?_cons_zero, Option.getD_some]) rr (sl_take (hsl.below K2) hYl (show kk ≤ nj by omega)) (cellsX_one _) (by omega) K2.size ?_
                    intro A4 c4 wa4 ra4 hg4
                    have K3 := K2.trans (hg4.fr.below (fun x hx => (row_lt rr hx).1) K2.size)
                    have LT4 : Blk wa4 (wv.alloc (.cells #[] 26)).heap.size 26 #[.int .i64 a.1.k, .int .i64 a.1.n, .int .i64 a.1.x, .string a.1.s, .slice a.2.A a.2.n a.2.c, .int .i64 b.1.k, .int .i64 b.1.n, .int .i64 b.1.x, .string b.1.s, .slice b.2.A b.2.n b.2.c] := blk_fr LT hg4.fr (by simp [blkOf] <;> omega)
                    refine hKK.out _ _ (hHB _ K3) (fun hHeld => ?_)
                    clear hKK KK
                    try simp only [Act.put, List.setIfInBounds_toArray, List.set_cons_zero, List.set_cons_succ]
                    refine wpAnyH_ready (rs := [17]) (by kernel_rfl) (by simp) ?_
                    refine AllReadyH.cons (o := ?o17y24) ?ho17y24 (fun KK hKK => ?st17y24) (AllReadyH.nil)
                    case ho17y24 => (simp only [List.getElem?_toArray, List.getElem?_cons_succ, List.getElem?_cons_zero]; exact rfl)
                    refine step_appr (by simp only [List.getElem?_toArray, List.getElem?_cons_succ, List.getElem?_cons_zero, Option.getD_some]) (by simp only [List.getElem?_toArray, List.getElem?_cons_succ, List.getElem?_cons_zero, Option.getD_some]) ra4 (sl_lit LT4) (cellsX_one _) (by omega) K3.size ?_
                    intro A17 c17 wa17 ra17 hg17
                    have K4 := K3.trans (hg17.fr.below (fun x hx => (row_lt ra4 hx).1) K3.size)
                    refine hKK.out _ _ (hHB _ K4) (fun hHeld => ?_)
                    clear hKK KK
                    try simp only [Act.put, List.setIfInBounds_toArray, List.set_cons_zero, List.set_cons_succ]
                    refine wpAnyH_ready (rs := [21]) (by kernel_rfl) (by simp) ?_
                    refine AllReadyH.cons (o := ?o21y23) ?ho21y23 (fun KK hKK => ?st21y23) (AllReadyH.nil)
                    case ho21y23 => (simp only [List.getElem?_toArray, List.getElem?_cons_succ, List.getElem?_cons_zero]; exact rfl)
                    refine step_appr (by simp only [List.getElem?_toArray, List.getElem?_cons_succ, List.getElem?_cons_zero, Option.getD_some]) (by simp only [List.getElem?_toArray, List.getElem?_cons_succ, List.getElem?_cons_zero, Option.getD_some]) ra17 (sl_drop2 (hsl.below K4) hYl (show kk ≤ nj by omega)) (cellsX_one _) (by omega) K4.size ?_
                    intro A21 c21 wa21 ra21 hg21
                    have K5 := K4.trans (hg21.fr.below (fun x hx => (row_lt ra17 hx).1) K4.size)
                    refine hKK.out _ _ (hHB _ K5) (fun hHeld => ?_)
                    clear hKK KK
                    try simp only [Act.put, List.setIfInBounds_toArray, List.set_cons_zero, List.set_cons_succ]
                    refine wpAnyH_take (i := 22) (oi := ?oi22x22) (v := ?vv22x22) ?hi22x22 (by kernel_rfl) (by kernel_rfl) (by kernel_rfl) ?hQ22x22 (Or.inl ⟨?hw22x22, ?hy22x22⟩) hHeld ?rest22x22
                    case hi22x22 => (simp only [List.getElem?_toArray, List.getElem?_cons_succ, List.getElem?_cons_zero]; exact rfl)
                    case hQ22x22 => exact fun _ _ _ h => h
                    case hw22x22 => rfl
                    case hy22x22 => ((intro w hSw; (try dsimp only at hSw); go_simp) <;> (with_reducible rfl))
                    try simp only [Act.put, List.setIfInBounds_toArray, List.set_cons_zero, List.set_cons_succ]
                    refine wpAnyH_done (by kernel_rfl) ?_ _
                    refine NoPanic.normal ?_
                    clear hHeld hHB
                    obtain ⟨hnj, hI, hjf⟩ := HNJ.out
                    obtain ⟨hPP, hkk, hPj⟩ := HP.out
                    have hac := HA.out
                    have hnn : 0 + kk + 2 + (nj - kk) = nj + 2 := by omega
                    have hcs : [] ++ cellsX (List.take kk (accG Prod.fst X j)) ++ cellsX [a, b] ++ cellsX (List.drop kk (accG Prod.fst X j)) = cellsX (insG (accG Prod.fst X j) a b PP) := by rw [insG_cells, hkk]; simp
                    have hXF := hXd.below K5
                    have hIl : (insG (accG Prod.fst X j) a b PP).length = 0 + kk + 2 + (nj - kk) := by rw [insG_len (by omega)]; omega
                    have hmm : ∀ x ∈ insG (accG Prod.fst X j) a b PP, x ∈ X := fun x hx => by
                      rcases insG_mem hx with rfl | rfl | hx
                      · exact List.mem_of_getElem? hga
                      · exact List.mem_of_getElem? hgb
                      · exact (accG_perm Prod.fst X j (by omega)).mem_iff.1 (List.mem_append_left _ hx)
                    have hNF := NV.mk_ (lo := gx + 1) ra21 (by have := BXd.lt; omega) hcs hIl (fun x hx => hXF.kids x (hmm x hx)) (fun x hx y hy => Nat.lt_succ_of_lt (hXlow x (hmm x hx) y hy))
                    obtain ⟨gF, hgF⟩ := own_some ra21 (by omega)
                    subst hgF
                    have BXF := BXd.below K5 BXd.lt
                    have BZF := BZd.below K5 BZd.lt
                    have kF := kd.up K5
                    rw [hnn] at hNF
                    rw [← hPP, ← hac] at hNF
                    have HF := Lib.hid (And.intro hNF (And.intro hXF (And.intro BXF (And.intro BZF kF))))
                    have HJ := Lib.hid (And.intro hjf (And.intro hI hnj))
                    clear hNF hXF BXF BZF kF hcs hIl hmm hnn hnj hI hjf hPP hkk hPj hac HNJ HP HA hYl hkl
                    try generalize (if cj = kk then (some ⟨gj, 0, none⟩ : Option Addr) else some ⟨gj, kk * 5, none⟩) = pz
                    go_wp2_with fail
                    all_goals
                      go_roundg f
                      case measure => omega
                      case rel =>
                        obtain ⟨hNF, hXF, BXF, BZF, kF⟩ := HF.out
                        obtain ⟨hjf, hI, hnj⟩ := HJ.out
                        exact ⟨j + 1, I + 2, nj + 2, _, gF, by omega, by omega, by omega, by first | rfl | (simp; omega) | (congr 1 <;> omega), by go_num, hNF, hXF, BXF, BZF, kF⟩
                case st16y32 =>
                  refine step_build2 (t := a.1) (e := a.2) (u := b.1) (f := b.2) (by simp only [List.getElem?_toArray, List.getElem?_cons_succ, List.getElem?_cons_zero, Option.getD_some]) (by simp only [List.getElem?_toArray, List.getElem?_cons_succ, List.getElem?_cons_zero, Option.getD_some]) ?_
                  have LT := Blk.new wv 26 #[.int .i64 a.1.k, .int .i64 a.1.n, .int .i64 a.1.x, .string a.1.s, .slice a.2.A a.2.n a.2.c, .int .i64 b.1.k, .int .i64 b.1.n, .int .i64 b.1.x, .string b.1.s, .slice b.2.A b.2.n b.2.c]
                  have K1 := K0.alloc K0.size (.cells #[.int .i64 a.1.k, .int .i64 a.1.n, .int .i64 a.1.x, .string a.1.s, .slice a.2.A a.2.n a.2.c, .int .i64 b.1.k, .int .i64 b.1.n, .int .i64 b.1.x, .string b.1.s, .slice b.2.A b.2.n b.2.c] 26)
                  refine hKK.out _ _ (hHB _ K1) (fun hHeld => ?_)
                  clear hKK KK
                  try simp only [Act.put, List.setIfInBounds_toArray, List.set_cons_zero, List.set_cons_succ]
                  refine wpAnyH_ready (rs := [0]) (by kernel_rfl) (by simp) ?_
                  refine AllReadyH.cons (o := ?o0y31) ?ho0y31 (fun KK hKK => ?st0y31) (AllReadyH.nil)
                  case ho0y31 => (simp only [List.getElem?_toArray, List.getElem?_cons_succ, List.getElem?_cons_zero]; exact rfl)
                  refine step_build0 ?_
                  have r0 : World.ownsRow ((wv.alloc (.cells #[.int .i64 a.1.k, .int .i64 a.1.n, .int .i64 a.1.x, .string a.1.s, .slice a.2.A a.2.n a.2.c, .int .i64 b.1.k, .int .i64 b.1.n, .int .i64 b.1.x, .string b.1.s, .slice b.2.A b.2.n b.2.c] 26)).alloc (.cells #[] 26)) wv.heap.size 26 5 (.slice (some ⟨(wv.alloc (.cells #[.int .i64 a.1.k, .int .i64 a.1.n, .int .i64 a.1.x, .string a.1.s, .slice a.2.A a.2.n a.2.c, .int .i64 b.1.k, .int .i64 b.1.n, .int .i64 b.1.x, .string b.1.s, .slice b.2.A b.2.n b.2.c] 26)).heap.size, 0, none⟩) 0 0) 0 [] := own_mono (World.ownsRow_lit (wv.alloc (.cells #[.int .i64 a.1.k, .int .i64 a.1.n, .int .i64 a.1.x, .string a.1.s, .slice a.2.A a.2.n a.2.c, .int .i64 b.1.k, .int .i64 b.1.n, .int .i64 b.1.x, .string b.1.s, .slice b.2.A b.2.n b.2.c] 26)) #[] 0 (Nat.le_refl _) (by decide) rfl) K1.size
                  have K2 := K1.alloc K1.size (.cells #[] 26)
                  have LT2 := LT.alloc (.cells #[] 26)
                  have hne : wv.heap.size ≠ (wv.alloc (.cells #[.int .i64 a.1.k, .int .i64 a.1.n, .int .i64 a.1.x, .string a.1.s, .slice a.2.A a.2.n a.2.c, .int .i64 b.1.k, .int .i64 b.1.n, .int .i64 b.1.x, .string b.1.s, .slice b.2.A b.2.n b.2.c] 26)).heap.size := by have := LT.lt; omega
                  refine hKK.out _ _ (hHB _ K2) (fun hHeld => ?_)
                  clear hKK KK
                  try simp only [Act.put, List.setIfInBounds_toArray, List.set_cons_zero, List.set_cons_succ]
                  refine wpAnyH_ready (rs := [4]) (by kernel_rfl) (by simp) ?_
                  refine AllReadyH.cons (o := ?o4y30) ?ho4y30 (fun KK hKK => ?st4y30) (AllReadyH.nil)
                  case ho4y30 => (simp only [List.getElem?_toArray, List.getElem?_cons_succ, List.getElem?_cons_zero]; exact rfl)
                  refine step_appr (by simp only [List.getElem?_toArray, List.getElem?_cons_succ, List.getElem?_cons_zero, Option.getD_some]) (by simp only [List.getElem?_toArray, List.getElem?_cons_succ, List.getElem?_cons_zero, Option.getD_some]) r0 (sl_take (hsl.below K2) hYl (show kk ≤ nj by omega)) (cellsX_one _) (by omega) K2.size ?_
                  intro A4 c4 wa4 ra4 hg4
                  have K3 := K2.trans (hg4.fr.below (fun x hx => (row_lt r0 hx).1) K2.size)
                  have LT4 : Blk wa4 wv.heap.size 26 #[.int .i64 a.1.k, .int .i64 a.1.n, .int .i64 a.1.x, .string a.1.s, .slice a.2.A a.2.n a.2.c, .int .i64 b.1.k, .int .i64 b.1.n, .int .i64 b.1.x, .string b.1.s, .slice b.2.A b.2.n b.2.c] := blk_fr LT2 hg4.fr (by simp [blkOf] <;> omega)
                  refine hKK.out _ _ (hHB _ K3) (fun hHeld => ?_)
                  clear hKK KK
                  try simp only [Act.put, List.setIfInBounds_toArray, List.set_cons_zero, List.set_cons_succ]
                  refine wpAnyH_ready (rs := [17]) (by kernel_rfl) (by simp) ?_
                  refine AllReadyH.cons (o := ?o17y29) ?ho17y29 (fun KK hKK => ?st17y29) (AllReadyH.nil)
                  case ho17y29 => (simp only [List.getElem?_toArray, List.getElem?_cons_succ, List.getElem?_cons_zero]; exact rfl)
                  refine step_appr (by simp only [List.getElem?_toArray, List.getElem?_cons_succ, List.getElem?_cons_zero, Option.getD_some]) (by simp only [List.getElem?_toArray, List.getElem?_cons_succ, List.getElem?_cons_zero, Option.getD_some]) ra4 (sl_lit LT4) (cellsX_one _) (by omega) K3.size ?_
                  intro A17 c17 wa17 ra17 hg17
                  have K4 := K3.trans (hg17.fr.below (fun x hx => (row_lt ra4 hx).1) K3.size)
                  refine hKK.out _ _ (hHB _ K4) (fun hHeld => ?_)
                  clear hKK KK
                  try simp only [Act.put, List.setIfInBounds_toArray, List.set_cons_zero, List.set_cons_succ]
                  refine wpAnyH_ready (rs := [21]) (by kernel_rfl) (by simp) ?_
                  refine AllReadyH.cons (o := ?o21y28) ?ho21y28 (fun KK hKK => ?st21y28) (AllReadyH.nil)
                  case ho21y28 => (simp only [List.getElem?_toArray, List.getElem?_cons_succ, List.getElem?_cons_zero]; exact rfl)
                  refine step_appr (by simp only [List.getElem?_toArray, List.getElem?_cons_succ, List.getElem?_cons_zero, Option.getD_some]) (by simp only [List.getElem?_toArray, List.getElem?_cons_succ, List.getElem?_cons_zero, Option.getD_some]) ra17 (sl_drop2 (hsl.below K4) hYl (show kk ≤ nj by omega)) (cellsX_one _) (by omega) K4.size ?_
                  intro A21 c21 wa21 ra21 hg21
                  have K5 := K4.trans (hg21.fr.below (fun x hx => (row_lt ra17 hx).1) K4.size)
                  refine hKK.out _ _ (hHB _ K5) (fun hHeld => ?_)
                  clear hKK KK
                  try simp only [Act.put, List.setIfInBounds_toArray, List.set_cons_zero, List.set_cons_succ]
                  refine wpAnyH_take (i := 22) (oi := ?oi22x27) (v := ?vv22x27) ?hi22x27 (by kernel_rfl) (by kernel_rfl) (by kernel_rfl) ?hQ22x27 (Or.inl ⟨?hw22x27, ?hy22x27⟩) hHeld ?rest22x27
                  case hi22x27 => (simp only [List.getElem?_toArray, List.getElem?_cons_succ, List.getElem?_cons_zero]; exact rfl)
                  case hQ22x27 => exact fun _ _ _ h => h
                  case hw22x27 => rfl
                  case hy22x27 => ((intro w hSw; (try dsimp only at hSw); go_simp) <;> (with_reducible rfl))
                  try simp only [Act.put, List.setIfInBounds_toArray, List.set_cons_zero, List.set_cons_succ]
                  refine wpAnyH_done (by kernel_rfl) ?_ _
                  refine NoPanic.normal ?_
                  clear hHeld hHB
                  obtain ⟨hnj, hI, hjf⟩ := HNJ.out
                  obtain ⟨hPP, hkk, hPj⟩ := HP.out
                  have hac := HA.out
                  have hnn : 0 + kk + 2 + (nj - kk) = nj + 2 := by omega
                  have hcs : [] ++ cellsX (List.take kk (accG Prod.fst X j)) ++ cellsX [a, b] ++ cellsX (List.drop kk (accG Prod.fst X j)) = cellsX (insG (accG Prod.fst X j) a b PP) := by rw [insG_cells, hkk]; simp
                  have hXF := hXd.below K5
                  have hIl : (insG (accG Prod.fst X j) a b PP).length = 0 + kk + 2 + (nj - kk) := by rw [insG_len (by omega)]; omega
                  have hmm : ∀ x ∈ insG (accG Prod.fst X j) a b PP, x ∈ X := fun x hx => by
                    rcases insG_mem hx with rfl | rfl | hx
                    · exact List.mem_of_getElem? hga
                    · exact List.mem_of_getElem? hgb
                    · exact (accG_perm Prod.fst X j (by omega)).mem_iff.1 (List.mem_append_left _ hx)
                  have hNF := NV.mk_ (lo := gx + 1) ra21 (by have := BXd.lt; omega) hcs hIl (fun x hx => hXF.kids x (hmm x hx)) (fun x hx y hy => Nat.lt_succ_of_lt (hXlow x (hmm x hx) y hy))
                  obtain ⟨gF, hgF⟩ := own_some ra21 (by omega)
                  subst hgF
                  have BXF := BXd.below K5 BXd.lt
                  have BZF := BZd.below K5 BZd.lt
                  have kF := kd.up K5
                  rw [hnn] at hNF
                  rw [← hPP, ← hac] at hNF
                  have HF := Lib.hid (And.intro hNF (And.intro hXF (And.intro BXF (And.intro BZF kF))))
                  have HJ := Lib.hid (And.intro hjf (And.intro hI hnj))
                  clear hNF hXF BXF BZF kF hcs hIl hmm hnn hnj hI hjf hPP hkk hPj hac HNJ HP HA hYl hkl
                  try generalize (if cj = kk then (some ⟨gj, 0, none⟩ : Option Addr) else some ⟨gj, kk * 5, none⟩) = pz
                  go_wp2_with fail
                  all_goals
                    go_roundg f
                    case measure => omega
                    case rel =>
                      obtain ⟨hNF, hXF, BXF, BZF, kF⟩ := HF.out
                      obtain ⟨hjf, hI, hnj⟩ := HJ.out
                      exact ⟨j + 1, I + 2, nj + 2, _, gF, by omega, by omega, by omega, by first | rfl | (simp; omega) | (congr 1 <;> omega), by go_num, hNF, hXF, BXF, BZF, kF⟩
          · obtain ⟨f2, rfl⟩ : ∃ f2, gk = f2 + 1 := ⟨gk - 1, by omega⟩
            obtain ⟨K, hKf⟩ : ∃ K, K = 2 * f2 := ⟨_, rfl⟩
            have hYl : (accG Prod.fst X j).length = nj := by have := hNi.len; simpa [XT] using this
            have hjn := HNJ.out.1
            have hKl : K < (accG Prod.fst X j).length := by omega
            have hpi : (accG Prod.fst X j)[2 * f2]? = some (accG Prod.fst X j)[K] := by subst hKf; exact List.getElem?_eq_getElem hKl
            have hpm : (accG Prod.fst X j)[K] ∈ accG Prod.fst X j := List.getElem_mem hKl
            have hpX : (accG Prod.fst X j)[K] ∈ X := (accG_perm Prod.fst X j (by omega)).mem_iff.1 (List.mem_append_left _ hpm)
            have hcp : Cells5 wi gj (K * 5) (accG Prod.fst X j)[K].1 (accG Prod.fst X j)[K].2 := by
              have hsl := hNi.sl_
              obtain ⟨g9, o9, e9, hb9, hc9⟩ := hsl.at_ (by omega)
              simp only [Option.some.injEq, Addr.mk.injEq, and_true] at e9
              obtain ⟨rfl, rfl⟩ := e9
              have hget := cellsOf_get (XT (accG Prod.fst X j)) (XE (accG Prod.fst X j)) K (accG Prod.fst X j)[K].1 (accG Prod.fst X j)[K].2 (by rw [XT, List.getElem?_map, List.getElem?_eq_getElem hKl]; rfl) (by rw [XE, List.getElem?_map, List.getElem?_eq_getElem hKl]; rfl) (by simp [XT, XE])
              rw [cellsX_of] at hget
              obtain ⟨h0, h1, h2, h3, h4⟩ := hget
              have f := fun i v hv => by have := hc9 i v hv; rw [Nat.zero_add] at this; exact this
              exact ⟨f _ _ h0, f _ _ h1, f _ _ h2, f _ _ h3, f _ _ h4⟩
            have hgjl : gj < wi.heap.size := by
              have hsl := hNi.sl_
              obtain ⟨g9, o9, e9, hb9, hc9⟩ := hsl.at_ (by omega)
              simp only [Option.some.injEq, Addr.mk.injEq, and_true] at e9
              omega
            have hpwf := haccw _ hpm
            generalize (accG Prod.fst X j)[K] = p at hpi hpm hpX hcp hpwf
            have hca : Cells5 wi g (o + I * 5) a.1 a.2 := hXi.cells I a (by rw [HNJ.out.2.1]; exact hga)
            have hglw : g < wi.heap.size := by have := BXi.lt; omega
            have haX := List.mem_of_getElem? hga
            have hLT := fun w1 (hb : Below wi.heap.size wi w1) => s_LessTight a.1 p.1 a.2 p.2 w1 hawf.1 hpwf.1 ((hXi.kids a haX).below (hXi.lt haX) hb) ((hXi.kids p hpX).below (hXi.lt hpX) hb) ((hXi.lt haX).mono hb.size) ((hXi.lt hpX).mono hb.size) hawf.2 hpwf.2
            have hpos := fun h => posG_no (f := Prod.fst) (a := a) (k := f2) hpi h
            have hpos2 := fun h => posG_yes (f := Prod.fst) (a := a) (k := f2) hpi h
            obtain ⟨L, hL⟩ : ∃ L, ltB (tightT false false a.1) (tightT false false p.1) = L := ⟨_, rfl⟩
            rw [hL] at hLT
            obtain ⟨oa, hoa⟩ : ∃ oa, o + I * 5 = oa := ⟨_, rfl⟩
            obtain ⟨oy, hoy⟩ : ∃ oy, K * 5 = oy := ⟨_, rfl⟩
            rw [hoa] at hca
            rw [hoy] at hcp
            have S0 := fun (w' : World) (hb : Below wi.heap.size wi w') => (show (w'.cell? ⟨gx, 4, none⟩ = some (.slice (some ⟨g, o, none⟩) vn vc) ∧ RowV w' g oa a.1 a.2 ∧ RowV w' gj oy p.1 p.2) ∧ Below wi.heap.size wi w' from ⟨⟨(BXi.below hb BXi.lt).boxV.2.2.2.2, hca.eq5 fun i hi => hb.cell (p := ⟨g, _, none⟩) hglw, hcp.eq5 fun i hi => hb.cell (p := ⟨gj, _, none⟩) hgjl⟩, hb⟩)
            have hLT2 := fun (w' : World) (h : (w'.cell? ⟨gx, 4, none⟩ = some (.slice (some ⟨g, o, none⟩) vn vc) ∧ RowV w' g oa a.1 a.2 ∧ RowV w' gj oy p.1 p.2) ∧ Below wi.heap.size wi w') => hLT w' h.2
            have n1 : (I : Int) < (vn : Int) := by omega
            have n2 : (0 : Int) ≤ (I : Int) := by omega
            have n3 : (K : Int) < (nj : Int) := by omega
            have n4 : (0 : Int) ≤ (K : Int) := by omega
            have n5 : IntKind.i64.wrap ((kk : Int) - 2) = (K : Int) := by rw [IntKind.wrap_i64]; omega
            have n6 : IntKind.i64.wrap (K : Int) = (K : Int) := by rw [IntKind.wrap_i64]; omega
            have n7 : decide ((0 : Int) < (kk : Int)) = true := decide_eq_true (by omega)
            have n8 : decide (0 < kk) = true := decide_eq_true (by omega)
            have HA := Lib.hid hac
            have HK := Lib.hid (And.intro hKf hkk)
            clear hca hcp hLT hpi hpwf hac hKf hkk hK0 hjn hYl hKl
            cases L
            · go_wp2_with fail
              go_region_held3 (fun w' => (w'.cell? ⟨gx, 4, none⟩ = some (.slice (some ⟨g, o, none⟩) vn vc) ∧ RowV w' g oa a.1 a.2 ∧ RowV w' gj oy p.1 p.2) ∧ Below wi.heap.size wi w')
                (first | exact S0 _ (Below.refl _ _).drew | exact S0 _ ((Below.refl _ _).drew.up hbA))
                (first | (go_at_call 12; refine (hLT2 _ (by assumption)).mono ?_; rintro r w9 ⟨rfl, hbA⟩))
              rename_i hHeld0
              have kb := hHeld0.2
              rename World => w9
              clear hHeld0 S0 hLT2
              obtain ⟨PP, HP⟩ : ∃ PP, Hid (posG Prod.fst (accG Prod.fst X j) a j = PP ∧ kk = 2 * PP ∧ PP ≤ j) := ⟨f2 + 1, Lib.hid ⟨by rw [← hP2]; exact hpos hL, HK.out.2, hf2⟩⟩
              clear hP2 hpos hpos2 hL HK hoa hoy n1 n2 n3 n4 n5 n6 n7 n8
              replace hNi := hNi.below (by have := BXi.lt; omega) kb
              replace hXi := hXi.below kb
              replace BZi := BZi.below kb BZi.lt
              replace ki := ki.up kb
              replace BXi := BXi.below kb BXi.lt
              clear kb
              generalize hw9 : w9 = wi at hNi hXi BZi ki BXi ⊢
              clear hw9
              go_upto_region 11 with fail
              obtain ⟨hnj, hI, hjf⟩ := HNJ.out
              obtain ⟨hPP, hkk, hPj⟩ := HP.out
              have hkl : kk ≤ nj := by omega
              have hSd : BoxV wi.drew gx t ⟨some ⟨g, o, none⟩, vn, vc, vfp⟩ := BXi.drew.boxV
              have hcA : Cells5 wi.drew g (o + I * 5) a.1 a.2 := (hXi.below (Below.refl _ _).drew).cells I a (by rw [hI]; exact hga)
              have hcB : Cells5 wi.drew g (o + (I + 1) * 5) b.1 b.2 := (hXi.below (Below.refl _ _).drew).cells (I + 1) b (by rw [hI]; exact hgb)
              have hXd := hXi.below (Below.refl _ _).drew
              have hNd := hNi.below (by have := BXi.lt; omega) (Below.refl _ _).drew
              have BXd := BXi.drew
              have BZd := BZi.drew
              have kd := ki.drew
              have hsl := hNd.sl_
              obtain ⟨ib, hib⟩ : ∃ ib, ib = I + 1 := ⟨_, rfl⟩
              have lo2 : o + ib * 5 = o + (I + 1) * 5 := by rw [hib]
              obtain ⟨oa, hoa⟩ : ∃ oa, o + I * 5 = oa := ⟨_, rfl⟩
              obtain ⟨ob, hob⟩ : ∃ ob, o + (I + 1) * 5 = ob := ⟨_, rfl⟩
              rw [hoa] at hcA
              have lo1 : o + I * 5 = oa := hoa
              rw [hob] at hcB lo2
              obtain ⟨zb, hzb⟩ : ∃ zb, zb = (I : Int) + 1 := ⟨_, rfl⟩
              have m1 : (I : Int) < (vn : Int) := by omega
              have m2 : (0 : Int) ≤ (I : Int) := by omega
              have m3 : IntKind.i64.wrap ((I : Int) + 1) = zb := by rw [IntKind.wrap_i64]; omega
              have m4 : zb < (vn : Int) := by omega
              have m5 : (0 : Int) ≤ zb := by omega
              have m6 : zb.toNat = ib := by omega
              have hcj := hNd.cap
              have m7 : (kk : Int) ≤ (cj : Int) := by omega
              have m8 : (0 : Int) ≤ (kk : Int) := by omega
              have m9 : (kk : Int) ≤ (nj : Int) := by omega
              have m10 : (nj : Int) ≤ (cj : Int) := by omega
              have hYl : (accG Prod.fst X j).length = nj := by have := hNd.len; simpa [XT] using this
              clear hnj hI hjf hPP hkk hPj hzb hib hoa hob
              refine wp_region_noPanic ?_
              refine wp_region_held_drew (S := fun w' => w'.cell? ⟨gx, 4, none⟩ = some (.slice (some ⟨g, o, none⟩) vn vc) ∧ Cells5 w' g oa a.1 a.2 ∧ Cells5 w' g ob b.1 b.2) (by kernel_rfl) (⟨hSd.2.2.2.2, hcA, hcB⟩) (fun hHeld => ?_)
              generalize hwv : wi.drew = wv at hHeld hNd BXd BZd kd hsl hXd ⊢
              clear hwv hSd hcA hcB hNi hXi BXi BZi ki
              have hgv2 : g < wv.heap.size := by have := BXd.lt; omega
              have hHB := fun (w' : World) (hb : Below wv.heap.size wv w') => (show w'.cell? ⟨gx, 4, none⟩ = some (.slice (some ⟨g, o, none⟩) vn vc) ∧ Cells5 w' g oa a.1 a.2 ∧ Cells5 w' g ob b.1 b.2 from ⟨(hb.cell (p := ⟨gx, 4, none⟩) BXd.lt).trans hHeld.1, hHeld.2.1.eq5 fun i hi => hb.cell (p := ⟨g, _, none⟩) hgv2, hHeld.2.2.eq5 fun i hi => hb.cell (p := ⟨g, _, none⟩) hgv2⟩)
              have K0 := Below.refl wv.heap.size wv
              as_aux_lemma =>
                refine wpAnyH_take (i := 1) (oi := ?oi1x33) (v := ?vv1x33) ?hi1x33 (by kernel_rfl) (by kernel_rfl) (by kernel_rfl) ?hQ1x33 (Or.inl ⟨?hw1x33, ?hy1x33⟩) hHeld ?rest1x33
                case hi1x33 => (simp only [List.getElem?_toArray, List.getElem?_cons_succ, List.getElem?_cons_zero]; exact rfl)
                case hQ1x33 => exact fun _ _ _ h => h
                case hw1x33 => rfl
                case hy1x33 => ((intro w hSw; (try dsimp only at hSw); go_simp) <;> (with_reducible rfl))
                try simp only [Act.put, List.setIfInBounds_toArray, List.set_cons_zero, List.set_cons_succ]
                refine wpAnyH_take (i := 2) (oi := ?oi2x34) (v := ?vv2x34) ?hi2x34 (by kernel_rfl) (by kernel_rfl) (by kernel_rfl) ?hQ2x34 (Or.inl ⟨?hw2x34, ?hy2x34⟩) hHeld ?rest2x34
                case hi2x34 => (simp only [List.getElem?_toArray, List.getElem?_cons_succ, List.getElem?_cons_zero]; exact rfl)
                case hQ2x34 => exact fun _ _ _ h => h
                case hw2x34 => rfl
                case hy2x34 => ((intro w hSw; (try dsimp only at hSw); go_simp) <;> (with_reducible rfl))
                try simp only [Act.put, List.setIfInBounds_toArray, List.set_cons_zero, List.set_cons_succ]
                refine wpAnyH_take (i := 3) (oi := ?oi3x35) (v := ?vv3x35) ?hi3x35 (by kernel_rfl) (by kernel_rfl) (by kernel_rfl) ?hQ3x35 (Or.inl ⟨?hw3x35, ?hy3x35⟩) hHeld ?rest3x35
                case hi3x35 => (simp only [List.getElem?_toArray, List.getElem?_cons_succ, List.getElem?_cons_zero]; exact rfl)
                case hQ3x35 => exact fun _ _ _ h => h
                case hw3x35 => rfl
                case hy3x35 => ((intro w hSw; (try dsimp only at hSw); go_simp) <;> (with_reducible rfl))
                try simp only [Act.put, List.setIfInBounds_toArray, List.set_cons_zero, List.set_cons_succ]
                refine wpAnyH_take (i := 5) (oi := ?oi5x36) (v := ?vv5x36) ?hi5x36 (by kernel_rfl) (by kernel_rfl) (by kernel_rfl) ?hQ5x36 (Or.inl ⟨?hw5x36, ?hy5x36⟩) hHeld ?rest5x36
                case hi5x36 => (simp only [List.getElem?_toArray, List.getElem?_cons_succ, List.getElem?_cons_zero]; exact rfl)
                case hQ5x36 => exact fun _ _ _ h => h
                case hw5x36 => rfl
                case hy5x36 => ((intro w hSw; (try dsimp only at hSw); go_simp) <;> (with_reducible rfl))
                try simp only [Act.put, List.setIfInBounds_toArray, List.set_cons_zero, List.set_cons_succ]
                refine wpAnyH_take (i := 6) (oi := ?oi6x37) (v := ?vv6x37) ?hi6x37 (by kernel_rfl) (by kernel_rfl) (by kernel_rfl) ?hQ6x37 (Or.inl ⟨?hw6x37, ?hy6x37⟩) hHeld ?rest6x37
                case hi6x37 => (simp only [List.getElem?_toArray, List.getElem?_cons_succ, List.getElem?_cons_zero]; exact rfl)
                case hQ6x37 => exact fun _ _ _ h => h
                case hw6x37 => rfl
                case hy6x37 => ((intro w hSw; (try dsimp only at hSw); go_simp) <;> (with_reducible rfl))
                try simp only [Act.put, List.setIfInBounds_toArray, List.set_cons_zero, List.set_cons_succ]
                refine wpAnyH_take (i := 7) (oi := ?oi7x38) (v := ?vv7x38) ?hi7x38 (by kernel_rfl) (by kernel_rfl) (by kernel_rfl) ?hQ7x38 (Or.inl ⟨?hw7x38, ?hy7x38⟩) hHeld ?rest7x38
                case hi7x38 => (simp only [List.getElem?_toArray, List.getElem?_cons_succ, List.getElem?_cons_zero]; exact rfl)
                case hQ7x38 => exact fun _ _ _ h => h
                case hw7x38 => rfl
                case hy7x38 => ((intro w hSw; (try dsimp only at hSw); go_simp) <;> (with_reducible rfl))
                try simp only [Act.put, List.setIfInBounds_toArray, List.set_cons_zero, List.set_cons_succ]
                refine wpAnyH_take (i := 8) (oi := ?oi8x39) (v := ?vv8x39) ?hi8x39 (by kernel_rfl) (by kernel_rfl) (by kernel_rfl) ?hQ8x39 (Or.inl ⟨?hw8x39, ?hy8x39⟩) hHeld ?rest8x39
                case hi8x39 => (simp only [List.getElem?_toArray, List.getElem?_cons_succ, List.getElem?_cons_zero]; exact rfl)
                case hQ8x39 => exact fun _ _ _ h => h
                case hw8x39 => rfl
                case hy8x39 => ((intro w hSw; (try dsimp only at hSw); go_simp) <;> (with_reducible rfl))
                try simp only [Act.put, List.setIfInBounds_toArray, List.set_cons_zero, List.set_cons_succ]
                refine wpAnyH_take (i := 9) (oi := ?oi9z40) (v := ?vv9z40) ?hi9z40 (by kernel_rfl) (by kernel_rfl) (by kernel_rfl) ?hQ9z40 ?hy9z40 hHeld ?rest9z40
                case hi9z40 => (simp only [List.getElem?_toArray, List.getElem?_cons_succ, List.getElem?_cons_zero]; exact rfl)
                case hQ9z40 => exact fun _ _ _ h => h
                case hy9z40 =>
                  refine yields_load5 (t := a.1) (e := a.2) (g := g) (off := oa) ?_ ?_
                  · simp only [List.getElem?_toArray, List.getElem?_cons_succ, List.getElem?_cons_zero, Option.getD_some]
                  · exact fun w hS => hS.2.1
                try simp only [Act.put, List.setIfInBounds_toArray, List.set_cons_zero, List.set_cons_succ]
                refine wpAnyH_take (i := 10) (oi := ?oi10x41) (v := ?vv10x41) ?hi10x41 (by kernel_rfl) (by kernel_rfl) (by kernel_rfl) ?hQ10x41 (Or.inl ⟨?hw10x41, ?hy10x41⟩) hHeld ?rest10x41
                case hi10x41 => (simp only [List.getElem?_toArray, List.getElem?_cons_succ, List.getElem?_cons_zero]; exact rfl)
                case hQ10x41 => exact fun _ _ _ h => h
                case hw10x41 => rfl
                case hy10x41 => ((intro w hSw; (try dsimp only at hSw); go_simp) <;> (with_reducible rfl))
                try simp only [Act.put, List.setIfInBounds_toArray, List.set_cons_zero, List.set_cons_succ]
                refine wpAnyH_take (i := 11) (oi := ?oi11x42) (v := ?vv11x42) ?hi11x42 (by kernel_rfl) (by kernel_rfl) (by kernel_rfl) ?hQ11x42 (Or.inl ⟨?hw11x42, ?hy11x42⟩) hHeld ?rest11x42
                case hi11x42 => (simp only [List.getElem?_toArray, List.getElem?_cons_succ, List.getElem?_cons_zero]; exact rfl)
                case hQ11x42 => exact fun _ _ _ h => h
                case hw11x42 => rfl
                case hy11x42 => ((intro w hSw; (try dsimp only at hSw); go_simp) <;> (with_reducible rfl))
                try simp only [Act.put, List.setIfInBounds_toArray, List.set_cons_zero, List.set_cons_succ]
                refine wpAnyH_take (i := 12) (oi := ?oi12x43) (v := ?vv12x43) ?hi12x43 (by kernel_rfl) (by kernel_rfl) (by kernel_rfl) ?hQ12x43 (Or.inl ⟨?hw12x43, ?hy12x43⟩) hHeld ?rest12x43
                case hi12x43 => (simp only [List.getElem?_toArray, List.getElem?_cons_succ, List.getElem?_cons_zero]; exact rfl)
                case hQ12x43 => exact fun _ _ _ h => h
                case hw12x43 => rfl
                case hy12x43 => ((intro w hSw; (try dsimp only at hSw); go_simp) <;> (with_reducible rfl))
                try simp only [Act.put, List.setIfInBounds_toArray, List.set_cons_zero, List.set_cons_succ]
                refine wpAnyH_take (i := 13) (oi := ?oi13x44) (v := ?vv13x44) ?hi13x44 (by kernel_rfl) (by kernel_rfl) (by kernel_rfl) ?hQ13x44 (Or.inl ⟨?hw13x44, ?hy13x44⟩) hHeld ?rest13x44
                case hi13x44 => (simp only [List.getElem?_toArray, List.getElem?_cons_succ, List.getElem?_cons_zero]; exact rfl)
                case hQ13x44 => exact fun _ _ _ h => h
                case hw13x44 => rfl
                case hy13x44 => ((intro w hSw; (try dsimp only at hSw); go_simp) <;> (with_reducible rfl))
                try simp only [Act.put, List.setIfInBounds_toArray, List.set_cons_zero, List.set_cons_succ]
                refine wpAnyH_take (i := 14) (oi := ?oi14x45) (v := ?vv14x45) ?hi14x45 (by kernel_rfl) (by kernel_rfl) (by kernel_rfl) ?hQ14x45 (Or.inl ⟨?hw14x45, ?hy14x45⟩) hHeld ?rest14x45
                case hi14x45 => (simp only [List.getElem?_toArray, List.getElem?_cons_succ, List.getElem?_cons_zero]; exact rfl)
                case hQ14x45 => exact fun _ _ _ h => h
                case hw14x45 => rfl
                case hy14x45 => ((intro w hSw; (try dsimp only at hSw); go_simp) <;> (with_reducible rfl))
                try simp only [Act.put, List.setIfInBounds_toArray, List.set_cons_zero, List.set_cons_succ]
                refine wpAnyH_take (i := 15) (oi := ?oi15z46) (v := ?vv15z46) ?hi15z46 (by kernel_rfl) (by kernel_rfl) (by kernel_rfl) ?hQ15z46 ?hy15z46 hHeld ?rest15z46
                case hi15z46 => (simp only [List.getElem?_toArray, List.getElem?_cons_succ, List.getElem?_cons_zero]; exact rfl)
                case hQ15z46 => exact fun _ _ _ h => h
                case hy15z46 =>
                  refine yields_load5 (t := b.1) (e := b.2) (g := g) (off := ob) ?_ ?_
                  · simp only [List.getElem?_toArray, List.getElem?_cons_succ, List.getElem?_cons_zero, Option.getD_some]
                  · exact fun w hS => hS.2.2
                try simp only [Act.put, List.setIfInBounds_toArray, List.set_cons_zero, List.set_cons_succ]
                refine wpAnyH_take (i := 18) (oi := ?oi18x47) (v := ?vv18x47) ?hi18x47 (by kernel_rfl) (by kernel_rfl) (by kernel_rfl) ?hQ18x47 (Or.inl ⟨?hw18x47, ?hy18x47⟩) hHeld ?rest18x47
                case hi18x47 => (simp only [List.getElem?_toArray, List.getElem?_cons_succ, List.getElem?_cons_zero]; exact rfl)
                case hQ18x47 => exact fun _ _ _ h => h
                case hw18x47 => rfl
                case hy18x47 => ((intro w hSw; (try dsimp only at hSw); go_simp) <;> (with_reducible rfl))
                try simp only [Act.put, List.setIfInBounds_toArray, List.set_cons_zero, List.set_cons_succ]
                refine wpAnyH_take (i := 19) (oi := ?oi19x48) (v := ?vv19x48) ?hi19x48 (by kernel_rfl) (by kernel_rfl) (by kernel_rfl) ?hQ19x48 (Or.inl ⟨?hw19x48, ?hy19x48⟩) hHeld ?rest19x48
                case hi19x48 => (simp only [List.getElem?_toArray, List.getElem?_cons_succ, List.getElem?_cons_zero]; exact rfl)
                case hQ19x48 => exact fun _ _ _ h => h
                case hw19x48 => rfl
                case hy19x48 => ((intro w hSw; (try dsimp only at hSw); go_simp) <;> (with_reducible rfl))
                try simp only [Act.put, List.setIfInBounds_toArray, List.set_cons_zero, List.set_cons_succ]
                refine wpAnyH_take (i := 20) (oi := ?oi20x49) (v := ?vv20x49) ?hi20x49 (by kernel_rfl) (by kernel_rfl) (by kernel_rfl) ?hQ20x49 (Or.inl ⟨?hw20x49, ?hy20x49⟩) hHeld ?rest20x49
                case hi20x49 => (simp only [List.getElem?_toArray, List.getElem?_cons_succ, List.getElem?_cons_zero]; exact rfl)
                case hQ20x49 => exact fun _ _ _ h => h
                case hw20x49 => rfl
                case hy20x49 => ((intro w hSw; (try dsimp only at hSw); go_simp) <;> (with_reducible rfl))
                try simp only [Act.put, List.setIfInBounds_toArray, List.set_cons_zero, List.set_cons_succ]
                as_aux_lemma =>
                  refine wpAnyH_ready (rs := [0, 16]) (by kernel_rfl) (by simp) ?_
                  refine AllReadyH.cons (o := ?o0y64) ?ho0y64 (fun KK hKK => ?st0y64) (AllReadyH.cons (o := ?o16y64) ?ho16y64 (fun KK hKK => ?st16y64) (AllReadyH.nil))
                  case ho0y64 => (simp only [List.getElem?_toArray, List.getElem?_cons_succ, List.getElem?_cons_zero]; exact rfl)
                  case ho16y64 => (simp only [List.getElem?_toArray, List.getElem?_cons_succ, List.getElem?_cons_zero]; exact rfl)
                  case st0y64 =>
                    refine step_build0 ?_
                    have r0 : World.ownsRow (wv.alloc (.cells #[] 26)) wv.heap.size 26 5 (.slice (some ⟨wv.heap.size, 0, none⟩) 0 0) 0 [] := own_mono (World.ownsRow_lit wv #[] 0 (Nat.le_refl _) (by decide) rfl) K0.size
                    have K1 := K0.alloc K0.size (.cells #[] 26)
                    refine hKK.out _ _ (hHB _ K1) (fun hHeld => ?_)
                    clear hKK KK
                    try simp only [Act.put, List.setIfInBounds_toArray, List.set_cons_zero, List.set_cons_succ]
                    refine wpAnyH_ready (rs := [4, 16]) (by kernel_rfl) (by simp) ?_
                    refine AllReadyH.cons (o := ?o4y58) ?ho4y58 (fun KK hKK => ?st4y58) (AllReadyH.cons (o := ?o16y58) ?ho16y58 (fun KK hKK => ?st16y58) (AllReadyH.nil))
                    case ho4y58 => (simp only [List.getElem?_toArray, List.getElem?_cons_succ, List.getElem?_cons_zero]; exact rfl)
                    case ho16y58 => (simp only [List.getElem?_toArray, List.getElem?_cons_succ, List.getElem?_cons_zero]; exact rfl)
                    case st4y58 =>
                      refine step_appr (by simp only [List.getElem?_toArray, List.getElem?_cons_succ, List.getElem?_cons_zero, Option.getD_some]) (by simp only [List.getElem?_toArray, List.getElem?_cons_succ, List.getElem?_cons_zero, Option.getD_some]) r0 (sl_take (hsl.below K1) hYl (show kk ≤ nj by omega)) (cellsX_one _) (by omega) K1.size ?_
                      intro A4 c4 wa4 ra4 hg4
                      have K2 := K1.trans (hg4.fr.below (fun x hx => (row_lt r0 hx).1) K1.size)
                      refine hKK.out _ _ (hHB _ K2) (fun hHeld => ?_)
                      clear hKK KK
                      try simp only [Act.put, List.setIfInBounds_toArray, List.set_cons_zero, List.set_cons_succ]
                      refine wpAnyH_ready (rs := [16]) (by kernel_rfl) (by simp) ?_
                      refine AllReadyH.cons (o := ?o16y53) ?ho16y53 (fun KK hKK => ?st16y53) (AllReadyH.nil)
                      case ho16y53 => (simp only [List.getElem?_toArray, List.getElem?_cons_succ, List.getElem?_cons_zero]; exact rfl)
                      refine step_build2 (t := a.1) (e := a.2) (u := b.1) (f := b.2) (by simp only [List.getElem?_toArray, List.getElem?_cons_succ, List.getElem?_cons_zero, Option.getD_some]) (by simp only [List.getElem?_toArray, List.getElem?_cons_succ, List.getElem?_cons_zero, Option.getD_some]) ?_
                      have LT := Blk.new wa4 26 #[.int .i64 a.1.k, .int .i64 a.1.n, .int .i64 a.1.x, .string a.1.s, .slice a.2.A a.2.n a.2.c, .int .i64 b.1.k, .int .i64 b.1.n, .int .i64 b.1.x, .string b.1.s, .slice b.2.A b.2.n b.2.c]
                      have K3 := K2.alloc K2.size (.cells #[.int .i64 a.1.k, .int .i64 a.1.n, .int .i64 a.1.x, .string a.1.s, .slice a.2.A a.2.n a.2.c, .int .i64 b.1.k, .int .i64 b.1.n, .int .i64 b.1.x, .string b.1.s, .slice b.2.A b.2.n b.2.c] 26)
                      have rr := own_bel ra4 (Below.one wa4 (.cells #[.int .i64 a.1.k, .int .i64 a.1.n, .int .i64 a.1.x, .string a.1.s, .slice a.2.A a.2.n a.2.c, .int .i64 b.1.k, .int .i64 b.1.n, .int .i64 b.1.x, .string b.1.s, .slice b.2.A b.2.n b.2.c] 26))
                      refine hKK.out _ _ (hHB _ K3) (fun hHeld => ?_)
                      clear hKK KK
                      try simp only [Act.put, List.setIfInBounds_toArray, List.set_cons_zero, List.set_cons_succ]
                      refine wpAnyH_ready (rs := [17]) (by kernel_rfl) (by simp) ?_
                      refine AllReadyH.cons (o := ?o17y52) ?ho17y52 (fun KK hKK => ?st17y52) (AllReadyH.nil)
                      case ho17y52 => (simp only [List.getElem?_toArray, List.getElem?_cons_succ, List.getElem?_cons_zero]; exact rfl)
                      refine step_appr (by simp only [List.getElem?_toArray, List.getElem?_cons_succ, List.getElem?_cons_zero, Option.getD_some]) (by simp only [List.getElem?_toArray, List.getElem?_cons_succ, List.getElem?_cons_zero, Option.getD_some]) rr (sl_lit LT) (cellsX_one _) (by omega) K3.size ?_
                      intro A17 c17 wa17 ra17 hg17
                      have K4 := K3.trans (hg17.fr.below (fun x hx => (row_lt rr hx).1) K3.size)
                      refine hKK.out _ _ (hHB _ K4) (fun hHeld => ?_)
                      clear hKK KK
                      try simp only [Act.put, List.setIfInBounds_toArray, List.set_cons_zero, List.set_cons_succ]
                      refine wpAnyH_ready (rs := [21]) (by kernel_rfl) (by simp) ?_
                      refine AllReadyH.cons (o := ?o21y51) ?ho21y51 (fun KK hKK => ?st21y51) (AllReadyH.nil)
                      case ho21y51 => (simp only [List.getElem?_toArray, List.getElem?_cons_succ, List.getElem?_cons_zero]; exact rfl)
                      refine step_appr (by simp only [List.getElem?_toArray, List.getElem?_cons_succ, List.getElem?_cons_zero, Option.getD_some]) (by simp only [List.getElem?_toArray, List.getElem?_cons_succ, List.getElem?_cons_zero, Option.getD_some]) ra17 (sl_drop2 (hsl.below K4) hYl (show kk ≤ nj by omega)) (cellsX_one _) (by omega) K4.size ?_
                      intro A21 c21 wa21 ra21 hg21
                      have K5 := K4.trans (hg21.fr.below (fun x hx => (row_lt ra17 hx).1) K4.size)
                      refine hKK.out _ _ (hHB _ K5) (fun hHeld => ?_)
                      clear hKK KK
                      try simp only [Act.put, List.setIfInBounds_toArray, List.set_cons_zero, List.set_cons_succ]
                      refine wpAnyH_take (i := 22) (oi := ?oi22x50) (v := ?vv22x50) ?hi22x50 (by kernel_rfl) (by kernel_rfl) (by kernel_rfl) ?hQ22x50 (Or.inl ⟨?hw22x50, ?hy22x50⟩) hHeld ?rest22x50
                      case hi22x50 => (simp only [List.getElem?_toArray, List.getElem?_cons_succ, List.getElem?_cons_zero]; exact rfl)
                      case hQ22x50 => exact fun _ _ _ h => h
                      case hw22x50 => rfl
                      case hy22x50 => ((intro w hSw; (try dsimp only at hSw); go_simp) <;> (with_reducible rfl))
                      try simp only [Act.put, List.setIfInBounds_toArray, List.set_cons_zero, List.set_cons_succ]
                      refine wpAnyH_done (by kernel_rfl) ?_ _
                      refine NoPanic.normal ?_
                      clear hHeld hHB
                      obtain ⟨hnj, hI, hjf⟩ := HNJ.out
                      obtain ⟨hPP, hkk, hPj⟩ := HP.out
                      have hac := HA.out
                      have hnn : 0 + kk + 2 + (nj - kk) = nj + 2 := by omega
                      have hcs : [] ++ cellsX (List.take kk (accG Prod.fst X j)) ++ cellsX [a, b] ++ cellsX (List.drop kk (accG Prod.fst X j)) = cellsX (insG (accG Prod.fst X j) a b PP) := by rw [insG_cells, hkk]; simp
                      have hXF := hXd.below K5
                      have hIl : (insG (accG Prod.fst X j) a b PP).length = 0 + kk + 2 + (nj - kk) := by rw [insG_len (by omega)]; omega
                      have hmm : ∀ x ∈ insG (accG Prod.fst X j) a b PP, x ∈ X := fun x hx => by
                        rcases insG_mem hx with rfl | rfl | hx
                        · exact List.mem_of_getElem? hga
                        · exact List.mem_of_getElem? hgb
                        · exact (accG_perm Prod.fst X j (by omega)).mem_iff.1 (List.mem_append_left _ hx)
                      have hNF := NV.mk_ (lo := gx + 1) ra21 (by have := BXd.lt; omega) hcs hIl (fun x hx => hXF.kids x (hmm x hx)) (fun x hx y hy => Nat.lt_succ_of_lt (hXlow x (hmm x hx) y hy))
                      obtain ⟨gF, hgF⟩ := own_some ra21 (by omega)
                      subst hgF
                      have BXF := BXd.below K5 BXd.lt
                      have BZF := BZd.below K5 BZd.lt
                      have kF := kd.up K5
                      rw [hnn] at hNF
                      rw [← hPP, ← hac] at hNF
                      have HF := Lib.hid (And.intro hNF (And.intro hXF (And.intro BXF (And.intro BZF kF))))
                      have HJ := Lib.hid (And.intro hjf (And.intro hI hnj))
                      clear hNF hXF BXF BZF kF hcs hIl hmm hnn hnj hI hjf hPP hkk hPj hac HNJ HP HA hYl hkl
                      try generalize (if cj = kk then (some ⟨gj, 0, none⟩ : Option Addr) else some ⟨gj, kk * 5, none⟩) = pz
                      go_wp2_with fail
                      all_goals
                        go_roundg f
                        case measure => omega
                        case rel =>
                          obtain ⟨hNF, hXF, BXF, BZF, kF⟩ := HF.out
                          obtain ⟨hjf, hI, hnj⟩ := HJ.out
                          exact ⟨j + 1, I + 2, nj + 2, _, gF, by omega, by omega, by omega, by first | rfl | (simp; omega) | (congr 1 <;> omega), by go_num, hNF, hXF, BXF, BZF, kF⟩
                    case st16y58 =>
                      refine step_build2 (t := a.1) (e := a.2) (u := b.1) (f := b.2) (by simp only [List.getElem?_toArray, List.getElem?_cons_succ, List.getElem?_cons_zero, Option.getD_some]) (by simp only [List.getElem?_toArray, List.getElem?_cons_succ, List.getElem?_cons_zero, Option.getD_some]) ?_
                      have LT := Blk.new (wv.alloc (.cells #[] 26)) 26 #[.int .i64 a.1.k, .int .i64 a.1.n, .int .i64 a.1.x, .string a.1.s, .slice a.2.A a.2.n a.2.c, .int .i64 b.1.k, .int .i64 b.1.n, .int .i64 b.1.x, .string b.1.s, .slice b.2.A b.2.n b.2.c]
                      have K2 := K1.alloc K1.size (.cells #[.int .i64 a.1.k, .int .i64 a.1.n, .int .i64 a.1.x, .string a.1.s, .slice a.2.A a.2.n a.2.c, .int .i64 b.1.k, .int .i64 b.1.n, .int .i64 b.1.x, .string b.1.s, .slice b.2.A b.2.n b.2.c] 26)
                      have rr := own_bel r0 (Below.one (wv.alloc (.cells #[] 26)) (.cells #[.int .i64 a.1.k, .int .i64 a.1.n, .int .i64 a.1.x, .string a.1.s, .slice a.2.A a.2.n a.2.c, .int .i64 b.1.k, .int .i64 b.1.n, .int .i64 b.1.x, .string b.1.s, .slice b.2.A b.2.n b.2.c] 26))
                      refine hKK.out _ _ (hHB _ K2) (fun hHeld => ?_)
                      clear hKK KK
                      try simp only [Act.put, List.setIfInBounds_toArray, List.set_cons_zero, List.set_cons_succ]
                      refine wpAnyH_ready (rs := [4]) (by kernel_rfl) (by simp) ?_
                      refine AllReadyH.cons (o := ?o4y57) ?ho4y57 (fun KK hKK => ?st4y57) (AllReadyH.nil)
                      case ho4y57 => (simp only [List.getElem?_toArray, List.getElem?_cons_succ, List.getElem?_cons_zero]; exact rfl)
                      refine step_appr (by simp only [List.getElem?_toArray, List.getElem?_cons_succ, List.getElem?_cons_zero, Option.getD_some]) (by simp only [List.getElem?_toArray, List.getElem?_cons_succ, List.getElem?_cons_zero, Option.getD_some]) rr (sl_take (hsl.below K2) hYl (show kk ≤ nj by omega)) (cellsX_one _) (by omega) K2.size ?_
                      intro A4 c4 wa4 ra4 hg4
                      have K3 := K2.trans (hg4.fr.below (fun x hx => (row_lt rr hx).1) K2.size)
                      have LT4 : Blk wa4 (wv.alloc (.cells #[] 26)).heap.size 26 #[.int .i64 a.1.k, .int .i64 a.1.n, .int .i64 a.1.x, .string a.1.s, .slice a.2.A a.2.n a.2.c, .int .i64 b.1.k, .int .i64 b.1.n, .int .i64 b.1.x, .string b.1.s, .slice b.2.A b.2.n b.2.c] := blk_fr LT hg4.fr (by simp [blkOf] <;> omega)
                      refine hKK.out _ _ (hHB _ K3) (fun hHeld => ?_)
                      clear hKK KK
                      try simp only [Act.put, List.setIfInBounds_toArray, List.set_cons_zero, List.set_cons_succ]
                      refine wpAnyH_ready (rs := [17]) (by kernel_rfl) (by simp) ?_
                      refine AllReadyH.cons (o := ?o17y56) ?ho17y56 (fun KK hKK => ?st17y56) (AllReadyH.nil)
                      case ho17y56 => (simp only [List.getElem?_toArray, List.getElem?_cons_succ, List.getElem?_cons_zero]; exact rfl)
                      refine step_appr (by simp only [List.getElem?_toArray, List.getElem?_cons_succ, List.getElem?_cons_zero, Option.getD_some]) (by simp only [List.getElem?_toArray, List.getElem?_cons_succ, List.getElem?_cons_zero, Option.getD_some]) ra4 (sl_lit LT4) (cellsX_one _) (by omega) K3.size ?_
                      intro A17 c17 wa17 ra17 hg17
                      have K4 := K3.trans (hg17.fr.below (fun x hx => (row_lt ra4 hx).1) K3.size)
                      refine hKK.out _ _ (hHB _ K4) (fun hHeld => ?_)
                      clear hKK KK
                      try simp only [Act.put, List.setIfInBounds_toArray, List.set_cons_zero, List.set_cons_succ]
                      refine wpAnyH_ready (rs := [21]) (by kernel_rfl) (by simp) ?_
                      refine AllReadyH.cons (o := ?o21y55) ?ho21y55 (fun KK hKK => ?st21y55) (AllReadyH.nil)
                      case ho21y55 => (simp only [List.getElem?_toArray, List.getElem?_cons_succ, List.getElem?_cons_zero]; exact rfl)
                      refine step_appr (by simp only [List.getElem?_toArray, List.getElem?_cons_succ, List.getElem?_cons_zero, Option.getD_some]) (by simp only [List.getElem?_toArray, List.getElem?_cons_succ, List.getElem?_cons_zero, Option.getD_some]) ra17 (sl_drop2 (hsl.below K4) hYl (show kk ≤ nj by omega)) (cellsX_one _) (by omega) K4.size ?_
                      intro A21 c21 wa21 ra21 hg21
                      have K5 := K4.trans (hg21.fr.below (fun x hx => (row_lt ra17 hx).1) K4.size)
                      refine hKK.out _ _ (hHB _ K5) (fun hHeld => ?_)
                      clear hKK KK
                      try simp only [Act.put, List.setIfInBounds_toArray, List.set_cons_zero, List.set_cons_succ]
                      refine wpAnyH_take (i := 22) (oi := ?oi22x54) (v := ?vv22x54) ?hi22x54 (by kernel_rfl) (by kernel_rfl) (by kernel_rfl) ?hQ22x54 (Or.inl ⟨?hw22x54, ?hy22x54⟩) hHeld ?rest22x54
                      case hi22x54 => (simp only [List.getElem?_toArray, List.getElem?_cons_succ, List.getElem?_cons_zero]; exact rfl)
                      case hQ22x54 => exact fun _ _ _ h => h
                      case hw22x54 => rfl
                      case hy22x54 => ((intro w hSw; (try dsimp only at hSw); go_simp) <;> (with_reducible rfl))
                      try simp only [Act.put, List.setIfInBounds_toArray, List.set_cons_zero, List.set_cons_succ]
                      refine wpAnyH_done (by kernel_rfl) ?_ _
                      refine NoPanic.normal ?_
                      clear hHeld hHB
                      obtain ⟨hnj, hI, hjf⟩ := HNJ.out
                      obtain ⟨hPP, hkk, hPj⟩ := HP.out
                      have hac := HA.out
                      have hnn : 0 + kk + 2 + (nj - kk) = nj + 2 := by omega
                      have hcs : [] ++ cellsX (List.take kk (accG Prod.fst X j)) ++ cellsX [a, b] ++ cellsX (List.drop kk (accG Prod.fst X j)) = cellsX (insG (accG Prod.fst X j) a b PP) := by rw [insG_cells, hkk]; simp
                      have hXF := hXd.below K5
                      have hIl : (insG (accG Prod.fst X j) a b PP).length = 0 + kk + 2 + (nj - kk) := by rw [insG_len (by omega)]; omega
                      have hmm : ∀ x ∈ insG (accG Prod.fst X j) a b PP, x ∈ X := fun x hx => by
                        rcases insG_mem hx with rfl | rfl | hx
                        · exact List.mem_of_getElem? hga
                        · exact List.mem_of_getElem? hgb
                        · exact (accG_perm Prod.fst X j (by omega)).mem_iff.1 (List.mem_append_left _ hx)
                      have hNF := NV.mk_ (lo := gx + 1) ra21 (by have := BXd.lt; omega) hcs hIl (fun x hx => hXF.kids x (hmm x hx)) (fun x hx y hy => Nat.lt_succ_of_lt (hXlow x (hmm x hx) y hy))
                      obtain ⟨gF, hgF⟩ := own_some ra21 (by omega)
                      subst hgF
                      have BXF := BXd.below K5 BXd.lt
                      have BZF := BZd.below K5 BZd.lt
                      have kF := kd.up K5
                      rw [hnn] at hNF
                      rw [← hPP, ← hac] at hNF
                      have HF := Lib.hid (And.intro hNF (And.intro hXF (And.intro BXF (And.intro BZF kF))))
                      have HJ := Lib.hid (And.intro hjf (And.intro hI hnj))
                      clear hNF hXF BXF BZF kF hcs hIl hmm hnn hnj hI hjf hPP hkk hPj hac HNJ HP HA hYl hkl
                      try generalize (if cj = kk then (some ⟨gj, 0, none⟩ : Option Addr) else some ⟨gj, kk * 5, none⟩) = pz
                      go_wp2_with fail
                      all_goals
                        go_roundg f
                        case measure => omega
                        case rel =>
                          obtain ⟨hNF, hXF, BXF, BZF, kF⟩ := HF.out
                          obtain ⟨hjf, hI, hnj⟩ := HJ.out
                          exact ⟨j + 1, I + 2, nj + 2, _, gF, by omega, by omega, by omega, by first | rfl | (simp; omega) | (congr 1 <;> omega), by go_num, hNF, hXF, BXF, BZF, kF⟩
                  case st16y64 =>
                    refine step_build2 (t := a.1) (e := a.2) (u := b.1) (f := b.2) (by simp only [List.getElem?_toArray, List.getElem?_cons_succ, List.getElem?_cons_zero, Option.getD_some]) (by simp only [List.getElem?_toArray, List.getElem?_cons_succ, List.getElem?_cons_zero, Option.getD_some]) ?_
                    have LT := Blk.new wv 26 #[.int .i64 a.1.k, .int .i64 a.1.n, .int .i64 a.1.x, .string a.1.s, .slice a.2.A a.2.n a.2.c, .int .i64 b.1.k, .int .i64 b.1.n, .int .i64 b.1.x, .string b.1.s, .slice b.2.A b.2.n b.2.c]
                    have K1 := K0.alloc K0.size (.cells #[.int .i64 a.1.k, .int .i64 a.1.n, .int .i64 a.1.x, .string a.1.s, .slice a.2.A a.2.n a.2.c, .int .i64 b.1.k, .int .i64 b.1.n, .int .i64 b.1.x, .string b.1.s, .slice b.2.A b.2.n b.2.c] 26)
                    refine hKK.out _ _ (hHB _ K1) (fun hHeld => ?_)
                    clear hKK KK
                    try simp only [Act.put, List.setIfInBounds_toArray, List.set_cons_zero, List.set_cons_succ]
                    refine wpAnyH_ready (rs := [0]) (by kernel_rfl) (by simp) ?_
                    refine AllReadyH.cons (o := ?o0y63) ?ho0y63 (fun KK hKK => ?st0y63) (AllReadyH.nil)
                    case ho0y63 => (simp only [List.getElem?_toArray, List.getElem?_cons_succ, List.getElem?_cons_zero]; exact rfl)
                    refine step_build0 ?_
                    have r0 : World.ownsRow ((wv.alloc (.cells #[.int .i64 a.1.k, .int .i64 a.1.n, .int .i64 a.1.x, .string a.1.s, .slice a.2.A a.2.n a.2.c, .int .i64 b.1.k, .int .i64 b.1.n, .int .i64 b.1.x, .string b.1.s, .slice b.2.A b.2.n b.2.c] 26)).alloc (.cells #[] 26)) wv.heap.size 26 5 (.slice (some ⟨(wv.alloc (.cells #[.int .i64 a.1.k, .int .i64 a.1.n, .int .i64 a.1.x, .string a.1.s, .slice a.2.A a.2.n a.2.c, .int .i64 b.1.k, .int .i64 b.1.n, .int .i64 b.1.x, .string b.1.s, .slice b.2.A b.2.n b.2.c] 26)).heap.size, 0, none⟩) 0 0) 0 [] := own_mono (World.ownsRow_lit (wv.alloc (.cells #[.int .i64 a.1.k, .int .i64 a.1.n, .int .i64 a.1.x, .string a.1.s, .slice a.2.A a.2.n a.2.c, .int .i64 b.1.k, .int .i64 b.1.n, .int .i64 b.1.x, .string b.1.s, .slice b.2.A b.2.n b.2.c] 26)) #[] 0 (Nat.le_refl _) (by decide) rfl) K1.size
                    have K2 := K1.alloc K1.size (.cells #[] 26)
                    have LT2 := LT.alloc (.cells #[] 26)
                    have hne : wv.heap.size ≠ (wv.alloc (.cells #[.int .i64 a.1.k, .int .i64 a.1.n, .int .i64 a.1.x, .string a.1.s, .slice a.2.A a.2.n a.2.c, .int .i64 b.1.k, .int .i64 b.1.n, .int .i64 b.1.x, .string b.1.s, .slice b.2.A b.2.n b.2.c] 26)).heap.size := by have := LT.lt; omega
                    refine hKK.out _ _ (hHB _ K2) (fun hHeld => ?_)
                    clear hKK KK
                    try simp only [Act.put, List.setIfInBounds_toArray, List.set_cons_zero, List.set_cons_succ]
                    refine wpAnyH_ready (rs := [4]) (by kernel_rfl) (by simp) ?_
                    refine AllReadyH.cons (o := ?o4y62) ?ho4y62 (fun KK hKK => ?st4y62) (AllReadyH.nil)
                    case ho4y62 => (simp only [List.getElem?_toArray, List.getElem?_cons_succ, List.getElem?_cons_zero]; exact rfl)
                    refine step_appr (by simp only [List.getElem?_toArray, List.getElem?_cons_succ, List.getElem?_cons_zero, Option.getD_some]) (by simp only [List.getElem?_toArray, List.getElem?_cons_succ, List.getElem?_cons_zero, Option.getD_some]) r0 (sl_take (hsl.below K2) hYl (show kk ≤ nj by omega)) (cellsX_one _) (by omega) K2.size ?_
                    intro A4 c4 wa4 ra4 hg4
                    have K3 := K2.trans (hg4.fr.below (fun x hx => (row_lt r0 hx).1) K2.size)
                    have LT4 : Blk wa4 wv.heap.size 26 #[.int .i64 a.1.k, .int .i64 a.1.n, .int .i64 a.1.x, .string a.1.s, .slice a.2.A a.2.n a.2.c, .int .i64 b.1.k, .int .i64 b.1.n, .int .i64 b.1.x, .string b.1.s, .slice b.2.A b.2.n b.2.c] := blk_fr LT2 hg4.fr (by simp [blkOf] <;> omega)
                    refine hKK.out _ _ (hHB _ K3) (fun hHeld => ?_)
                    clear hKK KK
                    try simp only [Act.put, List.setIfInBounds_toArray, List.set_cons_zero, List.set_cons_succ]
                    refine wpAnyH_ready (rs := [17]) (by kernel_rfl) (by simp) ?_
                    refine AllReadyH.cons (o := ?o17y61) ?ho17y61 (fun KK hKK => ?st17y61) (AllReadyH.nil)
                    case ho17y61 => (simp only [List.getElem?_toArray, List.getElem?_cons_succ, List.getElem?_cons_zero]; exact rfl)
                    refine step_appr (by simp only [List.getElem?_toArray, List.getElem?_cons_succ, List.getElem?_cons_zero, Option.getD_some]) (by simp only [List.getElem?_toArray, List.getElem?_cons_succ, List.getElem?_cons_zero, Option.getD_some]) ra4 (sl_lit LT4) (cellsX_one _) (by omega) K3.size ?_
                    intro A17 c17 wa17 ra17 hg17
                    have K4 := K3.trans (hg17.fr.below (fun x hx => (row_lt ra4 hx).1) K3.size)
                    refine hKK.out _ _ (hHB _ K4) (fun hHeld => ?_)
                    clear hKK KK
                    try simp only [Act.put, List.setIfInBounds_toArray, List.set_cons_zero, List.set_cons_succ]
                    refine wpAnyH_ready (rs := [21]) (by kernel_rfl) (by simp) ?_
                    refine AllReadyH.cons (o := ?o21y60) ?ho21y60 (fun KK hKK => ?st21y60) (AllReadyH.nil)
                    case ho21y60 => (simp only [List.getElem?_toArray, List.getElem?_cons_succ, List.getElem?_cons_zero]; exact rfl)
                    refine step_appr (by simp only [List.getElem?_toArray, List.getElem?_cons_succ, List.getElem?_cons_zero, Option.getD_some]) (by simp only [List.getElem?_toArray, List.getElem?_cons_succ, List.getElem?_cons_zero, Option.getD_some]) ra17 (sl_drop2 (hsl.below K4) hYl (show kk ≤ nj by omega)) (cellsX_one _) (by omega) K4.size ?_
                    intro A21 c21 wa21 ra21 hg21
                    have K5 := K4.trans (hg21.fr.below (fun x hx => (row_lt ra17 hx).1) K4.size)
                    refine hKK.out _ _ (hHB _ K5) (fun hHeld => ?_)
                    clear hKK KK
                    try simp only [Act.put, List.setIfInBounds_toArray, List.set_cons_zero, List.set_cons_succ]
                    refine wpAnyH_take (i := 22) (oi := ?oi22x59) (v := ?vv22x59) ?hi22x59 (by kernel_rfl) (by kernel_rfl) (by kernel_rfl) ?hQ22x59 (Or.inl ⟨?hw22x59, ?hy22x59⟩) hHeld ?rest22x59
                    case hi22x59 => (simp only [List.getElem?_toArray, List.getElem?_cons_succ, List.getElem?_cons_zero]; exact rfl)
                    case hQ22x59 => exact fun _ _ _ h => h
                    case hw22x59 => rfl
                    case hy22x59 => ((intro w hSw; (try dsimp only at hSw); go_simp) <;> (with_reducible rfl))
                    try simp only [Act.put, List.setIfInBounds_toArray, List.set_cons_zero, List.set_cons_succ]
                    refine wpAnyH_done (by kernel_rfl) ?_ _
                    refine NoPanic.normal ?_
                    clear hHeld hHB
                    obtain ⟨hnj, hI, hjf⟩ := HNJ.out
                    obtain ⟨hPP, hkk, hPj⟩ := HP.out
                    have hac := HA.out
                    have hnn : 0 + kk + 2 + (nj - kk) = nj + 2 := by omega
                    have hcs : [] ++ cellsX (List.take kk (accG Prod.fst X j)) ++ cellsX [a, b] ++ cellsX (List.drop kk (accG Prod.fst X j)) = cellsX (insG (accG Prod.fst X j) a b PP) := by rw [insG_cells, hkk]; simp
                    have hXF := hXd.below K5
                    have hIl : (insG (accG Prod.fst X j) a b PP).length = 0 + kk + 2 + (nj - kk) := by rw [insG_len (by omega)]; omega
                    have hmm : ∀ x ∈ insG (accG Prod.fst X j) a b PP, x ∈ X := fun x hx => by
                      rcases insG_mem hx with rfl | rfl | hx
                      · exact List.mem_of_getElem? hga
                      · exact List.mem_of_getElem? hgb
                      · exact (accG_perm Prod.fst X j (by omega)).mem_iff.1 (List.mem_append_left _ hx)
                    have hNF := NV.mk_ (lo := gx + 1) ra21 (by have := BXd.lt; omega) hcs hIl (fun x hx => hXF.kids x (hmm x hx)) (fun x hx y hy => Nat.lt_succ_of_lt (hXlow x (hmm x hx) y hy))
                    obtain ⟨gF, hgF⟩ := own_some ra21 (by omega)
                    subst hgF
                    have BXF := BXd.below K5 BXd.lt
                    have BZF := BZd.below K5 BZd.lt
                    have kF := kd.up K5
                    rw [hnn] at hNF
                    rw [← hPP, ← hac] at hNF
                    have HF := Lib.hid (And.intro hNF (And.intro hXF (And.intro BXF (And.intro BZF kF))))
                    have HJ := Lib.hid (And.intro hjf (And.intro hI hnj))
                    clear hNF hXF BXF BZF kF hcs hIl hmm hnn hnj hI hjf hPP hkk hPj hac HNJ HP HA hYl hkl
                    try generalize (if cj = kk then (some ⟨gj, 0, none⟩ : Option Addr) else some ⟨gj, kk * 5, none⟩) = pz
                    go_wp2_with fail
                    all_goals
                      go_roundg f
                      case measure => omega
                      case rel =>
                        obtain ⟨hNF, hXF, BXF, BZF, kF⟩ := HF.out
                        obtain ⟨hjf, hI, hnj⟩ := HJ.out
                        exact ⟨j + 1, I + 2, nj + 2, _, gF, by omega, by omega, by omega, by first | rfl | (simp; omega) | (congr 1 <;> omega), by go_num, hNF, hXF, BXF, BZF, kF⟩
            · go_wp2_with fail
              go_region_held3 (fun w' => (w'.cell? ⟨gx, 4, none⟩ = some (.slice (some ⟨g, o, none⟩) vn vc) ∧ RowV w' g oa a.1 a.2 ∧ RowV w' gj oy p.1 p.2) ∧ Below wi.heap.size wi w')
                (first | exact S0 _ (Below.refl _ _).drew | exact S0 _ ((Below.refl _ _).drew.up hbA))
                (first | (go_at_call 12; refine (hLT2 _ (by assumption)).mono ?_; rintro r w9 ⟨rfl, hbA⟩))
              rename_i hHeld0
              have kb := hHeld0.2
              rename World => w9
              clear hHeld0 S0 hLT2
              have hP3 : posG Prod.fst (accG Prod.fst X j) a f2 = posG Prod.fst (accG Prod.fst X j) a j := by rw [← hP2]; exact (hpos2 hL).symm
              clear hP2 hpos hpos2 hL
              replace hNi := hNi.below (by have := BXi.lt; omega) kb
              replace hXi := hXi.below kb
              replace BZi := BZi.below kb BZi.lt
              replace ki := ki.up kb
              replace BXi := BXi.below kb BXi.lt
              clear kb
              go_wp2_with fail
              go_roundg f2
              case measure => omega
              case rel => exact ⟨(K : Int), by have := HK.out.1; omega, by omega, by go_num, hP3, hNi, hXi, BXi, BZi, ki⟩
      · have hj2 : j = vn / 2 := by omega
        have hjv : 2 * j = vn := by omega
        have hnv : nj = vn := by omega
        have hpm := accG_perm Prod.fst X j (by omega)
        rw [List.drop_eq_nil_of_le (show X.length ≤ 2 * j by omega), List.append_nil] at hpm
        have hoX := hXr.own.perm ((fp_perm hpm.symm).cons g)
        have hoE : Own wr (w.heap.size + 2) (elFp (XE (accG Prod.fst X j))) := ⟨(List.nodup_cons.1 hoX.1).2, fun x hx => hoX.2 x (List.mem_cons_of_mem _ hx)⟩
        obtain ⟨fp, hL, hO, hF⟩ := hN.own_ hoE (by omega) (by omega)
        have hgn : gx ∉ fp := fun hx => by
          rcases hF gx hx with h1 | h1
          · omega
          · obtain ⟨l, hl, hgl⟩ := List.mem_flatten.1 h1
            obtain ⟨e2, he, rfl⟩ := List.mem_map.1 hl
            obtain ⟨x, hx2, rfl⟩ := List.mem_map.1 he
            have := hXlow x (hpm.mem_iff.1 hx2) gx hgl
            omega
        have hn2 : w.heap.size + 1 ∉ fp := fun hx => by have := (hO.2 _ hx).1; omega
        have hRj : XT (accG Prod.fst X j) = R := by have := HR.out.1; rw [← hj2] at this; exact this
        rw [hRj] at hL
        have hld : decide ((I : Int) < (vn : Int)) = false := decide_eq_false (by omega)
        have hld2 : ¬ (I : Int) < (vn : Int) := by omega
        have bf := BXr.frozen 4
        have BX6 : Blk (wr.setCell ⟨gx, 4, none⟩ (.slice (some ⟨gj, 0, none⟩) nj cj)) gx 26 (valCells t ⟨some ⟨gj, 0, none⟩, nj, cj, fp⟩) := by simpa [valCells] using BXr.set_ 4 (.slice (some ⟨gj, 0, none⟩) nj cj)
        have hgz : gx ≠ w.heap.size + 1 := by omega
        have BZ6 := BZr.far (p := ⟨gx, 4, none⟩) (by exact fun e => hgz e.symm) (.slice (some ⟨gj, 0, none⟩) nj cj)
        have k6 := kr.setCell (p := ⟨gx, 4, none⟩) (by show w.heap.size ≤ gx; omega) (.slice (some ⟨gj, 0, none⟩) nj cj)
        have hL6 := hL.far (p := ⟨gx, 4, none⟩) hgn (.slice (some ⟨gj, 0, none⟩) nj cj)
        have hO6 := hO.far (p := ⟨gx, 4, none⟩) hgn (.slice (some ⟨gj, 0, none⟩) nj cj)
        obtain ⟨x0, x1, x2, x3, x4, ⟨s0, t0⟩, ⟨s1, t1⟩, ⟨s2, t2⟩, ⟨s3, t3⟩, s4, t4⟩ := BZ6.five (o := 0) (by simp) (.int .i64 t.k) (.int .i64 t.n) (.int .i64 t.x) (.string t.s)
        obtain ⟨c0, c1, c2, c3, c4⟩ := BX6.boxV
        have r1 := hL6.set5_ (e2 := ⟨some ⟨gj, 0, none⟩, nj, cj, fp⟩) (g := w.heap.size + 1) (o := 0) (t := t) hn2
        have r2 := (hO6.mono (lo2 := w.heap.size) (by omega)).set5_ (g := w.heap.size + 1) (o := 0) (t := t) (e := ⟨some ⟨gj, 0, none⟩, nj, cj, fp⟩) hn2
        have r3 := below_set5 (g := w.heap.size + 1) (o := 0) (t := t) (e := ⟨some ⟨gj, 0, none⟩, nj, cj, fp⟩) k6 (by omega)
        clear hI hnj hjf hN hXr hXw hXlow hXl hj2 hjv hnv hpm hoX hoE hF hRj hL hO HR hvm
        go_wp2_with fail
        exact bodyPost_ret (results_blk Tryz.results10 Tryz.isAgg26 (by exact Tryz.sizeOf26) (by rfl) (BZ6.five_ t ⟨some ⟨gj, 0, none⟩, nj, cj, fp⟩)) rfl (by unfold CopyOf; exact ⟨⟨some ⟨gj, 0, none⟩, nj, cj, fp⟩, rfl, r1, r2, r3⟩)
end Go.Proofs.YtmnlkedacnemcaaGreatDoor
