/- The law on PutAt. (Written by wip/gen/lawput.py.) -/
import Derived.Test.YtnfokfogmniehaaAtPathLaw
import Derived.Test.YtnfokfogmniehaaPutAtS
import Derived.Deep.RegionHeld3
import Derived.Deep.CutRange
set_option linter.unusedVariables false
set_option maxRecDepth 100000
set_option linter.unusedSimpArgs false
namespace Go.Proofs.Ytnfokfogmniehaa
open Go.ChangeShapes Go.WideShapes Go.ChangeAt Go.RowKit

theorem szL_set {l : List Tr} {i : Nat} (hi : i < l.length) (y : Tr) : szL (l.set i y) + l[i].sz = szL l + y.sz := by
  induction l generalizing i with
  | nil => simp at hi
  | cons a l ih =>
    cases i with
    | zero => simp [szL]; omega
    | succ i =>
      have := ih (i := i) (by simpa using hi)
      simp [szL] at this ⊢
      omega
theorem putAt_sz : ∀ (ps : List (Int × Bool)) (t x r : Tr), putAt t ps x = some r → r.sz ≤ t.sz + x.sz
  | [], t, x, r, h => by simp [putAt] at h; subst h; omega
  | p :: ps, t, x, r, h => by
    cases hst : stepT t p with
    | none => rw [putAt_no hst] at h; cases h
    | some u =>
      rw [putAt_yes hst] at h
      obtain ⟨y, hy, rfl⟩ := Option.map_eq_some_iff.1 h
      have h1 := putAt_sz ps u x y hy
      unfold stepT at hst
      split at hst
      · cases hst
      · obtain ⟨hi, rfl⟩ := List.getElem?_eq_some_iff.1 hst
        have h2 := szL_set hi y
        rw [Tr.sz_eq, t.sz_eq]
        show t.s.size + szL (t.l.set _ y) ≤ _
        omega
theorem Blk.up_ {w w' : World} {g : Nat} {T : TypeId} {cs : Array Value} (h : Blk w g T cs) (hb : Below w.heap.size w w') : Blk w' g T cs := h.below hb h.lt
theorem Blk.upn {w w' : World} {g : Nat} {T : TypeId} {cs : Array Value} (h : Blk w g T cs) (hb : Below w.heap.size w w') : Blk w' g T cs ∧ g < w.heap.size := ⟨h.below hb h.lt, h.lt⟩
theorem below5 {B : Nat} {w w' : World} {g : Nat} {a b c d f : Value} (h : Below B w w') (hg : B ≤ g) : Below B w (((((w'.setCell ⟨g, 0, none⟩ a).setCell ⟨g, 1, none⟩ b).setCell ⟨g, 2, none⟩ c).setCell ⟨g, 3, none⟩ d).setCell ⟨g, 4, none⟩ f) :=
  ((((h.setCell hg _).setCell hg _).setCell hg _).setCell hg _).setCell hg _
theorem cut_set5 {w0 wd : World} {B g : Nat} {a b c d f : Value} (R : Tr) (u : El) (hD : LsAt wd R.l u) (oD : Own wd B u.fp) (hB : Blk wd g 46 #[a, b, c, d, f]) (hg : g ∉ u.fp) (hl : B ≤ g) (k : Below B w0 wd) :
    LsAt (((((wd.setCell ⟨g, 0, none⟩ (.int .i64 R.k)).setCell ⟨g, 1, none⟩ (.int .i64 R.n)).setCell ⟨g, 2, none⟩ (.int .i64 R.x)).setCell ⟨g, 3, none⟩ (.string R.s)).setCell ⟨g, 4, none⟩ (.slice u.A u.n u.c)) R.l u ∧
    Own (((((wd.setCell ⟨g, 0, none⟩ (.int .i64 R.k)).setCell ⟨g, 1, none⟩ (.int .i64 R.n)).setCell ⟨g, 2, none⟩ (.int .i64 R.x)).setCell ⟨g, 3, none⟩ (.string R.s)).setCell ⟨g, 4, none⟩ (.slice u.A u.n u.c)) B u.fp ∧
    Blk (((((wd.setCell ⟨g, 0, none⟩ (.int .i64 R.k)).setCell ⟨g, 1, none⟩ (.int .i64 R.n)).setCell ⟨g, 2, none⟩ (.int .i64 R.x)).setCell ⟨g, 3, none⟩ (.string R.s)).setCell ⟨g, 4, none⟩ (.slice u.A u.n u.c)) g 46 (valCells R u) ∧ g ∉ u.fp ∧ B ≤ g ∧
    Below B w0 (((((wd.setCell ⟨g, 0, none⟩ (.int .i64 R.k)).setCell ⟨g, 1, none⟩ (.int .i64 R.n)).setCell ⟨g, 2, none⟩ (.int .i64 R.x)).setCell ⟨g, 3, none⟩ (.string R.s)).setCell ⟨g, 4, none⟩ (.slice u.A u.n u.c)) :=
  ⟨hD.set5_ (o := 0) (t := R) (e2 := u) hg, oD.set5_ (o := 0) (t := R) (e := u) hg, Blk.five_ hB R u, hg, hl, below_set5 (o := 0) (t := R) (e := u) k hl⟩
theorem cut_new {w0 wd : World} (R : Tr) (u : El) (hD : LsAt wd R.l u) (oD : Own wd w0.heap.size u.fp) (hl : w0.heap.size ≤ wd.heap.size) (k : Below w0.heap.size w0 wd) :
    LsAt (wd.alloc (.cells (valCells R u) 46)) R.l u ∧ Own (wd.alloc (.cells (valCells R u) 46)) w0.heap.size u.fp ∧ Blk (wd.alloc (.cells (valCells R u) 46)) wd.heap.size 46 (valCells R u) ∧ wd.heap.size ∉ u.fp ∧ w0.heap.size ≤ wd.heap.size ∧ Below w0.heap.size w0 (wd.alloc (.cells (valCells R u) 46)) :=
  ⟨hD.below (fun g hg => oD.lt hg) (Below.one _ _), oD.below (fun g hg => oD.lt hg) (Below.one _ _), Blk.new _ _ _, fun hx => Nat.lt_irrefl _ (oD.lt hx), hl, k.up (Below.one _ _)⟩
theorem Own.lt' {w : World} {lo : Nat} {e : El} (h : Own w lo e.fp) : e.lt w.heap.size := fun g hg => h.lt hg
set_option maxHeartbeats 4000000 in
theorem law_PutAt (t : Tr) (e : El) (A : Option Addr) (n c : Nat) (ps : List (Int × Bool)) (y : Tr) (ey : El) (w : World) (hl : LsAt w t.l e) (hel : e.lt w.heap.size) (hwf : t.wf) (hps : Sl w w.heap.size 2 A n c (stC ps)) (hpb : ∀ p ∈ ps, -9223372036854775808 ≤ p.1 ∧ p.1 ≤ 9223372036854775807) (hly : LsAt w y.l ey) (hey : ey.lt w.heap.size) (hwy : y.wf) :
    Calls Try.prog 8 #[trV t e, .slice A n c, trV y ey] w fun e' w' => e' = .returned (.bool true) ∧ Below w.heap.size w w' := by
  have hsz := fun w1 (hb : Below w.heap.size w w1) => l_szVal t e 1048576 w1 hwf (hl.below hel hb) (hel.mono hb.size) (by decide) (by decide)
  have hnm : n ≤ 9223372036854775807 := by have := hps.cap; have := hps.max; unfold maxLen at *; omega
  have BV : Blk ((w.alloc (.cells (valCells t e) 40)).alloc (.cells (valCells y ey) 40)) w.heap.size 40 (valCells t e) := (Blk.new w _ _).alloc _
  have BY : Blk ((w.alloc (.cells (valCells t e) 40)).alloc (.cells (valCells y ey) 40)) (w.heap.size + 1) 40 (valCells y ey) := by
    have := Blk.new (w.alloc (.cells (valCells t e) 40)) 40 (valCells y ey)
    simpa using this
  have K := Below.two w (.cells (valCells t e) 40) (.cells (valCells y ey) 40)
  have zV : ((w.alloc (.cells (valCells t e) 40)).alloc (.cells (valCells y ey) 40)).heap.size = w.heap.size + 2 := by simp
  by_cases hle : t.sz ≤ 1048576
  case neg =>
    have hres : szRes 1048576 t.sz = -1 := by unfold szRes; rw [if_neg (by omega)]
    rw [hres] at hsz
    go_enter Try.func8, Try.ntmps8
    go_wp2_with (go_at_call 30; refine (hsz _ K).mono ?_; rintro r w1 ⟨rfl, hb1⟩)
    go_ret
    exact ⟨rfl, K.up hb1⟩
  have hres : szRes 1048576 t.sz = 1048576 - t.sz := by unfold szRes; rw [if_pos (by omega)]
  rw [hres] at hsz
  have hss := fun w1 => l_szStepS A n c (1048576 - t.sz) w1 hnm (by omega) (by omega)
  by_cases hln : (n : Int) ≤ 1048576 - t.sz
  case neg =>
    rw [if_neg hln] at hss
    go_enter Try.func8, Try.ntmps8
    go_wp2_with (first
      | (go_at_call 30; refine (hsz _ K).mono ?_; rintro r w1 ⟨rfl, hb1⟩)
      | (go_at_call 39; refine (hss _).mono ?_; rintro r w2 ⟨rfl, rfl⟩))
    go_ret
    exact ⟨rfl, K.up hb1⟩
  rw [if_pos hln] at hss
  have hsy := fun w1 (hb : Below w.heap.size w w1) => l_szVal y ey (1048576 - t.sz - n) w1 hwy (hly.below hey hb) (hey.mono hb.size) (by omega) (by omega)
  by_cases hle2 : (y.sz : Int) ≤ 1048576 - t.sz - n
  case neg =>
    have hres2 : szRes (1048576 - t.sz - n) y.sz = -1 := by unfold szRes; rw [if_neg (by omega)]
    rw [hres2] at hsy
    go_enter Try.func8, Try.ntmps8
    go_wp2_with (first
      | (go_at_call 30; have hq := hb1; clear hq; refine (hsy _ K).mono ?_; rintro r w3 ⟨rfl, hb3⟩)
      | (go_at_call 30; refine (hsz _ K).mono ?_; rintro r w1 ⟨rfl, hb1⟩; replace BY := BY.below hb1 BY.lt; replace K := K.up hb1; obtain ⟨p00, p01, p02, p03, p04⟩ := BY.boxV)
      | (go_at_call 39; refine (hss _).mono ?_; rintro r w2 ⟨rfl, rfl⟩))
    go_ret
    exact ⟨rfl, K.up hb3⟩
  have hres2 : szRes (1048576 - t.sz - n) y.sz = 1048576 - t.sz - n - y.sz := by unfold szRes; rw [if_pos (by omega)]
  rw [hres2] at hsy
  have hto := fun w1 (hb : Below w.heap.size w w1) => l_toVal t e w1 (hl.below hel hb) (hel.mono hb.size) hle
  have htoy := fun w1 (hb : Below w.heap.size w w1) => l_toVal y ey w1 (hly.below hey hb) (hey.mono hb.size) (by omega)
  have hst := fun w1 (hb : Below w.heap.size w w1) => l_toStepS A n c ps w1 w.heap.size (hps.below hb) hb.size (by omega)
  obtain ⟨R, ok, hRz, hS, hI⟩ : ∃ (R : Tr) (ok : Bool), cntL R.l ≤ 16777216 ∧
      (∀ u A' c' v lo w1, LsAt w1 t.l u → u.lt w1.heap.size → SS w1 lo A' n c' ps → LsAt w1 y.l v → v.lt w1.heap.size → Calls Try.prog 46 #[trV t u, .slice A' n c', trV y v] w1 fun r w' => ∃ v : El, r = .returned (.tuple #[trV R v, .bool ok]) ∧ LsAt w' R.l v ∧ Own w' w1.heap.size v.fp ∧ Below w1.heap.size w1 w') ∧
      (∀ u A' c' v lo w1, LsAt w1 t.l u → u.lt w1.heap.size → SS w1 lo A' n c' ps → LsAt w1 y.l v → v.lt w1.heap.size → Calls Try.prog 47 #[trV t u, .slice A' n c', trV y v] w1 fun r w' => ∃ v : El, r = .returned (.tuple #[trV R v, .bool ok]) ∧ LsAt w' R.l v ∧ Own w' w1.heap.size v.fp ∧ Below w1.heap.size w1 w') := by
    have hpy := putAt_sz ps t y
    refine ⟨(putAt t ps y).getD t, (putAt t ps y).isSome, ?_, fun u A' c' v lo w1 h1 h2 h3 h4 h5 => ?_, fun u A' c' v lo w1 h1 h2 h3 h4 h5 => ?_⟩
    · cases hq : putAt t ps y with
      | none => have := cntT_sz t; show cntL t.l ≤ _; omega
      | some x =>
        have := cntT_sz x
        have := hpy x hq
        show cntL x.l ≤ _
        omega
    · exact s_PutAt ps t y u v A' n c' w1 h1 h2 (by omega) h4 h5 (by omega) h3.sl hpb
    · exact i_PutAt t y u v A' n c' ps w1 h1 h2 (by omega) h4 h5 (by omega) h3.sl
  have hcx : cntL t.l ≤ 4194304 := by have := cntT_sz t; omega
  have hcy : cntL y.l ≤ 4194304 := by have := cntT_sz y; omega
  clear hwf hwy hpb hres hres2
  go_enter Try.func8, Try.ntmps8
  obtain ⟨p00, p01, p02, p03, p04⟩ := Blk.boxV BV
  go_wp2_with fail
  clear p00 p01 p02 p03 p04
  refine (hsz _ K).mono ?_; rintro e wz ⟨rfl, hbz⟩
  clear hsz
  replace BV := BV.below hbz BV.lt
  replace BY := BY.below hbz BY.lt
  replace K := K.up hbz
  have z_hbz := hbz.size
  go_wp2_with fail
  refine (hss _).mono ?_; rintro r wz2 ⟨rfl, rfl⟩
  obtain ⟨p00, p01, p02, p03, p04⟩ := Blk.boxV BY
  go_wp2_with fail
  clear p00 p01 p02 p03 p04
  refine (hsy _ K).mono ?_; rintro e wy ⟨rfl, hby⟩
  clear hsy
  replace BV := BV.below hby BV.lt
  replace BY := BY.below hby BY.lt
  replace K := K.up hby
  have z_hby := hby.size
  go_upto_region 11 with fail
  have hS0 := fun (w' : World) (hb : Below wy.heap.size wy w') => (show (BoxV w' w.heap.size t e ∧ BoxV w' (w.heap.size + 1) y ey) ∧ Below wy.heap.size wy w' from ⟨⟨(BV.below hb BV.lt).boxV, (BY.below hb BY.lt).boxV⟩, hb⟩)
  have hS2 := fun (w' w'' : World) (h : (BoxV w' w.heap.size t e ∧ BoxV w' (w.heap.size + 1) y ey) ∧ Below wy.heap.size wy w') (hb : Below w'.heap.size w' w'') => hS0 w'' (h.2.up hb)
  have hTV := fun (w' : World) (h : (BoxV w' w.heap.size t e ∧ BoxV w' (w.heap.size + 1) y ey) ∧ Below wy.heap.size wy w') => hto w' (K.up h.2)
  have hTP := fun (w' : World) (h : (BoxV w' w.heap.size t e ∧ BoxV w' (w.heap.size + 1) y ey) ∧ Below wy.heap.size wy w') => hst w' (K.up h.2)
  have hTY := fun (w' : World) (h : (BoxV w' w.heap.size t e ∧ BoxV w' (w.heap.size + 1) y ey) ∧ Below wy.heap.size wy w') => htoy w' (K.up h.2)
  go_cut [8, 9] from 20 (fun s8 s9 w' => ∃ (uW : El) (gW : Nat), s8 = .pointer (some ⟨gW, 0, none⟩) ∧ s9 = .bool ok ∧ LsAt w' R.l uW ∧ Own w' wy.heap.size uW.fp ∧ Blk w' gW 46 (valCells R uW) ∧ gW ∉ uW.fp ∧ wy.heap.size ≤ gW ∧ Below wy.heap.size wy w')
  case first =>
    go_region_held3 (fun w' => (BoxV w' w.heap.size t e ∧ BoxV w' (w.heap.size + 1) y ey) ∧ Below wy.heap.size wy w')
      (((with_reducible refine hS0 _ ?_); (with_reducible first | (refine below5 ?_ ?_; exact k3; first | exact Nat.le_refl _ | exact zA | exact zB | exact zC | exact zD) | (refine Below.up ?_ (Below.one _ _); first | assumption | exact (Below.refl _ _).drew) | exact (Below.refl _ _).drew | exact (Below.one _ _).drew | assumption)))
      (first
        | (go_at_call 46; have hq := hC; clear hq; refine (hS _ _ _ _ _ _ (by first | exact hA.below oA.lt' kA | exact hA.below oA.lt' (kA.up (Below.one _ _))) (by first | exact oA.lt'.mono kA.size | exact oA.lt'.mono (kA.up (Below.one _ _)).size) (by first | exact SS.below hB kB | exact SS.below hB (kB.up (Below.one _ _))) (by first | exact hC | exact hC.below oC.lt' (Below.one _ _)) (by first | exact oC.lt' | exact oC.lt'.mono (Below.one _ _).size)).mono ?_; rintro e wd ⟨uD, rfl, hD, oD, hbD⟩; have k3 : Below wy.heap.size wy wd := (by first | exact k2.up hbD | exact (k2.up (Below.one _ _)).up hbD); have zD : wy.heap.size ≤ wd.heap.size := k3.size; first | ((with_reducible first | have hBp := (Blk.new _ _ _).upn hbD | have hBp := ((Blk.new _ _ _).up_ hbC).upn hbD | have hBp := (((Blk.new _ _ _).up_ hbB).up_ hbC).upn hbD | have hBp := ((((Blk.new _ _ _).drew.up_ hbA).up_ hbB).up_ hbC).upn hbD); obtain ⟨hBx, hgl⟩ := hBp; obtain ⟨x0, x1, x2, x3, x4, ⟨s0, t0⟩, ⟨s1, t1⟩, ⟨s2, t2⟩, ⟨s3, t3⟩, s4, t4⟩ := hBx.five (o := 0) (by simp) (.int .i64 R.k) (.int .i64 R.n) (.int .i64 R.x) (.string R.s)) | skip)
        | (go_at_call 32; have hq := hB; clear hq; refine (hTY _ (by assumption)).mono ?_; rintro e wc ⟨uC, rfl, hC, oC, hbC⟩; have k2 : Below wy.heap.size wy wc := (by first | exact k1.up hbC | exact (k1.up (Below.one _ _)).up hbC); replace kA := (by first | exact kA.up hbC | exact (kA.up (Below.one _ _)).up hbC : Below wa.heap.size wa wc); have kB := (by first | exact hbC | exact (Below.one _ _).up hbC : Below wb.heap.size wb wc); have zC : wy.heap.size ≤ wc.heap.size := Nat.le_trans zB kB.size)
        | (go_at_call 41; refine (hTP _ (by assumption)).mono ?_; rintro e wb ⟨AB, cB, rfl, hB, hbB⟩; have k1 : Below wy.heap.size wy wb := (by first | exact k0.up hbB | exact (k0.up (Below.one _ _)).up hbB); have kA := (by first | exact hbB | exact (Below.one _ _).up hbB : Below wa.heap.size wa wb); have zB : wy.heap.size ≤ wb.heap.size := Nat.le_trans zA kA.size)
        | (go_at_call 32; refine (hTV _ (by assumption)).mono ?_; rintro e wa ⟨uA, rfl, hA, oA, hbA⟩; have k0 : Below wy.heap.size wy wa := (by first | exact (Below.refl wy.heap.size wy).drew.up hbA | exact (Below.one _ _).drew.up hbA); have zA : wy.heap.size ≤ wa.heap.size := (by first | exact hbA.size | exact Nat.le_trans (Below.one _ _).size hbA.size)))
    all_goals
      have oD2 := oD.mono (lo2 := wy.heap.size) (by first | exact zC | exact Nat.le_trans zC (Below.one _ _).size)
      go_wp2_with fail
      go_meet
      case rel =>
        first
          | (have hq := hBx; clear hq; exact ⟨uD, _, rfl, rfl, cut_set5 R uD hD oD2 hBx (fun hx => Nat.lt_irrefl _ (Nat.lt_of_lt_of_le hgl (oD.2 _ hx).1)) (by first | exact Nat.le_refl _ | exact zA | exact zB | exact zC) k3⟩)
          | exact ⟨uD, _, rfl, rfl, cut_new R uD hD oD2 zD k3⟩
  case rest =>
    obtain ⟨uW, gW, rfl, rfl, hW, oW, BW, nW, lW, kW⟩ := hcut
    clear hS0 hS2 hTV hTP hTY hS
    replace BV := BV.below kW BV.lt
    replace BY := BY.below kW BY.lt
    replace K := K.up kW
    have z_kW := kW.size
    have frW := fun g hg => (oW.2 g hg).1
    have toW := fun g hg => oW.lt (g := g) hg
    have zgW := BW.lt
    have zgY := BY.lt
    obtain ⟨p00, p01, p02, p03, p04⟩ := Blk.boxV BV
    go_wp2_with fail
    clear p00 p01 p02 p03 p04
    refine (hto _ K).mono ?_; rintro e wX ⟨uX, rfl, hX, oX, hbX⟩
    replace BV := BV.below hbX BV.lt
    replace BY := BY.below hbX BY.lt
    replace hW := hW.below (fun g hg => oW.lt hg) hbX
    replace oW := oW.below (fun g hg => oW.lt hg) hbX
    replace BW := BW.below hbX BW.lt
    replace K := K.up hbX
    have z_hbX := hbX.size
    have frX := fun g hg => (oX.2 g hg).1
    have toX := fun g hg => oX.lt (g := g) hg
    have BX : Blk (wX.alloc (.cells (valCells t uX) 46)) wX.heap.size 46 (valCells t uX) := Blk.new wX _ _
    have hbxX := Below.one wX (.cells (valCells t uX) 46)
    have zbxX : (wX.alloc (.cells (valCells t uX) 46)).heap.size = wX.heap.size + 1 := by simp
    replace BV := BV.below hbxX BV.lt
    replace BY := BY.below hbxX BY.lt
    replace hW := hW.below (fun g hg => oW.lt hg) hbxX
    replace oW := oW.below (fun g hg => oW.lt hg) hbxX
    replace BW := BW.below hbxX BW.lt
    replace hX := hX.below (fun g hg => oX.lt hg) hbxX
    replace oX := oX.below (fun g hg => oX.lt hg) hbxX
    replace K := K.up hbxX
    have z_hbxX := hbxX.size
    go_wp2_with fail
    refine (hst _ K).mono ?_; rintro e wP ⟨AP, cP, rfl, hP, hbP⟩
    replace BV := BV.below hbP BV.lt
    replace BY := BY.below hbP BY.lt
    replace hW := hW.below (fun g hg => oW.lt hg) hbP
    replace oW := oW.below (fun g hg => oW.lt hg) hbP
    replace BW := BW.below hbP BW.lt
    replace hX := hX.below (fun g hg => oX.lt hg) hbP
    replace oX := oX.below (fun g hg => oX.lt hg) hbP
    replace BX := BX.below hbP BX.lt
    replace K := K.up hbP
    have z_hbP := hbP.size
    have frP := fun g hg => (SS.lt hP (g := g) hg).1
    have toP := fun g hg => (SS.lt hP (g := g) hg).2
    obtain ⟨p00, p01, p02, p03, p04⟩ := Blk.boxV BY
    go_wp2_with fail
    clear p00 p01 p02 p03 p04
    refine (htoy _ K).mono ?_; rintro e wQ ⟨uQ, rfl, hQ, oQ, hbQ⟩
    replace BV := BV.below hbQ BV.lt
    replace BY := BY.below hbQ BY.lt
    replace hW := hW.below (fun g hg => oW.lt hg) hbQ
    replace oW := oW.below (fun g hg => oW.lt hg) hbQ
    replace BW := BW.below hbQ BW.lt
    replace hX := hX.below (fun g hg => oX.lt hg) hbQ
    replace oX := oX.below (fun g hg => oX.lt hg) hbQ
    replace BX := BX.below hbQ BX.lt
    replace hP := hP.below hbQ
    replace K := K.up hbQ
    have z_hbQ := hbQ.size
    have frQ := fun g hg => (oQ.2 g hg).1
    have toQ := fun g hg => oQ.lt (g := g) hg
    have BQ : Blk (wQ.alloc (.cells (valCells y uQ) 46)) wQ.heap.size 46 (valCells y uQ) := Blk.new wQ _ _
    have hbxQ := Below.one wQ (.cells (valCells y uQ) 46)
    have zbxQ : (wQ.alloc (.cells (valCells y uQ) 46)).heap.size = wQ.heap.size + 1 := by simp
    replace BV := BV.below hbxQ BV.lt
    replace BY := BY.below hbxQ BY.lt
    replace hW := hW.below (fun g hg => oW.lt hg) hbxQ
    replace oW := oW.below (fun g hg => oW.lt hg) hbxQ
    replace BW := BW.below hbxQ BW.lt
    replace hX := hX.below (fun g hg => oX.lt hg) hbxQ
    replace oX := oX.below (fun g hg => oX.lt hg) hbxQ
    replace BX := BX.below hbxQ BX.lt
    replace hP := hP.below hbxQ
    replace hQ := hQ.below (fun g hg => oQ.lt hg) hbxQ
    replace oQ := oQ.below (fun g hg => oQ.lt hg) hbxQ
    replace K := K.up hbxQ
    have z_hbxQ := hbxQ.size
    obtain ⟨p00, p01, p02, p03, p04⟩ := Blk.boxV BX
    obtain ⟨p10, p11, p12, p13, p14⟩ := Blk.boxV BQ
    go_wp2_with fail
    clear p00 p01 p02 p03 p04 p10 p11 p12 p13 p14
    refine (hI _ _ _ _ _ _ hX oX.lt' hP hQ oQ.lt').mono ?_; rintro e wG ⟨uG, rfl, hG, oG, hbG⟩
    replace BV := BV.below hbG BV.lt
    replace BY := BY.below hbG BY.lt
    replace hW := hW.below (fun g hg => oW.lt hg) hbG
    replace oW := oW.below (fun g hg => oW.lt hg) hbG
    replace BW := BW.below hbG BW.lt
    replace hX := hX.below (fun g hg => oX.lt hg) hbG
    replace oX := oX.below (fun g hg => oX.lt hg) hbG
    replace BX := BX.below hbG BX.lt
    replace hP := hP.below hbG
    replace hQ := hQ.below (fun g hg => oQ.lt hg) hbG
    replace oQ := oQ.below (fun g hg => oQ.lt hg) hbG
    replace BQ := BQ.below hbG BQ.lt
    replace K := K.up hbG
    have z_hbG := hbG.size
    have frG := fun g hg => (oG.2 g hg).1
    have toG := fun g hg => oG.lt (g := g) hg
    have BG : Blk (wG.alloc (.cells (valCells R uG) 46)) wG.heap.size 46 (valCells R uG) := Blk.new wG _ _
    have hbxG := Below.one wG (.cells (valCells R uG) 46)
    have zbxG : (wG.alloc (.cells (valCells R uG) 46)).heap.size = wG.heap.size + 1 := by simp
    replace BV := BV.below hbxG BV.lt
    replace BY := BY.below hbxG BY.lt
    replace hW := hW.below (fun g hg => oW.lt hg) hbxG
    replace oW := oW.below (fun g hg => oW.lt hg) hbxG
    replace BW := BW.below hbxG BW.lt
    replace hX := hX.below (fun g hg => oX.lt hg) hbxG
    replace oX := oX.below (fun g hg => oX.lt hg) hbxG
    replace BX := BX.below hbxG BX.lt
    replace hP := hP.below hbxG
    replace hQ := hQ.below (fun g hg => oQ.lt hg) hbxG
    replace oQ := oQ.below (fun g hg => oQ.lt hg) hbxG
    replace BQ := BQ.below hbxG BQ.lt
    replace hG := hG.below (fun g hg => oG.lt hg) hbxG
    replace oG := oG.below (fun g hg => oG.lt hg) hbxG
    replace K := K.up hbxG
    have z_hbxG := hbxG.size
    obtain ⟨p00, p01, p02, p03, p04⟩ := Blk.boxV BG
    obtain ⟨p10, p11, p12, p13, p14⟩ := Blk.boxV BW
    go_wp2_with fail
    clear p00 p01 p02 p03 p04 p10 p11 p12 p13 p14
    refine (l_eqVal R uG uW _ hG hW (fun g hg => oG.lt hg) (fun g hg => oW.lt hg)).mono ?_; rintro e w5 ⟨rfl, hb5⟩
    replace BV := BV.below hb5 BV.lt
    replace BY := BY.below hb5 BY.lt
    replace hW := hW.below (fun g hg => oW.lt hg) hb5
    replace oW := oW.below (fun g hg => oW.lt hg) hb5
    replace BW := BW.below hb5 BW.lt
    replace hX := hX.below (fun g hg => oX.lt hg) hb5
    replace oX := oX.below (fun g hg => oX.lt hg) hb5
    replace BX := BX.below hb5 BX.lt
    replace hP := hP.below hb5
    replace hQ := hQ.below (fun g hg => oQ.lt hg) hb5
    replace oQ := oQ.below (fun g hg => oQ.lt hg) hb5
    replace BQ := BQ.below hb5 BQ.lt
    replace hG := hG.below (fun g hg => oG.lt hg) hb5
    replace oG := oG.below (fun g hg => oG.lt hg) hb5
    replace BG := BG.below hb5 BG.lt
    replace K := K.up hb5
    have z_hb5 := hb5.size
    have hS0 := fun (w' : World) (hb : Below w5.heap.size w5 w') => (show (BoxV w' wX.heap.size t uX ∧ BoxV w' (w.heap.size) t e) ∧ Below w5.heap.size w5 w' from ⟨⟨(BX.below hb BX.lt).boxV, (BV.below hb BV.lt).boxV⟩, hb⟩)
    have hS2 := fun (w' w'' : World) (h : (BoxV w' wX.heap.size t uX ∧ BoxV w' (w.heap.size) t e) ∧ Below w5.heap.size w5 w') (hb : Below w'.heap.size w' w'') => hS0 w'' (h.2.up hb)
    have hT := fun (w' : World) (h : (BoxV w' wX.heap.size t uX ∧ BoxV w' (w.heap.size) t e) ∧ Below w5.heap.size w5 w') => hto w' (K.up h.2)
    have hE := fun (w' : World) (h : (BoxV w' wX.heap.size t uX ∧ BoxV w' (w.heap.size) t e) ∧ Below w5.heap.size w5 w') (z : El) (h1 : LsAt w' t.l z) (h2 : Own w' 0 z.fp) => l_eqVal t uX z w' (hX.below (fun g hg => oX.lt hg) h.2) h1 (fun g hg => Nat.lt_of_lt_of_le (oX.lt hg) h.2.size) (fun g hg => h2.lt hg)
    go_wp2_with fail
    go_region_held3 (fun w' => (BoxV w' wX.heap.size t uX ∧ BoxV w' (w.heap.size) t e) ∧ Below w5.heap.size w5 w')
      (first | exact hS0 _ (Below.refl _ _).drew | (refine hS2 _ _ ?_ hbq; assumption) | (refine hS2 _ _ ?_ hbr; assumption))
      (first
        | (go_at_call 32; refine (hT _ (by assumption)).mono ?_; rintro e w2 ⟨z, rfl, hz1, hz2, hbq⟩)
        | (go_at_call 35; refine (hE _ (by assumption) _ hz1 (hz2.mono (Nat.zero_le _))).mono ?_; rintro e w3 ⟨rfl, hbr⟩))
    rename_i hHeld
    have kb6 := hHeld.2
    rename World => w6
    clear hS0 hS2 hT hE hHeld hbq hbr hz1 hz2
    replace BV := BV.below kb6 BV.lt
    replace BY := BY.below kb6 BY.lt
    replace hW := hW.below (fun g hg => oW.lt hg) kb6
    replace oW := oW.below (fun g hg => oW.lt hg) kb6
    replace BW := BW.below kb6 BW.lt
    replace hX := hX.below (fun g hg => oX.lt hg) kb6
    replace oX := oX.below (fun g hg => oX.lt hg) kb6
    replace BX := BX.below kb6 BX.lt
    replace hP := hP.below kb6
    replace hQ := hQ.below (fun g hg => oQ.lt hg) kb6
    replace oQ := oQ.below (fun g hg => oQ.lt hg) kb6
    replace BQ := BQ.below kb6 BQ.lt
    replace hG := hG.below (fun g hg => oG.lt hg) kb6
    replace oG := oG.below (fun g hg => oG.lt hg) kb6
    replace BG := BG.below kb6 BG.lt
    replace K := K.up kb6
    have z_kb6 := kb6.size
    go_wp2_with fail
    refine (hst _ K).mono ?_; rintro e w7 ⟨A7, c7, rfl, h7, hb7⟩
    replace BV := BV.below hb7 BV.lt
    replace BY := BY.below hb7 BY.lt
    replace hW := hW.below (fun g hg => oW.lt hg) hb7
    replace oW := oW.below (fun g hg => oW.lt hg) hb7
    replace BW := BW.below hb7 BW.lt
    replace hX := hX.below (fun g hg => oX.lt hg) hb7
    replace oX := oX.below (fun g hg => oX.lt hg) hb7
    replace BX := BX.below hb7 BX.lt
    replace hP := hP.below hb7
    replace hQ := hQ.below (fun g hg => oQ.lt hg) hb7
    replace oQ := oQ.below (fun g hg => oQ.lt hg) hb7
    replace BQ := BQ.below hb7 BQ.lt
    replace hG := hG.below (fun g hg => oG.lt hg) hb7
    replace oG := oG.below (fun g hg => oG.lt hg) hb7
    replace BG := BG.below hb7 BG.lt
    replace K := K.up hb7
    have z_hb7 := hb7.size
    have fr7 := fun g hg => (SS.lt h7 (g := g) hg).1
    have to7 := fun g hg => (SS.lt h7 (g := g) hg).2
    go_wp2_with fail
    refine (l_eqStepS ps _ _ _ _ _ _ _ hP.sl h7.sl).mono ?_; rintro e w8 ⟨rfl, hb8⟩
    replace BV := BV.below hb8 BV.lt
    replace BY := BY.below hb8 BY.lt
    replace hW := hW.below (fun g hg => oW.lt hg) hb8
    replace oW := oW.below (fun g hg => oW.lt hg) hb8
    replace BW := BW.below hb8 BW.lt
    replace hX := hX.below (fun g hg => oX.lt hg) hb8
    replace oX := oX.below (fun g hg => oX.lt hg) hb8
    replace BX := BX.below hb8 BX.lt
    replace hP := hP.below hb8
    replace hQ := hQ.below (fun g hg => oQ.lt hg) hb8
    replace oQ := oQ.below (fun g hg => oQ.lt hg) hb8
    replace BQ := BQ.below hb8 BQ.lt
    replace hG := hG.below (fun g hg => oG.lt hg) hb8
    replace oG := oG.below (fun g hg => oG.lt hg) hb8
    replace BG := BG.below hb8 BG.lt
    replace h7 := h7.below hb8
    replace K := K.up hb8
    have z_hb8 := hb8.size
    clear h7
    have hS0 := fun (w' : World) (hb : Below w8.heap.size w8 w') => (show (BoxV w' wQ.heap.size y uQ ∧ BoxV w' (w.heap.size + 1) y ey) ∧ Below w8.heap.size w8 w' from ⟨⟨(BQ.below hb BQ.lt).boxV, (BY.below hb BY.lt).boxV⟩, hb⟩)
    have hS2 := fun (w' w'' : World) (h : (BoxV w' wQ.heap.size y uQ ∧ BoxV w' (w.heap.size + 1) y ey) ∧ Below w8.heap.size w8 w') (hb : Below w'.heap.size w' w'') => hS0 w'' (h.2.up hb)
    have hT := fun (w' : World) (h : (BoxV w' wQ.heap.size y uQ ∧ BoxV w' (w.heap.size + 1) y ey) ∧ Below w8.heap.size w8 w') => htoy w' (K.up h.2)
    have hE := fun (w' : World) (h : (BoxV w' wQ.heap.size y uQ ∧ BoxV w' (w.heap.size + 1) y ey) ∧ Below w8.heap.size w8 w') (z : El) (h1 : LsAt w' y.l z) (h2 : Own w' 0 z.fp) => l_eqVal y uQ z w' (hQ.below (fun g hg => oQ.lt hg) h.2) h1 (fun g hg => Nat.lt_of_lt_of_le (oQ.lt hg) h.2.size) (fun g hg => h2.lt hg)
    go_wp2_with fail
    go_region_held3 (fun w' => (BoxV w' wQ.heap.size y uQ ∧ BoxV w' (w.heap.size + 1) y ey) ∧ Below w8.heap.size w8 w')
      (first | exact hS0 _ (Below.refl _ _).drew | (refine hS2 _ _ ?_ hbq; assumption) | (refine hS2 _ _ ?_ hbr; assumption))
      (first
        | (go_at_call 32; refine (hT _ (by assumption)).mono ?_; rintro e w2 ⟨z, rfl, hz1, hz2, hbq⟩)
        | (go_at_call 35; refine (hE _ (by assumption) _ hz1 (hz2.mono (Nat.zero_le _))).mono ?_; rintro e w3 ⟨rfl, hbr⟩))
    rename_i hHeld
    have kbr := hHeld.2
    rename World => wr
    clear hS0 hS2 hT hE hHeld hbq hbr hz1 hz2
    replace BV := BV.below kbr BV.lt
    replace BY := BY.below kbr BY.lt
    replace hW := hW.below (fun g hg => oW.lt hg) kbr
    replace oW := oW.below (fun g hg => oW.lt hg) kbr
    replace BW := BW.below kbr BW.lt
    replace hX := hX.below (fun g hg => oX.lt hg) kbr
    replace oX := oX.below (fun g hg => oX.lt hg) kbr
    replace BX := BX.below kbr BX.lt
    replace hP := hP.below kbr
    replace hQ := hQ.below (fun g hg => oQ.lt hg) kbr
    replace oQ := oQ.below (fun g hg => oQ.lt hg) kbr
    replace BQ := BQ.below kbr BQ.lt
    replace hG := hG.below (fun g hg => oG.lt hg) kbr
    replace oG := oG.below (fun g hg => oG.lt hg) kbr
    replace BG := BG.below kbr BG.lt
    replace K := K.up kbr
    have z_kbr := kbr.size
    obtain ⟨p00, p01, p02, p03, p04⟩ := Blk.boxV BX
    go_wp2_with fail
    clear p00 p01 p02 p03 p04
    refine (l_markVal t uX (1) _ _ hX oX (by omega) (by omega)).mono ?_; rintro e w9 ⟨rfl, hX9, oX9, hf9⟩
    have frF := frX
    have toF := toX
    have zz9 := hf9.size
    have kf9 := hf9.below (B := wc.heap.size) (fun g hg => by have := frX g hg; omega) (by omega)
    replace BV := Blk.fr_ BV hf9 (fun hg2 => by have := toF _ hg2; have := frF _ hg2; omega)
    replace BY := Blk.fr_ BY hf9 (fun hg2 => by have := toF _ hg2; have := frF _ hg2; omega)
    replace hW := hW.fr hf9 (fun g hg => oW.lt hg) (fun g hg hg2 => by have := toW g hg; have := frW g hg; have := toF g hg2; have := frF g hg2; omega)
    replace oW := oW.fr hf9 (fun g hg hg2 => by have := toW g hg; have := frW g hg; have := toF g hg2; have := frF g hg2; omega)
    replace BW := Blk.fr_ BW hf9 (fun hg2 => by have := toF _ hg2; have := frF _ hg2; omega)
    replace BX := Blk.fr_ BX hf9 (fun hg2 => by have := toF _ hg2; have := frF _ hg2; omega)
    replace hP := hP.fr hf9 (fun g hg hg2 => by have := toP g hg; have := frP g hg; have := toF g hg2; have := frF g hg2; omega)
    replace hQ := hQ.fr hf9 (fun g hg => oQ.lt hg) (fun g hg hg2 => by have := toQ g hg; have := frQ g hg; have := toF g hg2; have := frF g hg2; omega)
    replace oQ := oQ.fr hf9 (fun g hg hg2 => by have := toQ g hg; have := frQ g hg; have := toF g hg2; have := frF g hg2; omega)
    replace BQ := Blk.fr_ BQ hf9 (fun hg2 => by have := toF _ hg2; have := frF _ hg2; omega)
    replace hG := hG.fr hf9 (fun g hg => oG.lt hg) (fun g hg hg2 => by have := toG g hg; have := frG g hg; have := toF g hg2; have := frF g hg2; omega)
    replace oG := oG.fr hf9 (fun g hg hg2 => by have := toG g hg; have := frG g hg; have := toF g hg2; have := frF g hg2; omega)
    replace BG := Blk.fr_ BG hf9 (fun hg2 => by have := toF _ hg2; have := frF _ hg2; omega)
    replace K := K.trans (kf9.mono (by omega))
    clear hX9 oX9 hX oX frF toF
    clear BX
    go_wp2_with fail
    refine (l_markStepS _ _ _ _ (1 + cntL t.l) _ _ hP (by omega) (by omega)).mono ?_; rintro e w10 ⟨rfl, ⟨psm, hP10⟩, hf10⟩
    have frF := frP
    have toF := toP
    have zz10 := hf10.size
    have kf10 := hf10.below (B := wc.heap.size) (fun g hg => by have := frP g hg; omega) (by omega)
    replace BV := Blk.fr_ BV hf10 (fun hg2 => by have := toF _ hg2; have := frF _ hg2; omega)
    replace BY := Blk.fr_ BY hf10 (fun hg2 => by have := toF _ hg2; have := frF _ hg2; omega)
    replace hW := hW.fr hf10 (fun g hg => oW.lt hg) (fun g hg hg2 => by have := toW g hg; have := frW g hg; have := toF g hg2; have := frF g hg2; omega)
    replace oW := oW.fr hf10 (fun g hg hg2 => by have := toW g hg; have := frW g hg; have := toF g hg2; have := frF g hg2; omega)
    replace BW := Blk.fr_ BW hf10 (fun hg2 => by have := toF _ hg2; have := frF _ hg2; omega)
    replace hQ := hQ.fr hf10 (fun g hg => oQ.lt hg) (fun g hg hg2 => by have := toQ g hg; have := frQ g hg; have := toF g hg2; have := frF g hg2; omega)
    replace oQ := oQ.fr hf10 (fun g hg hg2 => by have := toQ g hg; have := frQ g hg; have := toF g hg2; have := frF g hg2; omega)
    replace BQ := Blk.fr_ BQ hf10 (fun hg2 => by have := toF _ hg2; have := frF _ hg2; omega)
    replace hG := hG.fr hf10 (fun g hg => oG.lt hg) (fun g hg hg2 => by have := toG g hg; have := frG g hg; have := toF g hg2; have := frF g hg2; omega)
    replace oG := oG.fr hf10 (fun g hg hg2 => by have := toG g hg; have := frG g hg; have := toF g hg2; have := frF g hg2; omega)
    replace BG := Blk.fr_ BG hf10 (fun hg2 => by have := toF _ hg2; have := frF _ hg2; omega)
    replace K := K.trans (kf10.mono (by omega))
    clear hP10 hP frF toF
    obtain ⟨p00, p01, p02, p03, p04⟩ := Blk.boxV BQ
    go_wp2_with fail
    clear p00 p01 p02 p03 p04
    refine (l_markVal y uQ (1 + cntL t.l + 2 * n) _ _ hQ oQ (by omega) (by omega)).mono ?_; rintro e w16 ⟨rfl, hQ16, oQ16, hf16⟩
    have frF := frQ
    have toF := toQ
    have zz16 := hf16.size
    have kf16 := hf16.below (B := wc.heap.size) (fun g hg => by have := frQ g hg; omega) (by omega)
    replace BV := Blk.fr_ BV hf16 (fun hg2 => by have := toF _ hg2; have := frF _ hg2; omega)
    replace BY := Blk.fr_ BY hf16 (fun hg2 => by have := toF _ hg2; have := frF _ hg2; omega)
    replace hW := hW.fr hf16 (fun g hg => oW.lt hg) (fun g hg hg2 => by have := toW g hg; have := frW g hg; have := toF g hg2; have := frF g hg2; omega)
    replace oW := oW.fr hf16 (fun g hg hg2 => by have := toW g hg; have := frW g hg; have := toF g hg2; have := frF g hg2; omega)
    replace BW := Blk.fr_ BW hf16 (fun hg2 => by have := toF _ hg2; have := frF _ hg2; omega)
    replace BQ := Blk.fr_ BQ hf16 (fun hg2 => by have := toF _ hg2; have := frF _ hg2; omega)
    replace hG := hG.fr hf16 (fun g hg => oG.lt hg) (fun g hg hg2 => by have := toG g hg; have := frG g hg; have := toF g hg2; have := frF g hg2; omega)
    replace oG := oG.fr hf16 (fun g hg hg2 => by have := toG g hg; have := frG g hg; have := toF g hg2; have := frF g hg2; omega)
    replace BG := Blk.fr_ BG hf16 (fun hg2 => by have := toF _ hg2; have := frF _ hg2; omega)
    replace K := K.trans (kf16.mono (by omega))
    clear hQ16 oQ16 hQ oQ frF toF
    clear BQ
    obtain ⟨p00, p01, p02, p03, p04⟩ := Blk.boxV BG
    obtain ⟨p10, p11, p12, p13, p14⟩ := Blk.boxV BW
    go_wp2_with fail
    clear p00 p01 p02 p03 p04 p10 p11 p12 p13 p14
    refine (l_eqVal R uG uW _ hG hW (fun g hg => oG.lt hg) (fun g hg => oW.lt hg)).mono ?_; rintro e w11 ⟨rfl, hb11⟩
    replace BV := BV.below hb11 BV.lt
    replace BY := BY.below hb11 BY.lt
    replace hW := hW.below (fun g hg => oW.lt hg) hb11
    replace oW := oW.below (fun g hg => oW.lt hg) hb11
    replace BW := BW.below hb11 BW.lt
    replace hG := hG.below (fun g hg => oG.lt hg) hb11
    replace oG := oG.below (fun g hg => oG.lt hg) hb11
    replace BG := BG.below hb11 BG.lt
    replace K := K.up hb11
    have z_hb11 := hb11.size
    obtain ⟨p00, p01, p02, p03, p04⟩ := Blk.boxV BG
    go_wp2_with fail
    clear p00 p01 p02 p03 p04
    refine (l_markVal R uG (1) _ _ hG oG (by omega) (by omega)).mono ?_; rintro e w12 ⟨rfl, hG12, oG12, hf12⟩
    have frF := frG
    have toF := toG
    have zz12 := hf12.size
    have kf12 := hf12.below (B := wc.heap.size) (fun g hg => by have := frG g hg; omega) (by omega)
    replace BV := Blk.fr_ BV hf12 (fun hg2 => by have := toF _ hg2; have := frF _ hg2; omega)
    replace BY := Blk.fr_ BY hf12 (fun hg2 => by have := toF _ hg2; have := frF _ hg2; omega)
    replace hW := hW.fr hf12 (fun g hg => oW.lt hg) (fun g hg hg2 => by have := toW g hg; have := frW g hg; have := toF g hg2; have := frF g hg2; omega)
    replace oW := oW.fr hf12 (fun g hg hg2 => by have := toW g hg; have := frW g hg; have := toF g hg2; have := frF g hg2; omega)
    replace BW := Blk.fr_ BW hf12 (fun hg2 => by have := toF _ hg2; have := frF _ hg2; omega)
    replace BG := Blk.fr_ BG hf12 (fun hg2 => by have := toF _ hg2; have := frF _ hg2; omega)
    replace K := K.trans (kf12.mono (by omega))
    replace hG := hG12
    replace oG := oG12
    clear frF toF
    obtain ⟨p00, p01, p02, p03, p04⟩ := Blk.boxV BG
    go_wp2_with fail
    clear p00 p01 p02 p03 p04
    refine (l_heldVal R uG 1 _ hG (fun g hg => oG.lt hg) (by omega) (by omega)).mono ?_; rintro e w13 ⟨rfl, hb13⟩
    replace BV := BV.below hb13 BV.lt
    replace BY := BY.below hb13 BY.lt
    replace hW := hW.below (fun g hg => oW.lt hg) hb13
    replace oW := oW.below (fun g hg => oW.lt hg) hb13
    replace BW := BW.below hb13 BW.lt
    replace hG := hG.below (fun g hg => oG.lt hg) hb13
    replace oG := oG.below (fun g hg => oG.lt hg) hb13
    replace BG := BG.below hb13 BG.lt
    replace K := K.up hb13
    have z_hb13 := hb13.size
    go_upto_region 38 with fail
    have hS0 := fun (w' : World) (hb : Below w13.heap.size w13 w') => (show (BoxV w' w.heap.size t e ∧ BoxV w' (w.heap.size + 1) y ey) ∧ Below w13.heap.size w13 w' from ⟨⟨(BV.below hb BV.lt).boxV, (BY.below hb BY.lt).boxV⟩, hb⟩)
    have hS2 := fun (w' w'' : World) (h : (BoxV w' w.heap.size t e ∧ BoxV w' (w.heap.size + 1) y ey) ∧ Below w13.heap.size w13 w') (hb : Below w'.heap.size w' w'') => hS0 w'' (h.2.up hb)
    have hTV := fun (w' : World) (h : (BoxV w' w.heap.size t e ∧ BoxV w' (w.heap.size + 1) y ey) ∧ Below w13.heap.size w13 w') => hto w' (K.up h.2)
    have hTP := fun (w' : World) (h : (BoxV w' w.heap.size t e ∧ BoxV w' (w.heap.size + 1) y ey) ∧ Below w13.heap.size w13 w') => hst w' (K.up h.2)
    have hTY := fun (w' : World) (h : (BoxV w' w.heap.size t e ∧ BoxV w' (w.heap.size + 1) y ey) ∧ Below w13.heap.size w13 w') => htoy w' (K.up h.2)
    go_cut [18, 19] from 20 (fun s8 s9 w' => ∃ (uH : El) (gH : Nat), s8 = .pointer (some ⟨gH, 0, none⟩) ∧ s9 = .bool ok ∧ LsAt w' R.l uH ∧ Own w' w13.heap.size uH.fp ∧ Blk w' gH 46 (valCells R uH) ∧ gH ∉ uH.fp ∧ w13.heap.size ≤ gH ∧ Below w13.heap.size w13 w')
    case first =>
      go_region_held3 (fun w' => (BoxV w' w.heap.size t e ∧ BoxV w' (w.heap.size + 1) y ey) ∧ Below w13.heap.size w13 w')
        (((with_reducible refine hS0 _ ?_); (with_reducible first | (refine below5 ?_ ?_; exact k3; first | exact Nat.le_refl _ | exact zA | exact zB | exact zC | exact zD) | (refine Below.up ?_ (Below.one _ _); first | assumption | exact (Below.refl _ _).drew) | exact (Below.refl _ _).drew | exact (Below.one _ _).drew | assumption)))
        (first
          | (go_at_call 47; have hq := hC; clear hq; refine (hI _ _ _ _ _ _ (by first | exact hA.below oA.lt' kA | exact hA.below oA.lt' (kA.up (Below.one _ _))) (by first | exact oA.lt'.mono kA.size | exact oA.lt'.mono (kA.up (Below.one _ _)).size) (by first | exact SS.below hB kB | exact SS.below hB (kB.up (Below.one _ _))) (by first | exact hC | exact hC.below oC.lt' (Below.one _ _)) (by first | exact oC.lt' | exact oC.lt'.mono (Below.one _ _).size)).mono ?_; rintro e wd ⟨uD, rfl, hD, oD, hbD⟩; have k3 : Below w13.heap.size w13 wd := (by first | exact k2.up hbD | exact (k2.up (Below.one _ _)).up hbD); have zD : w13.heap.size ≤ wd.heap.size := k3.size; first | ((with_reducible first | have hBp := (Blk.new _ _ _).upn hbD | have hBp := ((Blk.new _ _ _).up_ hbC).upn hbD | have hBp := (((Blk.new _ _ _).up_ hbB).up_ hbC).upn hbD | have hBp := ((((Blk.new _ _ _).drew.up_ hbA).up_ hbB).up_ hbC).upn hbD); obtain ⟨hBx, hgl⟩ := hBp; obtain ⟨x0, x1, x2, x3, x4, ⟨s0, t0⟩, ⟨s1, t1⟩, ⟨s2, t2⟩, ⟨s3, t3⟩, s4, t4⟩ := hBx.five (o := 0) (by simp) (.int .i64 R.k) (.int .i64 R.n) (.int .i64 R.x) (.string R.s)) | skip)
          | (go_at_call 32; have hq := hB; clear hq; refine (hTY _ (by assumption)).mono ?_; rintro e wc ⟨uC, rfl, hC, oC, hbC⟩; have k2 : Below w13.heap.size w13 wc := (by first | exact k1.up hbC | exact (k1.up (Below.one _ _)).up hbC); replace kA := (by first | exact kA.up hbC | exact (kA.up (Below.one _ _)).up hbC : Below wa.heap.size wa wc); have kB := (by first | exact hbC | exact (Below.one _ _).up hbC : Below wb.heap.size wb wc); have zC : w13.heap.size ≤ wc.heap.size := Nat.le_trans zB kB.size)
          | (go_at_call 41; refine (hTP _ (by assumption)).mono ?_; rintro e wb ⟨AB, cB, rfl, hB, hbB⟩; have k1 : Below w13.heap.size w13 wb := (by first | exact k0.up hbB | exact (k0.up (Below.one _ _)).up hbB); have kA := (by first | exact hbB | exact (Below.one _ _).up hbB : Below wa.heap.size wa wb); have zB : w13.heap.size ≤ wb.heap.size := Nat.le_trans zA kA.size)
          | (go_at_call 32; refine (hTV _ (by assumption)).mono ?_; rintro e wa ⟨uA, rfl, hA, oA, hbA⟩; have k0 : Below w13.heap.size w13 wa := (by first | exact (Below.refl w13.heap.size w13).drew.up hbA | exact (Below.one _ _).drew.up hbA); have zA : w13.heap.size ≤ wa.heap.size := (by first | exact hbA.size | exact Nat.le_trans (Below.one _ _).size hbA.size)))
      all_goals
        have oD2 := oD.mono (lo2 := w13.heap.size) (by first | exact zC | exact Nat.le_trans zC (Below.one _ _).size)
        go_wp2_with fail
        go_meet
        case rel =>
          first
            | (have hq := hBx; clear hq; exact ⟨uD, _, rfl, rfl, cut_set5 R uD hD oD2 hBx (fun hx => Nat.lt_irrefl _ (Nat.lt_of_lt_of_le hgl (oD.2 _ hx).1)) (by first | exact Nat.le_refl _ | exact zA | exact zB | exact zC) k3⟩)
            | exact ⟨uD, _, rfl, rfl, cut_new R uD hD oD2 zD k3⟩
    case rest =>
      obtain ⟨uH, gH, rfl, rfl, hH, oH, BH, nH, lH, kH⟩ := hcut
      replace BV := BV.below kH BV.lt
      replace BY := BY.below kH BY.lt
      replace hW := hW.below (fun g hg => oW.lt hg) kH
      replace oW := oW.below (fun g hg => oW.lt hg) kH
      replace BW := BW.below kH BW.lt
      replace hG := hG.below (fun g hg => oG.lt hg) kH
      replace oG := oG.below (fun g hg => oG.lt hg) kH
      replace BG := BG.below kH BG.lt
      replace K := K.up kH
      have z_kH := kH.size
      have frH := fun g hg => (oH.2 g hg).1
      have toH := fun g hg => oH.lt (g := g) hg
      obtain ⟨p00, p01, p02, p03, p04⟩ := Blk.boxV BH
      obtain ⟨p10, p11, p12, p13, p14⟩ := Blk.boxV BW
      go_wp2_with fail
      clear p00 p01 p02 p03 p04 p10 p11 p12 p13 p14
      refine (l_eqVal R uH uW _ hH hW (fun g hg => oH.lt hg) (fun g hg => oW.lt hg)).mono ?_; rintro e w14 ⟨rfl, hb14⟩
      replace BV := BV.below hb14 BV.lt
      replace BY := BY.below hb14 BY.lt
      replace hW := hW.below (fun g hg => oW.lt hg) hb14
      replace oW := oW.below (fun g hg => oW.lt hg) hb14
      replace BW := BW.below hb14 BW.lt
      replace hG := hG.below (fun g hg => oG.lt hg) hb14
      replace oG := oG.below (fun g hg => oG.lt hg) hb14
      replace BG := BG.below hb14 BG.lt
      replace hH := hH.below (fun g hg => oH.lt hg) hb14
      replace oH := oH.below (fun g hg => oH.lt hg) hb14
      replace BH := BH.below hb14 BH.lt
      replace K := K.up hb14
      have z_hb14 := hb14.size
      obtain ⟨p00, p01, p02, p03, p04⟩ := Blk.boxV BG
      go_wp2_with fail
      clear p00 p01 p02 p03 p04
      refine (l_heldVal R uG 1 _ hG (fun g hg => oG.lt hg) (by omega) (by omega)).mono ?_; rintro e w15 ⟨rfl, hb15⟩
      replace BV := BV.below hb15 BV.lt
      replace BY := BY.below hb15 BY.lt
      replace hW := hW.below (fun g hg => oW.lt hg) hb15
      replace oW := oW.below (fun g hg => oW.lt hg) hb15
      replace BW := BW.below hb15 BW.lt
      replace hG := hG.below (fun g hg => oG.lt hg) hb15
      replace oG := oG.below (fun g hg => oG.lt hg) hb15
      replace BG := BG.below hb15 BG.lt
      replace hH := hH.below (fun g hg => oH.lt hg) hb15
      replace oH := oH.below (fun g hg => oH.lt hg) hb15
      replace BH := BH.below hb15 BH.lt
      replace K := K.up hb15
      have z_hb15 := hb15.size
      go_wp2_with fail
      go_ret
      exact ⟨rfl, K⟩
end Go.Proofs.Ytnfokfogmniehaa
