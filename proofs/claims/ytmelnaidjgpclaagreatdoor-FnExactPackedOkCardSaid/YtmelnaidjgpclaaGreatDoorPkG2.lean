/- The program's reader of the packed format: value at a list, at a map. The program's reader of the packed format: value, whole. GetPacked: both sides. ReadPacked: both sides. -/
import Derived.Test.YtmelnaidjgpclaaGreatDoorPkK
import Derived.Test.YtmelnaidjgpclaaGreatDoorPkS
import Derived.Deep.QuietTactic
import Derived.BigQuiet
import Derived.BigRegion
set_option linter.unusedVariables false
set_option maxRecDepth 100000
set_option linter.unusedSimpArgs false
namespace Go.Proofs.YtmelnaidjgpclaaGreatDoor
open Go.RowKit

theorem fr_bel {fp : List Nat} {w w1 w2 : World} {B : Nat} (h : Fr fp w w1) (hb : Below B w1 w2) (hB : w.heap.size ≤ B) : Fr fp w w2 :=
  ⟨hb.os.trans h.os, hb.tape.trans h.tape, hb.output.trans h.output, Nat.le_trans h.size hb.size, fun k hk hn => (hb.block k (Nat.lt_of_lt_of_le hk hB)).trans (h.block k hk hn)⟩
set_option maxHeartbeats 8000000 in
theorem i_value_list (g : Nat) (A : Option Addr) (n c : Nat) (b : List UInt8) (i d : Int) (w : World) (h : PR w g A n c b i 0) (hi : -9223372036854775808 ≤ i ∧ i ≤ 9223372036854775807) (hd : 1 ≤ d) (k m q : Int) (hG : getMark b i = (k, m, q, 0)) (d2 : d ≤ 9223372036854775807) (mn : Nat) (hmn : mn ≤ 131070) (hm : Hid (m = (mn : Int))) (hk4 : (k == 4) = false) (hk7 : (k == 7) = false) (hk8 : (k == 8) = false) (hk9 : (k == 9) = true) (hk10 : (k == 10) = false) (F1 : Nat) (hF1 : 2 * (n - q.toNat) + 4 ≤ F1) (R : RdL) (hR0 : kM b F1 d mn q.toNat [] = R) (hV : ∀ g0, g0 < F1 → ∀ (q0 : Nat) w1, PR w1 g A n c b q0 0 → Fr [g] w w1 → q0 ≤ n → 2 * (n - q0) + 3 ≤ g0 → Calls Tryz.prog 60 #[.pointer (some ⟨g, 0, none⟩), .int .i64 (d - 1)] w1 fun r w' => ReadP w1 w' g A n c b (kV b g0 (d - 1) q0) r) :
    Calls Tryz.prog 60 #[.pointer (some ⟨g, 0, none⟩), .int .i64 d] w fun r w' => ReadP w w' g A n c b (closeK k (0, 0, ⟨#[]⟩) R) r := by
  have hgood := getMark_good hG
  have k1 := Below.one w (.cells #[.int .i64 0, .int .i64 0, .int .i64 0, .string ⟨#[]⟩, .slice none 0 0] 28)
  have h1 := h.below k1 h.blk.lt
  have hZ := Blk.new w 28 #[.int .i64 0, .int .i64 0, .int .i64 0, .string ⟨#[]⟩, .slice none 0 0]
  have hgl := h.blk.lt
  have hbd := h.bd
  have hdd : decide (d < 1) = false := by simp; omega
  have hfr := Fr.of_below (fp := [g]) k1
  go_enter Tryz.func60, Tryz.ntmps60
  go_upto_region 3 with fail
  generalize w.alloc (.cells #[.int .i64 0, .int .i64 0, .int .i64 0, .string ⟨#[]⟩, .slice none 0 0] 28) = wd at h1 hZ hfr ⊢
  have zd := hZ.lt
  have zg : g < wd.heap.size := Nat.lt_trans hgl zd
  have HC := fun w1 (hb : Below wd.heap.size wd w1) => i_GetMark A n c b i w1 g ((h1.sl).below (hb.mono (Nat.le_of_lt zg))) (Nat.le_trans (Nat.le_of_lt zg) hb.size) hbd hi
  rw [hG] at HC
  unfold ret4 markRet at HC
  simp only at HC
  have kd := Below.one wd (.cells #[.int .i64 0, .int .i64 0] 63)
  have hFV := fun w6 (hb6 : Below (wd.alloc (.cells #[.int .i64 0, .int .i64 0] 63)).drew.heap.size (wd.alloc (.cells #[.int .i64 0, .int .i64 0] 63)).drew w6) => (((Blk.new wd 63 #[.int .i64 0, .int .i64 0]).drew).below hb6 (by simp)).two_ (.int .i64 k)
  have hC1 := HC _ (Below.refl _ _).drew
  have hC2 := HC _ kd.drew
  have hS0 : ∀ w', Below wd.heap.size wd w' → MarkS w' g A n c i ∧ Below wd.heap.size wd w' := fun w' hb => ⟨⟨((h1.below hb zg).cells).1, ((h1.below hb zg).cells).2.1⟩, hb⟩
  have hS1 := hS0 _ (Below.refl wd.heap.size wd).drew
  have hS2 := hS0 _ kd.drew
  have hS3 := fun w6 (h : Below wd.drew.heap.size wd.drew w6) => hS0 w6 ((Below.refl wd.heap.size wd).drew.up h)
  have hS4 := fun w6 (h : Below (wd.alloc (.cells #[.int .i64 0, .int .i64 0] 63)).drew.heap.size (wd.alloc (.cells #[.int .i64 0, .int .i64 0] 63)).drew w6) => hS0 w6 (kd.drew.up h)
  have hS5 := fun w6 (h : MarkS w6 g A n c i ∧ Below wd.heap.size wd w6) => hS0 _ (h.2.up (Below.one w6 (.cells #[.int .i64 0, .int .i64 0] 63)))
  have hS6 := fun w6 (h : MarkS w6 g A n c i ∧ Below wd.heap.size wd w6) => hS0 _ (h.2.up (Below.one w6 (.cells #[.int .i64 k, .int .i64 m] 63)))
  have hS7 := fun w6 (h : MarkS w6 g A n c i ∧ Below wd.heap.size wd w6) => hS0 _ ((h.2.setCell (p := ⟨wd.heap.size, 0, none⟩) (Nat.le_refl _) (.int .i64 k)).setCell (p := ⟨wd.heap.size, 1, none⟩) (Nat.le_refl _) (.int .i64 m))
  clear hS0 HC
  go_cut [5, 6, 7] from 17 (fun s5 s6 s7 w' => ∃ gf, s5 = .pointer (some ⟨gf, 0, none⟩) ∧ s6 = .int .i64 q ∧ s7 = .int .i64 0 ∧ MarkM w w' g A n c b i k m gf)
  case first =>
    go_region_held3 (fun w' => MarkS w' g A n c i ∧ Below wd.heap.size wd w')
      (with_reducible first | exact hS1 | exact hS2 | exact hS3 _ hb6 | exact hS4 _ hb6 | exact hS5 _ hk6 | exact hS6 _ hk6 | exact hS7 _ hk6)
      (first
        | (go_at_call 102; with_reducible refine hC1.mono ?_; rintro r w6 ⟨rfl, hb6⟩; have hk6 := hS3 _ hb6)
        | (go_at_call 102; with_reducible refine hC2.mono ?_; rintro r w6 ⟨rfl, hb6⟩; have hk6 := hS4 _ hb6; obtain ⟨x0, x1, ⟨s0, t0⟩, s1, t1⟩ := hFV _ hb6))
    all_goals
      go_wp2_with fail
      go_meet
      case rel =>
        first
        | exact ⟨_, rfl, rfl, rfl, mark_meet1 h1 hZ hfr hb6 zd zg⟩
        | exact ⟨_, rfl, rfl, rfl, mark_meet2 h1 hZ hfr hb6 zd zg⟩
  case rest =>
    obtain ⟨gm, rfl, rfl, rfl, hT6, Z6, M6, fr6, hgm⟩ := hcut
    clear h1 hZ hfr hFV hC1 hC2 hS1 hS2 hS3 hS4 hS5 hS6 hS7 kd zd zg h
    have gg : g < gm := by omega
    obtain ⟨c0, c1, c2⟩ := hT6.cells
    have f1 := hT6.blk.frozen 1
    have T7 := hT6.setAt q
    have Z7 := Z6.far (p := ⟨g, 1, none⟩) (by show w.heap.size ≠ g; omega) (.int .i64 q)
    have M7 := M6.far (p := ⟨g, 1, none⟩) (by show gm ≠ g; omega) (.int .i64 q)
    have fr7 := fr6.setCell (p := ⟨g, 1, none⟩) (by simp) (.int .i64 q)
    go_upto_region 7 with fail
    generalize wc.setCell ⟨g, 1, none⟩ (.int .i64 q) = wa at T7 Z7 M7 fr7 ⊢
    clear hT6 Z6 M6 fr6 c0 c1 c2 f1
    have e0 := M7.cell 0
    have e1 := M7.cell 1
    have a0 := (M7.alloc (.cells #[.int .i64 0, .int .i64 0, .int .i64 0, .string ⟨#[]⟩, .slice none 0 0] 28)).cell 0
    have a1 := (M7.alloc (.cells #[.int .i64 0, .int .i64 0, .int .i64 0, .string ⟨#[]⟩, .slice none 0 0] 28)).cell 1
    have v0 := (M7.alloc (.cells #[.int .i64 k, .int .i64 0, .int .i64 0, .string ⟨#[]⟩, .slice none 0 0] 28)).cell 0
    have v1 := (M7.alloc (.cells #[.int .i64 k, .int .i64 0, .int .i64 0, .string ⟨#[]⟩, .slice none 0 0] 28)).cell 1
    simp only [List.getElem?_toArray, List.getElem?_cons_succ, List.getElem?_cons_zero] at e0 e1 a0 a1 v0 v1
    go_region
    clear e0 e1 a0 a1 v0 v1
    have kv := (Below.one wa (.cells #[.int .i64 k, .int .i64 0, .int .i64 0, .string ⟨#[]⟩, .slice none 0 0] 28)).drew
    have T8 := T7.below kv T7.blk.lt
    have Z8 := Z7.below kv Z7.lt
    have M8 := M7.below kv M7.lt
    have V8 := (Blk.new wa 28 #[.int .i64 k, .int .i64 0, .int .i64 0, .string ⟨#[]⟩, .slice none 0 0]).drew
    have fr8 := fr7.trans (Fr.of_below kv)
    have zbv : gm < wa.heap.size := M7.lt
    clear T7 Z7 M7 fr7 kv
    generalize wa.heap.size = bv at V8 zbv ⊢
    generalize (wa.alloc (.cells #[.int .i64 k, .int .i64 0, .int .i64 0, .string ⟨#[]⟩, .slice none 0 0] 28)).drew = wb at T8 Z8 M8 V8 fr8 ⊢
    have e0 := M8.cell 0
    have e1 := M8.cell 1
    simp only [List.getElem?_toArray, List.getElem?_cons_succ, List.getElem?_cons_zero] at e0 e1
    obtain ⟨qn, rfl⟩ := Int.eq_ofNat_of_zero_le (show 0 ≤ q by omega)
    rw [Int.toNat_natCast] at hR0 hF1
    have HR0 := Lib.hid hR0
    have hbl := T8.sl.blen
    clear hR0
    go_wp2_with fail
    rw [hm.out]
    have RV0 := RV.nil_ wb (bv + 1)
    go_loopg [12, 129] mn (fun f' v12 v129 wr => ∃ (j q0 fq c' : Nat) (A' : Option Addr) (acc : List Tr) (es : List El), v129 = .int .i64 j ∧ j + f' = mn ∧ q0 ≤ n ∧ 2 * (n - q0) + 4 ≤ fq ∧ fq ≤ F1 ∧ Hid (kM b fq d f' q0 acc = R) ∧ PR wr g A n c b q0 0 ∧ Blk wr w.heap.size 28 #[.int .i64 0, .int .i64 0, .int .i64 0, .string ⟨#[]⟩, .slice none 0 0] ∧ Blk wr bv 28 #[.int .i64 k, .int .i64 0, .int .i64 0, .string ⟨#[]⟩, .slice A' j c'] ∧ RV wr (bv + 1) A' j c' acc es ∧ Fr [g] w wr)
    case atStart => exact ⟨0, qn, F1, 0, none, [], [], rfl, by omega, by omega, by omega, Nat.le_refl _, HR0, T8, Z8, V8, RV0, fr8⟩
    case round =>
      obtain ⟨j, q0, fq, c', A', acc, es, rfl, hjf, hq0, hfq, hfqF, hP, hT, hZ0, hO, hRV, hfr0⟩ := hrel
      clear HR0 T8 Z8 V8 RV0 fr8 M8 e0 e1
      obtain ⟨g0, rfl⟩ : ∃ z, fq = z + 1 := ⟨fq - 1, by omega⟩
      by_cases hlt : j < mn
      · obtain ⟨f0, rfl⟩ : ∃ z, gk = z + 1 := ⟨gk - 1, by omega⟩
        have hk1 : IntKind.i64.wrap (d - 1) = d - 1 := by rw [IntKind.wrap_i64]; omega
        have HV := hV g0 (by omega) q0 wr hT hfr0 hq0 (by omega)
        obtain ⟨X, hX⟩ : ∃ X, kV b g0 (d - 1) q0 = X := ⟨_, rfl⟩
        have hP2 := hP.out
        rw [kM] at hP2
        rw [hX] at HV hP2
        have hXg : ∀ v q', X = .good v q' → q0 < q' ∧ q' ≤ n := fun v q' he => by have := (kVM_good b g0).1 _ _ _ _ (hX.trans he); rw [Int.toNat_natCast] at this; omega
        clear hX hP hV
        have hlo : bv + 1 ≤ wr.heap.size := hO.lt
        have hnm : j + 1 ≤ 1099511627776 := by omega
        go_upto_region 30 with (go_at_call 60; refine HV.mono ?_; rintro r w5 ⟨t, u, p', kc, rfl, hl5, ho5, hT5, hf5, hok⟩)
        have kx := Below.one w5 (.cells #[.int .i64 t.k, .int .i64 t.n, .int .i64 t.x, .string t.s, .slice u.A u.n u.c] 28)
        have T6 := hT5.below kx hT5.blk.lt
        have Z6 := (Blk.ofFr hZ0 hf5 (by omega)).below kx (Blk.ofFr hZ0 hf5 (by omega)).lt
        have O6 := (Blk.ofFr hO hf5 (by omega)).below kx (Blk.ofFr hO hf5 (by omega)).lt
        have V6 := (hRV.frg hf5 (by omega)).below kx
        have l6 := hl5.below (fun g hg => ho5.lt hg) kx
        have o6 := (ho5.below (fun g hg => ho5.lt hg) kx).mono (lo2 := bv + 1) hlo
        have hdd := hRV.newOwn ho5
        have X6 := Blk.new w5 28 #[.int .i64 t.k, .int .i64 t.n, .int .i64 t.x, .string t.s, .slice u.A u.n u.c]
        have F6 := (hfr0.trans hf5).trans (Fr.of_below kx)
        generalize w5.heap.size = bx at X6 ⊢
        generalize w5.alloc (.cells #[.int .i64 t.k, .int .i64 t.n, .int .i64 t.x, .string t.s, .slice u.A u.n u.c] 28) = w6 at T6 Z6 O6 V6 l6 o6 X6 F6 ⊢
        clear hT hZ0 hO hRV hfr0 HV hl5 ho5 hT5 hf5 kx
        obtain ⟨d0, d1, d2'⟩ := T6.cells
        cases X with
        | bad c0 =>
          obtain ⟨hkc, hc0⟩ := hok
          rw [← hkc] at hc0 hP2
          have HP := Lib.hid hP2
          have hcb : (kc != 0) = true := by simpa using hc0
          obtain ⟨x0, x1, x2, x3, x4, ⟨s0, t0⟩, ⟨s1, t1⟩, ⟨s2, t2⟩, ⟨s3, t3⟩, s4, t4⟩ := Z6.five (o := 0) (by simp) (.int .i64 0) (.int .i64 0) (.int .i64 0) (.string ⟨#[]⟩)
          clear hP2 hkc hXg
          go_wp2_with fail
          have hblk : Blk (set5 w6 w.heap.size 0 zeroT ⟨none, 0, 0, []⟩) w.heap.size 28 _ := Blk.five_ Z6 zeroT ⟨none, 0, 0, []⟩
          have hTR3 := T6.set5_ (g2 := w.heap.size) (o := 0) (t := zeroT) (e := ⟨none, 0, 0, []⟩) hgl
          have hfr3 : Fr [g] w (set5 w6 w.heap.size 0 zeroT ⟨none, 0, 0, []⟩) := fr_new5 F6 (Nat.le_refl _)
          have hres := fun (tm : Array Value) (hp : tm.getD 4 undef = .pointer (some ⟨w.heap.size, 0, none⟩)) => results_blk (P := Tryz.prog) (tmps := tm) Tryz.results60 Tryz.isAgg28 (by exact Tryz.sizeOf28) hp hblk
          refine bodyPost_ret (hres _ rfl) rfl ?_
          rw [← HP.out]
          exact ⟨zeroT, ⟨none, 0, 0, []⟩, p', kc, rfl, LsAt.nil_ _ _, Own.nil_ _ _, hTR3, hfr3, rfl, hc0⟩
        | good v q' =>
          obtain ⟨rfl, rfl, rfl⟩ := hok
          obtain ⟨hqa, hqb⟩ := hXg t q' rfl
          have HP : Hid (kM b g0 d f0 q' (acc ++ [t]) = R) := Lib.hid hP2
          clear hP2 hXg
          have zb5 : bv + 1 ≤ w6.heap.size := O6.lt
          have p5 := O6.cell 4
          have v0 := X6.cell 0
          have v1 := X6.cell 1
          have v2 := X6.cell 2
          have v3 := X6.cell 3
          have v4 := X6.cell 4
          simp only [List.getElem?_toArray, List.getElem?_cons_succ, List.getElem?_cons_zero] at v0 v1 v2 v3 v4 p5
          go_upto_region 33 with (at_builtin; refine app_val rfl _ _ rfl V6 rfl (by first | rfl | simp) rfl l6 o6 hdd hnm zb5 ?_; intro A3 c3 w7 h7 hb7 hg7; have O7 := O6.below hb7 (by omega); have p7 := O7.cell 4; have f7 := O7.frozen 4; simp only [List.getElem?_toArray, List.getElem?_cons_succ, List.getElem?_cons_zero] at p7)
          have T7 := T6.below hb7 (by omega)
          have T8 : PR (w7.setCell ⟨bv, 4, none⟩ (.slice A3 (j + 1) c3)) g A n c b q' 0 := ⟨T7.blk.far (p := ⟨bv, 4, none⟩) (by show g ≠ bv; omega) _, T7.sl.setCell (p := ⟨bv, 4, none⟩) (by show g ≤ bv; omega) _, T7.bd⟩
          have Z8 := (Z6.below hb7 (by omega)).far (p := ⟨bv, 4, none⟩) (by show w.heap.size ≠ bv; omega) (.slice A3 (j + 1) c3)
          have O8 : Blk (w7.setCell ⟨bv, 4, none⟩ (.slice A3 (j + 1) c3)) bv 28 #[.int .i64 k, .int .i64 0, .int .i64 0, .string ⟨#[]⟩, .slice A3 (j + 1) c3] := by simpa using O7.set_ 4 (.slice A3 (j + 1) c3)
          have V8 := h7.frg (g := bv) ((Fr.refl [bv] w7).setCell (p := ⟨bv, 4, none⟩) (by simp) (.slice A3 (j + 1) c3)) (Nat.lt_succ_self _)
          have F8 : Fr [g] w (w7.setCell ⟨bv, 4, none⟩ (.slice A3 (j + 1) c3)) := fr_new (q := ⟨bv, 4, none⟩) (fr_bel F6 hb7 (by omega)) (by show w.heap.size ≤ bv; omega) _
          generalize w7.setCell ⟨bv, 4, none⟩ (.slice A3 (j + 1) c3) = w8 at T8 Z8 O8 V8 F8 ⊢
          clear T6 Z6 O6 V6 l6 o6 X6 F6 hdd zb5 p5 v0 v1 v2 v3 v4 h7 hb7 hg7 O7 p7 f7 T7 d0 d1 d2'
          go_wp2_with fail
          go_roundg f0
          case measure => omega
          case rel => exact ⟨j + 1, q', g0, c3, A3, acc ++ [t], es ++ [u], by go_num, by omega, by omega, by omega, by omega, HP, T8, Z8, O8, V8, F8⟩
      · obtain rfl : gk = 0 := by omega
        obtain rfl : j = mn := by omega
        have hP2 := hP.out
        rw [kM] at hP2
        have HP := Lib.hid hP2
        have b0 := hO.cell 0
        have b1 := hO.cell 1
        have b2 := hO.cell 2
        have b3 := hO.cell 3
        have b4 := hO.cell 4
        simp only [List.getElem?_toArray, List.getElem?_cons_succ, List.getElem?_cons_zero] at b0 b1 b2 b3 b4
        obtain ⟨x0, x1', x2, x3, x4, ⟨s0, t0⟩, ⟨s1, t1⟩, ⟨s2, t2⟩, ⟨s3, t3⟩, s4, t4⟩ := hZ0.five (o := 0) (by simp) (.int .i64 k) (.int .i64 0) (.int .i64 0) (.string ⟨#[]⟩)
        clear hP hP2 hV hm
        go_wp2_with fail
        obtain ⟨fp, hls, hown, _⟩ := hRV.list hRV.cap.1 hRV.cap.2
        have hn0 : w.heap.size ∉ fp := fun hx => by have := (hown.2 _ hx).1; omega
        have hblk : Blk (set5 wr w.heap.size 0 ⟨k, 0, 0, ⟨#[]⟩, acc⟩ ⟨A', j, c', fp⟩) w.heap.size 28 _ := Blk.five_ hZ0 ⟨k, 0, 0, ⟨#[]⟩, acc⟩ ⟨A', j, c', fp⟩
        have hTR3 := hT.set5_ (g2 := w.heap.size) (o := 0) (t := ⟨k, 0, 0, ⟨#[]⟩, acc⟩) (e := ⟨A', j, c', fp⟩) hgl
        have hfr3 : Fr [g] w (set5 wr w.heap.size 0 ⟨k, 0, 0, ⟨#[]⟩, acc⟩ ⟨A', j, c', fp⟩) := fr_new5 hfr0 (Nat.le_refl _)
        have hls5 := hls.set5_ (e2 := ⟨A', j, c', fp⟩) (g := w.heap.size) (o := 0) (t := ⟨k, 0, 0, ⟨#[]⟩, acc⟩) hn0
        have how5 := (hown.mono (lo2 := w.heap.size) (by omega)).set5_ (g := w.heap.size) (o := 0) (t := ⟨k, 0, 0, ⟨#[]⟩, acc⟩) (e := ⟨A', j, c', fp⟩) hn0
        have hres := fun (tm : Array Value) (hp : tm.getD 4 undef = .pointer (some ⟨w.heap.size, 0, none⟩)) => results_blk (P := Tryz.prog) (tmps := tm) Tryz.results60 Tryz.isAgg28 (by exact Tryz.sizeOf28) hp hblk
        refine bodyPost_ret (hres _ rfl) rfl ?_
        rw [← HP.out]
        exact ⟨⟨k, 0, 0, ⟨#[]⟩, acc⟩, ⟨A', j, c', fp⟩, q0, 0, rfl, hls5, how5, hTR3, hfr3, rfl, rfl, rfl⟩
set_option maxHeartbeats 8000000 in
theorem i_value_map (g : Nat) (A : Option Addr) (n c : Nat) (b : List UInt8) (i d : Int) (w : World) (h : PR w g A n c b i 0) (hi : -9223372036854775808 ≤ i ∧ i ≤ 9223372036854775807) (hd : 1 ≤ d) (k m q : Int) (hG : getMark b i = (k, m, q, 0)) (d2 : d ≤ 9223372036854775807) (mn : Nat) (hmn : mn ≤ 131070) (hm : Hid (m * 2 = (mn : Int))) (hk4 : (k == 4) = false) (hk7 : (k == 7) = false) (hk8 : (k == 8) = false) (hk9 : (k == 9) = false) (hk10 : (k == 10) = true) (F1 : Nat) (hF1 : 2 * (n - q.toNat) + 4 ≤ F1) (R : RdL) (hR0 : kM b F1 d mn q.toNat [] = R) (hV : ∀ g0, g0 < F1 → ∀ (q0 : Nat) w1, PR w1 g A n c b q0 0 → Fr [g] w w1 → q0 ≤ n → 2 * (n - q0) + 3 ≤ g0 → Calls Tryz.prog 60 #[.pointer (some ⟨g, 0, none⟩), .int .i64 (d - 1)] w1 fun r w' => ReadP w1 w' g A n c b (kV b g0 (d - 1) q0) r) :
    Calls Tryz.prog 60 #[.pointer (some ⟨g, 0, none⟩), .int .i64 d] w fun r w' => ReadP w w' g A n c b (closeK k (0, 0, ⟨#[]⟩) R) r := by
  have hgood := getMark_good hG
  have k1 := Below.one w (.cells #[.int .i64 0, .int .i64 0, .int .i64 0, .string ⟨#[]⟩, .slice none 0 0] 28)
  have h1 := h.below k1 h.blk.lt
  have hZ := Blk.new w 28 #[.int .i64 0, .int .i64 0, .int .i64 0, .string ⟨#[]⟩, .slice none 0 0]
  have hgl := h.blk.lt
  have hbd := h.bd
  have hdd : decide (d < 1) = false := by simp; omega
  have hfr := Fr.of_below (fp := [g]) k1
  go_enter Tryz.func60, Tryz.ntmps60
  go_upto_region 3 with fail
  generalize w.alloc (.cells #[.int .i64 0, .int .i64 0, .int .i64 0, .string ⟨#[]⟩, .slice none 0 0] 28) = wd at h1 hZ hfr ⊢
  have zd := hZ.lt
  have zg : g < wd.heap.size := Nat.lt_trans hgl zd
  have HC := fun w1 (hb : Below wd.heap.size wd w1) => i_GetMark A n c b i w1 g ((h1.sl).below (hb.mono (Nat.le_of_lt zg))) (Nat.le_trans (Nat.le_of_lt zg) hb.size) hbd hi
  rw [hG] at HC
  unfold ret4 markRet at HC
  simp only at HC
  have kd := Below.one wd (.cells #[.int .i64 0, .int .i64 0] 63)
  have hFV := fun w6 (hb6 : Below (wd.alloc (.cells #[.int .i64 0, .int .i64 0] 63)).drew.heap.size (wd.alloc (.cells #[.int .i64 0, .int .i64 0] 63)).drew w6) => (((Blk.new wd 63 #[.int .i64 0, .int .i64 0]).drew).below hb6 (by simp)).two_ (.int .i64 k)
  have hC1 := HC _ (Below.refl _ _).drew
  have hC2 := HC _ kd.drew
  have hS0 : ∀ w', Below wd.heap.size wd w' → MarkS w' g A n c i ∧ Below wd.heap.size wd w' := fun w' hb => ⟨⟨((h1.below hb zg).cells).1, ((h1.below hb zg).cells).2.1⟩, hb⟩
  have hS1 := hS0 _ (Below.refl wd.heap.size wd).drew
  have hS2 := hS0 _ kd.drew
  have hS3 := fun w6 (h : Below wd.drew.heap.size wd.drew w6) => hS0 w6 ((Below.refl wd.heap.size wd).drew.up h)
  have hS4 := fun w6 (h : Below (wd.alloc (.cells #[.int .i64 0, .int .i64 0] 63)).drew.heap.size (wd.alloc (.cells #[.int .i64 0, .int .i64 0] 63)).drew w6) => hS0 w6 (kd.drew.up h)
  have hS5 := fun w6 (h : MarkS w6 g A n c i ∧ Below wd.heap.size wd w6) => hS0 _ (h.2.up (Below.one w6 (.cells #[.int .i64 0, .int .i64 0] 63)))
  have hS6 := fun w6 (h : MarkS w6 g A n c i ∧ Below wd.heap.size wd w6) => hS0 _ (h.2.up (Below.one w6 (.cells #[.int .i64 k, .int .i64 m] 63)))
  have hS7 := fun w6 (h : MarkS w6 g A n c i ∧ Below wd.heap.size wd w6) => hS0 _ ((h.2.setCell (p := ⟨wd.heap.size, 0, none⟩) (Nat.le_refl _) (.int .i64 k)).setCell (p := ⟨wd.heap.size, 1, none⟩) (Nat.le_refl _) (.int .i64 m))
  clear hS0 HC
  go_cut [5, 6, 7] from 17 (fun s5 s6 s7 w' => ∃ gf, s5 = .pointer (some ⟨gf, 0, none⟩) ∧ s6 = .int .i64 q ∧ s7 = .int .i64 0 ∧ MarkM w w' g A n c b i k m gf)
  case first =>
    go_region_held3 (fun w' => MarkS w' g A n c i ∧ Below wd.heap.size wd w')
      (with_reducible first | exact hS1 | exact hS2 | exact hS3 _ hb6 | exact hS4 _ hb6 | exact hS5 _ hk6 | exact hS6 _ hk6 | exact hS7 _ hk6)
      (first
        | (go_at_call 102; with_reducible refine hC1.mono ?_; rintro r w6 ⟨rfl, hb6⟩; have hk6 := hS3 _ hb6)
        | (go_at_call 102; with_reducible refine hC2.mono ?_; rintro r w6 ⟨rfl, hb6⟩; have hk6 := hS4 _ hb6; obtain ⟨x0, x1, ⟨s0, t0⟩, s1, t1⟩ := hFV _ hb6))
    all_goals
      go_wp2_with fail
      go_meet
      case rel =>
        first
        | exact ⟨_, rfl, rfl, rfl, mark_meet1 h1 hZ hfr hb6 zd zg⟩
        | exact ⟨_, rfl, rfl, rfl, mark_meet2 h1 hZ hfr hb6 zd zg⟩
  case rest =>
    obtain ⟨gm, rfl, rfl, rfl, hT6, Z6, M6, fr6, hgm⟩ := hcut
    clear h1 hZ hfr hFV hC1 hC2 hS1 hS2 hS3 hS4 hS5 hS6 hS7 kd zd zg h
    have gg : g < gm := by omega
    obtain ⟨c0, c1, c2⟩ := hT6.cells
    have f1 := hT6.blk.frozen 1
    have T7 := hT6.setAt q
    have Z7 := Z6.far (p := ⟨g, 1, none⟩) (by show w.heap.size ≠ g; omega) (.int .i64 q)
    have M7 := M6.far (p := ⟨g, 1, none⟩) (by show gm ≠ g; omega) (.int .i64 q)
    have fr7 := fr6.setCell (p := ⟨g, 1, none⟩) (by simp) (.int .i64 q)
    go_upto_region 7 with fail
    generalize wc.setCell ⟨g, 1, none⟩ (.int .i64 q) = wa at T7 Z7 M7 fr7 ⊢
    clear hT6 Z6 M6 fr6 c0 c1 c2 f1
    have e0 := M7.cell 0
    have e1 := M7.cell 1
    have a0 := (M7.alloc (.cells #[.int .i64 0, .int .i64 0, .int .i64 0, .string ⟨#[]⟩, .slice none 0 0] 28)).cell 0
    have a1 := (M7.alloc (.cells #[.int .i64 0, .int .i64 0, .int .i64 0, .string ⟨#[]⟩, .slice none 0 0] 28)).cell 1
    have v0 := (M7.alloc (.cells #[.int .i64 k, .int .i64 0, .int .i64 0, .string ⟨#[]⟩, .slice none 0 0] 28)).cell 0
    have v1 := (M7.alloc (.cells #[.int .i64 k, .int .i64 0, .int .i64 0, .string ⟨#[]⟩, .slice none 0 0] 28)).cell 1
    simp only [List.getElem?_toArray, List.getElem?_cons_succ, List.getElem?_cons_zero] at e0 e1 a0 a1 v0 v1
    go_region
    clear e0 e1 a0 a1 v0 v1
    have kv := (Below.one wa (.cells #[.int .i64 k, .int .i64 0, .int .i64 0, .string ⟨#[]⟩, .slice none 0 0] 28)).drew
    have T8 := T7.below kv T7.blk.lt
    have Z8 := Z7.below kv Z7.lt
    have M8 := M7.below kv M7.lt
    have V8 := (Blk.new wa 28 #[.int .i64 k, .int .i64 0, .int .i64 0, .string ⟨#[]⟩, .slice none 0 0]).drew
    have fr8 := fr7.trans (Fr.of_below kv)
    have zbv : gm < wa.heap.size := M7.lt
    clear T7 Z7 M7 fr7 kv
    generalize wa.heap.size = bv at V8 zbv ⊢
    generalize (wa.alloc (.cells #[.int .i64 k, .int .i64 0, .int .i64 0, .string ⟨#[]⟩, .slice none 0 0] 28)).drew = wb at T8 Z8 M8 V8 fr8 ⊢
    have e0 := M8.cell 0
    have e1 := M8.cell 1
    simp only [List.getElem?_toArray, List.getElem?_cons_succ, List.getElem?_cons_zero] at e0 e1
    obtain ⟨qn, rfl⟩ := Int.eq_ofNat_of_zero_le (show 0 ≤ q by omega)
    rw [Int.toNat_natCast] at hR0 hF1
    have HR0 := Lib.hid hR0
    have hbl := T8.sl.blen
    clear hR0
    have hw2 : IntKind.i64.wrap (m * 2) = m * 2 := by have h9 := hm.out; rw [IntKind.wrap_i64]; omega
    go_wp2_with fail
    rw [hm.out]
    have RV0 := RV.nil_ wb (bv + 1)
    go_loopg [12, 129] mn (fun f' v12 v129 wr => ∃ (j q0 fq c' : Nat) (A' : Option Addr) (acc : List Tr) (es : List El), v129 = .int .i64 j ∧ j + f' = mn ∧ q0 ≤ n ∧ 2 * (n - q0) + 4 ≤ fq ∧ fq ≤ F1 ∧ Hid (kM b fq d f' q0 acc = R) ∧ PR wr g A n c b q0 0 ∧ Blk wr w.heap.size 28 #[.int .i64 0, .int .i64 0, .int .i64 0, .string ⟨#[]⟩, .slice none 0 0] ∧ Blk wr bv 28 #[.int .i64 k, .int .i64 0, .int .i64 0, .string ⟨#[]⟩, .slice A' j c'] ∧ RV wr (bv + 1) A' j c' acc es ∧ Fr [g] w wr)
    case atStart => exact ⟨0, qn, F1, 0, none, [], [], rfl, by omega, by omega, by omega, Nat.le_refl _, HR0, T8, Z8, V8, RV0, fr8⟩
    case round =>
      obtain ⟨j, q0, fq, c', A', acc, es, rfl, hjf, hq0, hfq, hfqF, hP, hT, hZ0, hO, hRV, hfr0⟩ := hrel
      clear HR0 T8 Z8 V8 RV0 fr8 M8 e0 e1
      obtain ⟨g0, rfl⟩ : ∃ z, fq = z + 1 := ⟨fq - 1, by omega⟩
      by_cases hlt : j < mn
      · obtain ⟨f0, rfl⟩ : ∃ z, gk = z + 1 := ⟨gk - 1, by omega⟩
        have hk1 : IntKind.i64.wrap (d - 1) = d - 1 := by rw [IntKind.wrap_i64]; omega
        have HV := hV g0 (by omega) q0 wr hT hfr0 hq0 (by omega)
        obtain ⟨X, hX⟩ : ∃ X, kV b g0 (d - 1) q0 = X := ⟨_, rfl⟩
        have hP2 := hP.out
        rw [kM] at hP2
        rw [hX] at HV hP2
        have hXg : ∀ v q', X = .good v q' → q0 < q' ∧ q' ≤ n := fun v q' he => by have := (kVM_good b g0).1 _ _ _ _ (hX.trans he); rw [Int.toNat_natCast] at this; omega
        clear hX hP hV
        have hlo : bv + 1 ≤ wr.heap.size := hO.lt
        have hnm : j + 1 ≤ 1099511627776 := by omega
        go_upto_region 30 with (go_at_call 60; refine HV.mono ?_; rintro r w5 ⟨t, u, p', kc, rfl, hl5, ho5, hT5, hf5, hok⟩)
        have kx := Below.one w5 (.cells #[.int .i64 t.k, .int .i64 t.n, .int .i64 t.x, .string t.s, .slice u.A u.n u.c] 28)
        have T6 := hT5.below kx hT5.blk.lt
        have Z6 := (Blk.ofFr hZ0 hf5 (by omega)).below kx (Blk.ofFr hZ0 hf5 (by omega)).lt
        have O6 := (Blk.ofFr hO hf5 (by omega)).below kx (Blk.ofFr hO hf5 (by omega)).lt
        have V6 := (hRV.frg hf5 (by omega)).below kx
        have l6 := hl5.below (fun g hg => ho5.lt hg) kx
        have o6 := (ho5.below (fun g hg => ho5.lt hg) kx).mono (lo2 := bv + 1) hlo
        have hdd := hRV.newOwn ho5
        have X6 := Blk.new w5 28 #[.int .i64 t.k, .int .i64 t.n, .int .i64 t.x, .string t.s, .slice u.A u.n u.c]
        have F6 := (hfr0.trans hf5).trans (Fr.of_below kx)
        generalize w5.heap.size = bx at X6 ⊢
        generalize w5.alloc (.cells #[.int .i64 t.k, .int .i64 t.n, .int .i64 t.x, .string t.s, .slice u.A u.n u.c] 28) = w6 at T6 Z6 O6 V6 l6 o6 X6 F6 ⊢
        clear hT hZ0 hO hRV hfr0 HV hl5 ho5 hT5 hf5 kx
        obtain ⟨d0, d1, d2'⟩ := T6.cells
        cases X with
        | bad c0 =>
          obtain ⟨hkc, hc0⟩ := hok
          rw [← hkc] at hc0 hP2
          have HP := Lib.hid hP2
          have hcb : (kc != 0) = true := by simpa using hc0
          obtain ⟨x0, x1, x2, x3, x4, ⟨s0, t0⟩, ⟨s1, t1⟩, ⟨s2, t2⟩, ⟨s3, t3⟩, s4, t4⟩ := Z6.five (o := 0) (by simp) (.int .i64 0) (.int .i64 0) (.int .i64 0) (.string ⟨#[]⟩)
          clear hP2 hkc hXg
          go_wp2_with fail
          have hblk : Blk (set5 w6 w.heap.size 0 zeroT ⟨none, 0, 0, []⟩) w.heap.size 28 _ := Blk.five_ Z6 zeroT ⟨none, 0, 0, []⟩
          have hTR3 := T6.set5_ (g2 := w.heap.size) (o := 0) (t := zeroT) (e := ⟨none, 0, 0, []⟩) hgl
          have hfr3 : Fr [g] w (set5 w6 w.heap.size 0 zeroT ⟨none, 0, 0, []⟩) := fr_new5 F6 (Nat.le_refl _)
          have hres := fun (tm : Array Value) (hp : tm.getD 4 undef = .pointer (some ⟨w.heap.size, 0, none⟩)) => results_blk (P := Tryz.prog) (tmps := tm) Tryz.results60 Tryz.isAgg28 (by exact Tryz.sizeOf28) hp hblk
          refine bodyPost_ret (hres _ rfl) rfl ?_
          rw [← HP.out]
          exact ⟨zeroT, ⟨none, 0, 0, []⟩, p', kc, rfl, LsAt.nil_ _ _, Own.nil_ _ _, hTR3, hfr3, rfl, hc0⟩
        | good v q' =>
          obtain ⟨rfl, rfl, rfl⟩ := hok
          obtain ⟨hqa, hqb⟩ := hXg t q' rfl
          have HP : Hid (kM b g0 d f0 q' (acc ++ [t]) = R) := Lib.hid hP2
          clear hP2 hXg
          have zb5 : bv + 1 ≤ w6.heap.size := O6.lt
          have p5 := O6.cell 4
          have v0 := X6.cell 0
          have v1 := X6.cell 1
          have v2 := X6.cell 2
          have v3 := X6.cell 3
          have v4 := X6.cell 4
          simp only [List.getElem?_toArray, List.getElem?_cons_succ, List.getElem?_cons_zero] at v0 v1 v2 v3 v4 p5
          go_upto_region 33 with (at_builtin; refine app_val rfl _ _ rfl V6 rfl (by first | rfl | simp) rfl l6 o6 hdd hnm zb5 ?_; intro A3 c3 w7 h7 hb7 hg7; have O7 := O6.below hb7 (by omega); have p7 := O7.cell 4; have f7 := O7.frozen 4; simp only [List.getElem?_toArray, List.getElem?_cons_succ, List.getElem?_cons_zero] at p7)
          have T7 := T6.below hb7 (by omega)
          have T8 : PR (w7.setCell ⟨bv, 4, none⟩ (.slice A3 (j + 1) c3)) g A n c b q' 0 := ⟨T7.blk.far (p := ⟨bv, 4, none⟩) (by show g ≠ bv; omega) _, T7.sl.setCell (p := ⟨bv, 4, none⟩) (by show g ≤ bv; omega) _, T7.bd⟩
          have Z8 := (Z6.below hb7 (by omega)).far (p := ⟨bv, 4, none⟩) (by show w.heap.size ≠ bv; omega) (.slice A3 (j + 1) c3)
          have O8 : Blk (w7.setCell ⟨bv, 4, none⟩ (.slice A3 (j + 1) c3)) bv 28 #[.int .i64 k, .int .i64 0, .int .i64 0, .string ⟨#[]⟩, .slice A3 (j + 1) c3] := by simpa using O7.set_ 4 (.slice A3 (j + 1) c3)
          have V8 := h7.frg (g := bv) ((Fr.refl [bv] w7).setCell (p := ⟨bv, 4, none⟩) (by simp) (.slice A3 (j + 1) c3)) (Nat.lt_succ_self _)
          have F8 : Fr [g] w (w7.setCell ⟨bv, 4, none⟩ (.slice A3 (j + 1) c3)) := fr_new (q := ⟨bv, 4, none⟩) (fr_bel F6 hb7 (by omega)) (by show w.heap.size ≤ bv; omega) _
          generalize w7.setCell ⟨bv, 4, none⟩ (.slice A3 (j + 1) c3) = w8 at T8 Z8 O8 V8 F8 ⊢
          clear T6 Z6 O6 V6 l6 o6 X6 F6 hdd zb5 p5 v0 v1 v2 v3 v4 h7 hb7 hg7 O7 p7 f7 T7 d0 d1 d2'
          go_wp2_with fail
          go_roundg f0
          case measure => omega
          case rel => exact ⟨j + 1, q', g0, c3, A3, acc ++ [t], es ++ [u], by go_num, by omega, by omega, by omega, by omega, HP, T8, Z8, O8, V8, F8⟩
      · obtain rfl : gk = 0 := by omega
        obtain rfl : j = mn := by omega
        have hP2 := hP.out
        rw [kM] at hP2
        have HP := Lib.hid hP2
        have b0 := hO.cell 0
        have b1 := hO.cell 1
        have b2 := hO.cell 2
        have b3 := hO.cell 3
        have b4 := hO.cell 4
        simp only [List.getElem?_toArray, List.getElem?_cons_succ, List.getElem?_cons_zero] at b0 b1 b2 b3 b4
        obtain ⟨x0, x1', x2, x3, x4, ⟨s0, t0⟩, ⟨s1, t1⟩, ⟨s2, t2⟩, ⟨s3, t3⟩, s4, t4⟩ := hZ0.five (o := 0) (by simp) (.int .i64 k) (.int .i64 0) (.int .i64 0) (.string ⟨#[]⟩)
        clear hP hP2 hV hm
        go_wp2_with fail
        obtain ⟨fp, hls, hown, _⟩ := hRV.list hRV.cap.1 hRV.cap.2
        have hn0 : w.heap.size ∉ fp := fun hx => by have := (hown.2 _ hx).1; omega
        have hblk : Blk (set5 wr w.heap.size 0 ⟨k, 0, 0, ⟨#[]⟩, acc⟩ ⟨A', j, c', fp⟩) w.heap.size 28 _ := Blk.five_ hZ0 ⟨k, 0, 0, ⟨#[]⟩, acc⟩ ⟨A', j, c', fp⟩
        have hTR3 := hT.set5_ (g2 := w.heap.size) (o := 0) (t := ⟨k, 0, 0, ⟨#[]⟩, acc⟩) (e := ⟨A', j, c', fp⟩) hgl
        have hfr3 : Fr [g] w (set5 wr w.heap.size 0 ⟨k, 0, 0, ⟨#[]⟩, acc⟩ ⟨A', j, c', fp⟩) := fr_new5 hfr0 (Nat.le_refl _)
        have hls5 := hls.set5_ (e2 := ⟨A', j, c', fp⟩) (g := w.heap.size) (o := 0) (t := ⟨k, 0, 0, ⟨#[]⟩, acc⟩) hn0
        have how5 := (hown.mono (lo2 := w.heap.size) (by omega)).set5_ (g := w.heap.size) (o := 0) (t := ⟨k, 0, 0, ⟨#[]⟩, acc⟩) (e := ⟨A', j, c', fp⟩) hn0
        have hres := fun (tm : Array Value) (hp : tm.getD 4 undef = .pointer (some ⟨w.heap.size, 0, none⟩)) => results_blk (P := Tryz.prog) (tmps := tm) Tryz.results60 Tryz.isAgg28 (by exact Tryz.sizeOf28) hp hblk
        refine bodyPost_ret (hres _ rfl) rfl ?_
        rw [← HP.out]
        exact ⟨⟨k, 0, 0, ⟨#[]⟩, acc⟩, ⟨A', j, c', fp⟩, q0, 0, rfl, hls5, how5, hTR3, hfr3, rfl, rfl, rfl⟩
end Go.Proofs.YtmelnaidjgpclaaGreatDoor

namespace Go.Proofs.YtmelnaidjgpclaaGreatDoor
open Go.RowKit

theorem FailP.read {w w' : World} {g : Nat} {A : Option Addr} {n c : Nat} {b : List UInt8} {i k : Int} {r : Ending} (h : FailP w w' g A n c b i k r) (hk : k ≠ 0) : ReadP w w' g A n c b (.bad k) r :=
  ⟨zeroT, ⟨none, 0, 0, []⟩, i, k, h.1, LsAt.nil_ _ _, Own.nil_ _ _, h.2.1, h.2.2, rfl, hk⟩
theorem LeafP.read {w w' : World} {g : Nat} {A : Option Addr} {n c : Nat} {b : List UInt8} {i k n1 x1 : Int} {s : ByteArray} {q1 : Nat} {r : Ending} (h : LeafP w w' g A n c b i (leafTr k n1 x1 s) r) (hi : i = (q1 : Int)) :
    ReadP w w' g A n c b (closeK k (n1, x1, s) (.good [] q1)) r :=
  ⟨leafTr k n1 x1 s, ⟨none, 0, 0, []⟩, i, 0, h.1, LsAt.nil_ _ _, Own.nil_ _ _, h.2.1, h.2.2, rfl, hi, rfl⟩
def ValSays (W : World) (g : Nat) (A : Option Addr) (n c : Nat) (b : List UInt8) (f : Nat) : Prop :=
  ∀ (i d : Int) (w : World), PR w g A n c b i 0 → Below W.heap.size W w → 2 * (n - i.toNat) + 3 ≤ f → (-9223372036854775808 ≤ i ∧ i ≤ 9223372036854775807) → (-9223372036854775808 ≤ d ∧ d ≤ 9223372036854775807) →
    Calls Tryz.prog 60 #[.pointer (some ⟨g, 0, none⟩), .int .i64 d] w fun r w' => ReadP w w' g A n c b (kV b f d i) r
theorem i_value {W : World} {g : Nat} {A : Option Addr} {n c : Nat} {b : List UInt8} (hWg : W.heap.size ≤ g) (hT : Lib.Utf8Tabs 0 1 W) (f : Nat) : ValSays W g A n c b f := by
  induction f using Nat.strongRecOn with
  | _ f ih =>
    intro i d w h hB hf hi hd
    have hbl := h.sl.blen
    have hbd := h.bd
    obtain ⟨f, rfl⟩ : ∃ z, f = z + 2 := ⟨f - 2, by omega⟩
    by_cases hd1 : d < 1
    · have e : kV b (f + 2) d i = .bad 2 := by rw [kV, if_pos hd1]
      rw [e]
      exact (i_value_deep g A n c b i d w h hd1).mono fun r w' hr => hr.read (by decide)
    obtain ⟨⟨k, m, q, cd⟩, hG⟩ : ∃ x, getMark b i = x := ⟨_, rfl⟩
    by_cases hcd : cd = 0
    rotate_left
    · have e : kV b (f + 2) d i = .bad cd := by rw [kV, if_neg hd1, hG]; simp only; rw [if_pos hcd]
      rw [e]
      exact (i_value_mark g A n c b i d w h hi (by omega) k m q cd hG hcd).mono fun r w' hr => hr.read hcd
    subst hcd
    have hgood := getMark_good hG
    have hd2 : 1 ≤ d := by omega
    have hq : ((q.toNat : Nat) : Int) = q := by omega
    have hBf : ∀ w1, Fr [g] w w1 → Below W.heap.size W w1 := fun w1 hf1 => hB.trans (hf1.below (by simpa using hWg) hB.size)
    rw [kV_head hd2 hG]
    have hV : ∀ g0, g0 < f + 1 → ∀ (q0 : Nat) w1, PR w1 g A n c b q0 0 → Fr [g] w w1 → q0 ≤ n → 2 * (n - q0) + 3 ≤ g0 → Calls Tryz.prog 60 #[.pointer (some ⟨g, 0, none⟩), .int .i64 (d - 1)] w1 fun r w' => ReadP w1 w' g A n c b (kV b g0 (d - 1) q0) r :=
      fun g0 hg0 q0 w1 h1 hf1 hq0 hfg => ih g0 (by omega) q0 (d - 1) w1 h1 (hBf w1 hf1) (by rw [Int.toNat_natCast]; exact hfg) (by omega) (by omega)
    unfold headR
    by_cases k4 : k = 4
    · rw [if_pos k4]
      obtain ⟨a, e, ok, hfl⟩ := bitsFltV_shape m
      rw [hfl, fltOf_fltV]
      exact (i_value_flt g A n c b i d w h hi hd2 k m q hG k4 a e ok hfl).mono fun r w' hr => by subst k4; exact hr.read hq.symm
    rw [if_neg k4]
    have hk4 : (k == 4) = false := by simpa using k4
    by_cases k78 : k = 7 ∨ k = 8
    · rw [if_pos k78]
      have hmb := hgood.2.2.2.2.2 (by omega)
      obtain ⟨mm, rfl⟩ := Int.eq_ofNat_of_zero_le hmb.1
      rw [Int.toNat_natCast]
      by_cases hsh : b.length < q.toNat + mm
      · rw [if_pos hsh]
        rcases k78 with rfl | rfl
        · exact (i_value_short7 g A n c b i d w h hi hd2 7 mm q hG mm (Lib.hid rfl) rfl rfl rfl (by omega)).mono fun r w' hr => hr.read (by decide)
        · exact (i_value_short8 g A n c b i d w h hi hd2 8 mm q hG mm (Lib.hid rfl) rfl rfl rfl (by omega)).mono fun r w' hr => hr.read (by decide)
      rw [if_neg hsh]
      have hcut : (cutS b q.toNat mm).data.toList = part b q.toNat mm := by unfold cutS; simp
      have hTX : ∀ v, Lib.validD (part b q.toNat mm) = v → ∀ w1, Fr [g] w w1 → Calls Tryz.prog 104 #[.string (cutS b q.toNat mm)] w1 fun r w' => r = .returned (.bool v) ∧ Below w1.heap.size w1 w' := fun v hv w1 hf1 => by
        have h9 := i_TextOk (cutS b q.toNat mm) w1 (by show (part b q.toNat mm).toArray.size ≤ _; rw [List.size_toArray]; unfold part; rw [List.length_take]; omega) (Utf8Tabs_below hT (hBf w1 hf1))
        rw [hcut, hv] at h9
        exact h9
      rcases k78 with rfl | rfl
      · cases hv : Lib.validD (part b q.toNat mm) with
        | false =>
          rw [if_pos ⟨rfl, rfl⟩]
          exact (i_value_bent g A n c b i d w h hi hd2 7 mm q hG mm (Lib.hid rfl) rfl rfl rfl (by omega) _ rfl (hTX _ hv)).mono fun r w' hr => hr.read (by decide)
        | true =>
          rw [if_neg (by simp)]
          exact (i_value_text g A n c b i d w h hi hd2 7 mm q hG mm (Lib.hid rfl) rfl rfl rfl (by omega) _ rfl (hTX _ hv)).mono fun r w' hr => hr.read (q1 := q.toNat + mm) (by omega)
      · rw [if_neg (by simp)]
        exact (i_value_bytes g A n c b i d w h hi hd2 8 mm q hG mm (Lib.hid rfl) rfl rfl rfl (by omega) _ rfl).mono fun r w' hr => hr.read (q1 := q.toNat + mm) (by omega)
    rw [if_neg k78]
    have hk7 : (k == 7) = false := by simp; omega
    have hk8 : (k == 8) = false := by simp; omega
    by_cases k9 : k = 9
    · rw [if_pos (.inl k9)]
      have hmb := hgood.2.2.2.2.2 (by omega)
      have e : manyN k m = m.toNat := by unfold manyN; rw [if_neg (by omega)]
      rw [e]
      exact i_value_list g A n c b i d w h hi hd2 k m q hG hd.2 m.toNat (by omega) (Lib.hid (by omega)) hk4 hk7 hk8 (by simpa using k9) (by rw [k9]; rfl) (f + 1) (by omega) _ rfl hV
    by_cases k10 : k = 10
    · rw [if_pos (.inr k10)]
      have hmb := hgood.2.2.2.2.2 (by omega)
      have e : manyN k m = (2 * m).toNat := by unfold manyN; rw [if_pos k10]
      rw [e]
      exact i_value_map g A n c b i d w h hi hd2 k m q hG hd.2 (2 * m).toNat (by omega) (Lib.hid (by omega)) hk4 hk7 hk8 (by simpa using k9) (by simpa using k10) (f + 1) (by omega) _ rfl hV
    rw [if_neg (by omega)]
    exact (i_value_leaf g A n c b i d w h hi hd2 k m q hG hk4 hk7 hk8 (by simpa using k9) (by simpa using k10)).mono fun r w' hr => hr.read hq.symm
end Go.Proofs.YtmelnaidjgpclaaGreatDoor

namespace Go.Proofs.YtmelnaidjgpclaaGreatDoor
open Go.RowKit

set_option maxHeartbeats 4000000 in
theorem i_GetPacked (A : Option Addr) (n c : Nat) (b : List UInt8) (i d : Int) (w : World) (hs : Sl w w.heap.size 1 A n c (u8s b)) (hn : n ≤ 1048576) (hi : -9223372036854775808 ≤ i ∧ i ≤ 9223372036854775807) (hd : -9223372036854775808 ≤ d ∧ d ≤ 9223372036854775807) (hU : Lib.Utf8Tabs 0 1 w) :
    Calls Tryz.prog 28 #[.slice A n c, .int .i64 i, .int .i64 d] w fun r w' => GetRes w w' (resR (packR b i d)).1 (resP (packR b i d)) (resR (packR b i d)).2 r := by
  have hl := hs.blen
  have k2 := Below.two w (.cells #[.int .i64 0, .int .i64 0, .int .i64 0, .string ⟨#[]⟩, .slice none 0 0] 28) (.cells #[.slice A n c, .int .i64 i, .int .i64 0] 76)
  have hR : Blk ((w.alloc (.cells #[.int .i64 0, .int .i64 0, .int .i64 0, .string ⟨#[]⟩, .slice none 0 0] 28)).alloc (.cells #[.slice A n c, .int .i64 i, .int .i64 0] 76)) w.heap.size 28 #[.int .i64 0, .int .i64 0, .int .i64 0, .string ⟨#[]⟩, .slice none 0 0] := (Blk.new w _ _).alloc _
  have hG : Blk ((w.alloc (.cells #[.int .i64 0, .int .i64 0, .int .i64 0, .string ⟨#[]⟩, .slice none 0 0] 28)).alloc (.cells #[.slice A n c, .int .i64 i, .int .i64 0] 76)) (w.heap.size + 1) 76 #[.slice A n c, .int .i64 i, .int .i64 0] := by simpa using Blk.new (w.alloc (.cells #[.int .i64 0, .int .i64 0, .int .i64 0, .string ⟨#[]⟩, .slice none 0 0] 28)) 76 #[.slice A n c, .int .i64 i, .int .i64 0]
  have hT : PR ((w.alloc (.cells #[.int .i64 0, .int .i64 0, .int .i64 0, .string ⟨#[]⟩, .slice none 0 0] 28)).alloc (.cells #[.slice A n c, .int .i64 i, .int .i64 0] 76)) (w.heap.size + 1) A n c b i 0 := ⟨hG, (hs.below k2).more (Nat.le_succ _), hn⟩
  have HV := i_value (W := w) (Nat.le_succ _) hU (2 * b.length + 3) i d _ hT k2 (by omega) hi hd
  unfold packR
  obtain ⟨X, hXX⟩ : ∃ X, kV b (2 * b.length + 3) d i = X := ⟨_, rfl⟩
  rw [hXX] at HV ⊢
  clear hXX hs hl hU
  go_enter Tryz.func28, Tryz.ntmps28
  go_upto_region 2 with fail
  generalize (w.alloc (.cells #[.int .i64 0, .int .i64 0, .int .i64 0, .string ⟨#[]⟩, .slice none 0 0] 28)).alloc (.cells #[.slice A n c, .int .i64 i, .int .i64 0] 76) = wa at k2 hR hG hT HV ⊢
  go_upto_region 3 with (go_at_call 60; refine HV.mono ?_; rintro r w5 ⟨t, u, p', kc, rfl, hl5, ho5, hT5, hf5, hok⟩)
  have hzG : w.heap.size + 1 < wa.heap.size := hG.lt
  have kx := Below.one w5 (.cells #[.int .i64 t.k, .int .i64 t.n, .int .i64 t.x, .string t.s, .slice u.A u.n u.c] 28)
  have E1 := hT5.below kx hT5.blk.lt
  have E2 := (Blk.ofFr hR hf5 (by omega)).below kx (Blk.ofFr hR hf5 (by omega)).lt
  have EB := Blk.new w5 28 #[.int .i64 t.k, .int .i64 t.n, .int .i64 t.x, .string t.s, .slice u.A u.n u.c]
  have E3 := hl5.below (fun g hg => ho5.lt hg) kx
  have E4 := (ho5.below (fun g hg => ho5.lt hg) kx).mono (lo2 := w.heap.size + 2) hzG
  have E5 : Below w.heap.size w (w5.alloc (.cells #[.int .i64 t.k, .int .i64 t.n, .int .i64 t.x, .string t.s, .slice u.A u.n u.c] 28)) := k2.trans (((hf5.below (B := w.heap.size) (by simp) (by omega))).trans (kx.mono (Nat.le_trans (by omega) hf5.size)))
  have zb : w.heap.size + 1 < w5.heap.size := Nat.lt_of_lt_of_le hzG hf5.size
  generalize w5.heap.size = bx at EB zb ⊢
  generalize w5.alloc (.cells #[.int .i64 t.k, .int .i64 t.n, .int .i64 t.x, .string t.s, .slice u.A u.n u.c] 28) = wb at E1 E2 E3 E4 E5 EB ⊢
  clear hR hG hT k2 HV hl5 ho5 hT5 hf5 kx hzG
  obtain ⟨d0, d1, d2⟩ := E1.cells
  cases X with
  | bad cd =>
    obtain ⟨hkc, hc0⟩ := hok
    subst hkc

    have hcb : (kc != 0) = true := by simpa using hc0
    have hcb2 : (kc == 0) = false := by simpa using hc0
    have BZ := E2
    obtain ⟨x0, x1, x2, x3, x4, ⟨s0, t0⟩, ⟨s1, t1⟩, ⟨s2, t2⟩, ⟨s3, t3⟩, s4, t4⟩ := BZ.five (o := 0) (by simp) (.int .i64 0) (.int .i64 0) (.int .i64 0) (.string ⟨#[]⟩)
    go_wp2_with fail
    go_region
    go_wp2_with fail
    have hblk : Blk ((set5 wb w.heap.size 0 zeroT ⟨none, 0, 0, []⟩).drew) w.heap.size 28 _ := (Blk.five_ BZ zeroT ⟨none, 0, 0, []⟩).drew
    have hfr9 : Below w.heap.size w ((set5 wb w.heap.size 0 zeroT ⟨none, 0, 0, []⟩).drew) := (below_set5 E5 (Nat.le_refl _)).drew
    have hres := fun (tm : Array Value) (hp : tm.getD 6 undef = .pointer (some ⟨w.heap.size, 0, none⟩)) => results_blk3 (P := Tryz.prog) (tmps := tm) Tryz.results28 Tryz.isAgg28 (by exact Tryz.sizeOf28) hp hblk
    refine bodyPost_ret (hres _ rfl) rfl ?_
    exact ⟨⟨none, 0, 0, []⟩, rfl, LsAt.nil_ _ _, Own.nil_ _ _, hfr9⟩
  | good v0 q0 =>
    obtain ⟨rfl, rfl, rfl⟩ := hok

    have hn0 : w.heap.size ∉ u.fp := fun hx => by have := (E4.2 _ hx).1; omega
    have BZ := E2
    obtain ⟨x0, x1, x2, x3, x4, ⟨s0, t0⟩, ⟨s1, t1⟩, ⟨s2, t2⟩, ⟨s3, t3⟩, s4, t4⟩ := BZ.five (o := 0) (by simp) (.int .i64 t.k) (.int .i64 t.n) (.int .i64 t.x) (.string t.s)
    have v0 := EB.cell 0
    have v1 := EB.cell 1
    have v2 := EB.cell 2
    have v3 := EB.cell 3
    have v4 := EB.cell 4
    simp only [List.getElem?_toArray, List.getElem?_cons_succ, List.getElem?_cons_zero] at v0 v1 v2 v3 v4
    go_wp2_with fail
    go_region
    go_wp2_with fail
    have hblk : Blk ((set5 wb w.heap.size 0 t u).drew) w.heap.size 28 _ := (Blk.five_ BZ t u).drew
    have hls5 := E3.set5_ (e2 := u) (g := w.heap.size) (o := 0) (t := t) hn0
    have how5 := (E4.mono (lo2 := w.heap.size) (by omega)).set5_ (g := w.heap.size) (o := 0) (t := t) (e := u) hn0
    have hfr9 : Below w.heap.size w ((set5 wb w.heap.size 0 t u).drew) := (below_set5 E5 (Nat.le_refl _)).drew
    have hres := fun (tm : Array Value) (hp : tm.getD 6 undef = .pointer (some ⟨w.heap.size, 0, none⟩)) => results_blk3 (P := Tryz.prog) (tmps := tm) Tryz.results28 Tryz.isAgg28 (by exact Tryz.sizeOf28) hp hblk
    refine bodyPost_ret (hres _ rfl) rfl ?_
    have kd := (Below.refl (set5 wb w.heap.size 0 t u).heap.size (set5 wb w.heap.size 0 t u)).drew
    have hls6 := hls5.below (fun g hg => how5.lt hg) kd
    have how6 := how5.below (fun g hg => how5.lt hg) kd
    exact ⟨u, rfl, hls6, how6, hfr9⟩
theorem s_GetPacked (A : Option Addr) (n c : Nat) (b : List UInt8) (i d : Int) (w : World) (h : Sl w w.heap.size 1 A n c (u8s b)) (hn : n ≤ 1048576) (hi : -9223372036854775808 ≤ i ∧ i ≤ 9223372036854775807) (hd : -9223372036854775808 ≤ d ∧ d ≤ 9223372036854775807) :
    Calls Tryz.prog 25 #[.slice A n c, .int .i64 i, .int .i64 d] w fun r w' => GetRes w w' (resR (packR b i d)).1 (resP (packR b i d)) (resR (packR b i d)).2 r := by
  have hl := h.blen
  exact s_get hn (2 * b.length + 3) i d w h (Nat.le_refl _) (by omega) hi hd
end Go.Proofs.YtmelnaidjgpclaaGreatDoor

namespace Go.Proofs.YtmelnaidjgpclaaGreatDoor
open Go.RowKit

def ReadRes (w w' : World) (T : Tr) (cd : Int) (r : Ending) : Prop :=
  ∃ u, r = .returned (.tuple #[trV T u, .int .i64 cd]) ∧ LsAt w' T.l u ∧ Own w' w.heap.size u.fp ∧ Below w.heap.size w w'
noncomputable def readPacked (b : List UInt8) (d : Int) : Tr × Int := match packR b 0 d with
  | .bad c => (zeroT, c)
  | .good t q => if q = b.length then (t, 0) else (zeroT, 1)
theorem readPacked_cnt {b : List UInt8} (d : Int) : cntL (readPacked b d).1.l ≤ 4 * b.length := by
  have h := packR_cnt b 0 d
  unfold readPacked
  cases hx : packR b 0 d with
  | bad c => simp only [zeroT, leafTr, cntL_nil]; omega
  | good t q =>
    rw [hx] at h
    simp only [resR] at h ⊢
    split
    · exact h
    · simp only [zeroT, leafTr, cntL_nil]; omega
set_option maxHeartbeats 4000000 in
theorem i_ReadPacked (A : Option Addr) (n c : Nat) (b : List UInt8) (d : Int) (w : World) (hs : Sl w w.heap.size 1 A n c (u8s b)) (hn : n ≤ 1048576) (hd : -9223372036854775808 ≤ d ∧ d ≤ 9223372036854775807) (hU : Lib.Utf8Tabs 0 1 w) :
    Calls Tryz.prog 17 #[.slice A n c, .int .i64 d] w fun r w' => ReadRes w w' (readPacked b d).1 (readPacked b d).2 r := by
  have hl := hs.blen
  have K := Below.one w (.cells #[.int .i64 0, .int .i64 0, .int .i64 0, .string ⟨#[]⟩, .slice none 0 0] 28)
  have hR := Blk.new w 28 #[.int .i64 0, .int .i64 0, .int .i64 0, .string ⟨#[]⟩, .slice none 0 0]
  have HT := i_GetPacked A n c b 0 d (w.alloc (.cells #[.int .i64 0, .int .i64 0, .int .i64 0, .string ⟨#[]⟩, .slice none 0 0] 28)) ((hs.below K).more (by simp)) hn (by decide) hd (Utf8Tabs_below hU K)
  have hbad := fun c0 (h : packR b 0 d = .bad c0) => (kVM_bad b (2 * b.length + 3)).1 _ _ _ h
  have hgd := fun t0 q0 (h : packR b 0 d = .good t0 q0) => (fun d i t q (h : kV b (2 * b.length + 3) d i = .good t q) => ((kVM_good b (2 * b.length + 3)).1 d i t q h).2.2.1) _ _ _ _ h
  unfold GetRes at HT
  unfold ReadRes readPacked
  obtain ⟨X, hXX⟩ : ∃ X, packR b 0 d = X := ⟨_, rfl⟩
  rw [hXX] at HT ⊢
  rw [hXX] at hbad hgd
  clear hXX hs
  cases X with
  | bad kc =>
    have hc0 := hbad kc rfl
    have hcb : (kc != 0) = true := by simpa using hc0
    have hcb2 : (kc == 0) = false := by simpa using hc0
    simp only [resR, resP] at HT ⊢
    clear hbad hgd hl
    go_enter Tryz.func17, Tryz.ntmps17
    go_wp2_with (go_at_call 28; refine HT.mono ?_; rintro r w5 ⟨u, rfl, hl5, ho5, hb5⟩; have BZ := (hR.below hb5 hR.lt).below (Below.one w5 (.cells (valCells zeroT u) 28)) (hR.below hb5 hR.lt).lt; obtain ⟨x0, x1, x2, x3, x4, ⟨s0, t0⟩, ⟨s1, t1⟩, ⟨s2, t2⟩, ⟨s3, t3⟩, s4, t4⟩ := BZ.five (o := 0) (by simp) (.int .i64 0) (.int .i64 0) (.int .i64 0) (.string ⟨#[]⟩))
    have hblk : Blk (set5 (w5.alloc (.cells (valCells zeroT u) 28)) w.heap.size 0 zeroT ⟨none, 0, 0, []⟩) w.heap.size 28 _ := Blk.five_ BZ zeroT ⟨none, 0, 0, []⟩
    have hfr9 : Below w.heap.size w (set5 (w5.alloc (.cells (valCells zeroT u) 28)) w.heap.size 0 zeroT ⟨none, 0, 0, []⟩) := below_set5 ((K.up hb5).up (Below.one _ _)) (Nat.le_refl _)
    have hres := fun (tm : Array Value) (hp : tm.getD 4 undef = .pointer (some ⟨w.heap.size, 0, none⟩)) => results_blk2 (P := Tryz.prog) (tmps := tm) Tryz.results17 Tryz.isAgg28 (by exact Tryz.sizeOf28) hp hblk
    refine bodyPost_ret (hres _ rfl) rfl ?_
    exact ⟨⟨none, 0, 0, []⟩, rfl, LsAt.nil_ _ _, Own.nil_ _ _, hfr9⟩
  | good t q =>
    have hqn := hgd t q rfl
    simp only [resR, resP] at HT ⊢
    have h00 : ((0 : Int) == 0) = true := rfl
    have h01 : ((0 : Int) != 0) = false := rfl
    by_cases hq : q = b.length
    · rw [if_pos hq]
      have hlt : decide ((q : Int) < (n : Int)) = false := by simp; omega
      have hqi : (q : Int) = (n : Int) := by omega
      have hne : ((q : Int) != (n : Int)) = false := by simp; omega
      have hlt2 : ¬ (q : Int) < (n : Int) := by omega
      have hlt3 : ¬ q < n := by omega
      have hlt4 : decide (q < n) = false := by simp; omega
      have hne2 : (q != n) = false := by simp; omega
      clear hqi hbad hgd hqn hl
      go_enter Tryz.func17, Tryz.ntmps17
      go_wp2_with (go_at_call 28; refine HT.mono ?_; rintro r w5 ⟨u, rfl, hl5, ho5, hb5⟩; have kx := Below.one w5 (.cells (valCells t u) 28); have BZ := (hR.below hb5 hR.lt).below kx (hR.below hb5 hR.lt).lt; obtain ⟨x0, x1, x2, x3, x4, ⟨s0, t0⟩, ⟨s1, t1⟩, ⟨s2, t2⟩, ⟨s3, t3⟩, s4, t4⟩ := BZ.five (o := 0) (by simp) (.int .i64 t.k) (.int .i64 t.n) (.int .i64 t.x) (.string t.s); obtain ⟨v0, v1, v2, v3, v4⟩ := (Blk.new w5 28 (valCells t u)).boxV)
      have hn0 : w.heap.size ∉ u.fp := fun hx => by have := (ho5.2 _ hx).1; simp at this; omega
      have hblk : Blk (set5 (w5.alloc (.cells (valCells t u) 28)) w.heap.size 0 t u) w.heap.size 28 _ := Blk.five_ BZ t u
      have hls5 := (hl5.below (fun g hg => ho5.lt hg) kx).set5_ (e2 := u) (g := w.heap.size) (o := 0) (t := t) hn0
      have how5 := ((ho5.below (fun g hg => ho5.lt hg) kx).mono (lo2 := w.heap.size) (by simp)).set5_ (g := w.heap.size) (o := 0) (t := t) (e := u) hn0
      have hfr9 : Below w.heap.size w (set5 (w5.alloc (.cells (valCells t u) 28)) w.heap.size 0 t u) := below_set5 ((K.up hb5).up kx) (Nat.le_refl _)
      have hres := fun (tm : Array Value) (hp : tm.getD 4 undef = .pointer (some ⟨w.heap.size, 0, none⟩)) => results_blk2 (P := Tryz.prog) (tmps := tm) Tryz.results17 Tryz.isAgg28 (by exact Tryz.sizeOf28) hp hblk
      refine bodyPost_ret (hres _ rfl) rfl ?_
      exact ⟨u, rfl, hls5, how5, hfr9⟩
    · rw [if_neg hq]
      have hlt : decide ((q : Int) < (n : Int)) = true := by simp; omega
      have hne : ((q : Int) != (n : Int)) = true := by simp; omega
      have hlt2 : (q : Int) < (n : Int) := by omega
      have hlt3 : q < n := by omega
      have hlt4 : decide (q < n) = true := by simp; omega
      have hne2 : (q != n) = true := by simp; omega
      clear hbad hgd hqn hl
      go_enter Tryz.func17, Tryz.ntmps17
      go_wp2_with (go_at_call 28; refine HT.mono ?_; rintro r w5 ⟨u, rfl, hl5, ho5, hb5⟩; have BZ := (hR.below hb5 hR.lt).below (Below.one w5 (.cells (valCells t u) 28)) (hR.below hb5 hR.lt).lt; obtain ⟨x0, x1, x2, x3, x4, ⟨s0, t0⟩, ⟨s1, t1⟩, ⟨s2, t2⟩, ⟨s3, t3⟩, s4, t4⟩ := BZ.five (o := 0) (by simp) (.int .i64 0) (.int .i64 0) (.int .i64 0) (.string ⟨#[]⟩))
      have hblk : Blk (set5 (w5.alloc (.cells (valCells t u) 28)) w.heap.size 0 zeroT ⟨none, 0, 0, []⟩) w.heap.size 28 _ := Blk.five_ BZ zeroT ⟨none, 0, 0, []⟩
      have hfr9 : Below w.heap.size w (set5 (w5.alloc (.cells (valCells t u) 28)) w.heap.size 0 zeroT ⟨none, 0, 0, []⟩) := below_set5 ((K.up hb5).up (Below.one _ _)) (Nat.le_refl _)
      have hres := fun (tm : Array Value) (hp : tm.getD 4 undef = .pointer (some ⟨w.heap.size, 0, none⟩)) => results_blk2 (P := Tryz.prog) (tmps := tm) Tryz.results17 Tryz.isAgg28 (by exact Tryz.sizeOf28) hp hblk
      refine bodyPost_ret (hres _ rfl) rfl ?_
      exact ⟨⟨none, 0, 0, []⟩, rfl, LsAt.nil_ _ _, Own.nil_ _ _, hfr9⟩
set_option maxHeartbeats 4000000 in
theorem s_ReadPacked (A : Option Addr) (n c : Nat) (b : List UInt8) (d : Int) (w : World) (hs : Sl w w.heap.size 1 A n c (u8s b)) (hn : n ≤ 1048576) (hd : -9223372036854775808 ≤ d ∧ d ≤ 9223372036854775807) :
    Calls Tryz.prog 15 #[.slice A n c, .int .i64 d] w fun r w' => ReadRes w w' (readPacked b d).1 (readPacked b d).2 r := by
  have hl := hs.blen
  have K := Below.one w (.cells #[.int .i64 0, .int .i64 0, .int .i64 0, .string ⟨#[]⟩, .slice none 0 0] 28)
  have hR := Blk.new w 28 #[.int .i64 0, .int .i64 0, .int .i64 0, .string ⟨#[]⟩, .slice none 0 0]
  have HT := s_GetPacked A n c b 0 d (w.alloc (.cells #[.int .i64 0, .int .i64 0, .int .i64 0, .string ⟨#[]⟩, .slice none 0 0] 28)) ((hs.below K).more (by simp)) hn (by decide) hd
  have hbad := fun c0 (h : packR b 0 d = .bad c0) => (kVM_bad b (2 * b.length + 3)).1 _ _ _ h
  have hgd := fun t0 q0 (h : packR b 0 d = .good t0 q0) => (fun d i t q (h : kV b (2 * b.length + 3) d i = .good t q) => ((kVM_good b (2 * b.length + 3)).1 d i t q h).2.2.1) _ _ _ _ h
  unfold GetRes at HT
  unfold ReadRes readPacked
  obtain ⟨X, hXX⟩ : ∃ X, packR b 0 d = X := ⟨_, rfl⟩
  rw [hXX] at HT ⊢
  rw [hXX] at hbad hgd
  clear hXX hs
  cases X with
  | bad kc =>
    have hc0 := hbad kc rfl
    have hcb : (kc != 0) = true := by simpa using hc0
    have hcb2 : (kc == 0) = false := by simpa using hc0
    simp only [resR, resP] at HT ⊢
    clear hbad hgd hl
    go_enter Tryz.func15, Tryz.ntmps15
    go_wp2_with (go_at_call 25; refine HT.mono ?_; rintro r w5 ⟨u, rfl, hl5, ho5, hb5⟩; have BZ := (hR.below hb5 hR.lt).below (Below.one w5 (.cells (valCells zeroT u) 28)) (hR.below hb5 hR.lt).lt; obtain ⟨x0, x1, x2, x3, x4, ⟨s0, t0⟩, ⟨s1, t1⟩, ⟨s2, t2⟩, ⟨s3, t3⟩, s4, t4⟩ := BZ.five (o := 0) (by simp) (.int .i64 0) (.int .i64 0) (.int .i64 0) (.string ⟨#[]⟩))
    have hblk : Blk (set5 (w5.alloc (.cells (valCells zeroT u) 28)) w.heap.size 0 zeroT ⟨none, 0, 0, []⟩) w.heap.size 28 _ := Blk.five_ BZ zeroT ⟨none, 0, 0, []⟩
    have hfr9 : Below w.heap.size w (set5 (w5.alloc (.cells (valCells zeroT u) 28)) w.heap.size 0 zeroT ⟨none, 0, 0, []⟩) := below_set5 ((K.up hb5).up (Below.one _ _)) (Nat.le_refl _)
    have hres := fun (tm : Array Value) (hp : tm.getD 4 undef = .pointer (some ⟨w.heap.size, 0, none⟩)) => results_blk2 (P := Tryz.prog) (tmps := tm) Tryz.results15 Tryz.isAgg28 (by exact Tryz.sizeOf28) hp hblk
    refine bodyPost_ret (hres _ rfl) rfl ?_
    exact ⟨⟨none, 0, 0, []⟩, rfl, LsAt.nil_ _ _, Own.nil_ _ _, hfr9⟩
  | good t q =>
    have hqn := hgd t q rfl
    simp only [resR, resP] at HT ⊢
    have h00 : ((0 : Int) == 0) = true := rfl
    have h01 : ((0 : Int) != 0) = false := rfl
    by_cases hq : q = b.length
    · rw [if_pos hq]
      have hlt : decide ((q : Int) < (n : Int)) = false := by simp; omega
      have hqi : (q : Int) = (n : Int) := by omega
      have hne : ((q : Int) != (n : Int)) = false := by simp; omega
      have hlt2 : ¬ (q : Int) < (n : Int) := by omega
      have hlt3 : ¬ q < n := by omega
      have hlt4 : decide (q < n) = false := by simp; omega
      have hne2 : (q != n) = false := by simp; omega
      clear hqi hbad hgd hqn hl
      go_enter Tryz.func15, Tryz.ntmps15
      go_wp2_with (go_at_call 25; refine HT.mono ?_; rintro r w5 ⟨u, rfl, hl5, ho5, hb5⟩; have kx := Below.one w5 (.cells (valCells t u) 28); have BZ := (hR.below hb5 hR.lt).below kx (hR.below hb5 hR.lt).lt; obtain ⟨x0, x1, x2, x3, x4, ⟨s0, t0⟩, ⟨s1, t1⟩, ⟨s2, t2⟩, ⟨s3, t3⟩, s4, t4⟩ := BZ.five (o := 0) (by simp) (.int .i64 t.k) (.int .i64 t.n) (.int .i64 t.x) (.string t.s); obtain ⟨v0, v1, v2, v3, v4⟩ := (Blk.new w5 28 (valCells t u)).boxV)
      have hn0 : w.heap.size ∉ u.fp := fun hx => by have := (ho5.2 _ hx).1; simp at this; omega
      have hblk : Blk (set5 (w5.alloc (.cells (valCells t u) 28)) w.heap.size 0 t u) w.heap.size 28 _ := Blk.five_ BZ t u
      have hls5 := (hl5.below (fun g hg => ho5.lt hg) kx).set5_ (e2 := u) (g := w.heap.size) (o := 0) (t := t) hn0
      have how5 := ((ho5.below (fun g hg => ho5.lt hg) kx).mono (lo2 := w.heap.size) (by simp)).set5_ (g := w.heap.size) (o := 0) (t := t) (e := u) hn0
      have hfr9 : Below w.heap.size w (set5 (w5.alloc (.cells (valCells t u) 28)) w.heap.size 0 t u) := below_set5 ((K.up hb5).up kx) (Nat.le_refl _)
      have hres := fun (tm : Array Value) (hp : tm.getD 4 undef = .pointer (some ⟨w.heap.size, 0, none⟩)) => results_blk2 (P := Tryz.prog) (tmps := tm) Tryz.results15 Tryz.isAgg28 (by exact Tryz.sizeOf28) hp hblk
      refine bodyPost_ret (hres _ rfl) rfl ?_
      exact ⟨u, rfl, hls5, how5, hfr9⟩
    · rw [if_neg hq]
      have hlt : decide ((q : Int) < (n : Int)) = true := by simp; omega
      have hne : ((q : Int) != (n : Int)) = true := by simp; omega
      have hlt2 : (q : Int) < (n : Int) := by omega
      have hlt3 : q < n := by omega
      have hlt4 : decide (q < n) = true := by simp; omega
      have hne2 : (q != n) = true := by simp; omega
      clear hbad hgd hqn hl
      go_enter Tryz.func15, Tryz.ntmps15
      go_wp2_with (go_at_call 25; refine HT.mono ?_; rintro r w5 ⟨u, rfl, hl5, ho5, hb5⟩; have BZ := (hR.below hb5 hR.lt).below (Below.one w5 (.cells (valCells t u) 28)) (hR.below hb5 hR.lt).lt; obtain ⟨x0, x1, x2, x3, x4, ⟨s0, t0⟩, ⟨s1, t1⟩, ⟨s2, t2⟩, ⟨s3, t3⟩, s4, t4⟩ := BZ.five (o := 0) (by simp) (.int .i64 0) (.int .i64 0) (.int .i64 0) (.string ⟨#[]⟩))
      have hblk : Blk (set5 (w5.alloc (.cells (valCells t u) 28)) w.heap.size 0 zeroT ⟨none, 0, 0, []⟩) w.heap.size 28 _ := Blk.five_ BZ zeroT ⟨none, 0, 0, []⟩
      have hfr9 : Below w.heap.size w (set5 (w5.alloc (.cells (valCells t u) 28)) w.heap.size 0 zeroT ⟨none, 0, 0, []⟩) := below_set5 ((K.up hb5).up (Below.one _ _)) (Nat.le_refl _)
      have hres := fun (tm : Array Value) (hp : tm.getD 4 undef = .pointer (some ⟨w.heap.size, 0, none⟩)) => results_blk2 (P := Tryz.prog) (tmps := tm) Tryz.results15 Tryz.isAgg28 (by exact Tryz.sizeOf28) hp hblk
      refine bodyPost_ret (hres _ rfl) rfl ?_
      exact ⟨⟨none, 0, 0, []⟩, rfl, LsAt.nil_ _ _, Own.nil_ _ _, hfr9⟩
end Go.Proofs.YtmelnaidjgpclaaGreatDoor
