/- The program's reader of the packed format: value at a list, at a map. -/
import Derived.Test.YtmelnaidjgpclaaDoorGetPackK
import Derived.Test.YtmelnaidjgpclaaDoorRvFrg
set_option linter.unusedVariables false
set_option maxRecDepth 100000
set_option linter.unusedSimpArgs false
namespace Go.Proofs.YtmelnaidjgpclaaDoor
open Go.RowKit

theorem fr_bel {fp : List Nat} {w w1 w2 : World} {B : Nat} (h : Fr fp w w1) (hb : Below B w1 w2) (hB : w.heap.size ≤ B) : Fr fp w w2 :=
  ⟨hb.os.trans h.os, hb.tape.trans h.tape, hb.output.trans h.output, Nat.le_trans h.size hb.size, fun k hk hn => (hb.block k (Nat.lt_of_lt_of_le hk hB)).trans (h.block k hk hn)⟩
set_option maxHeartbeats 8000000 in
theorem i_value_list (g : Nat) (A : Option Addr) (n c : Nat) (b : List UInt8) (i d : Int) (w : World) (h : PR w g A n c b i 0) (hi : -9223372036854775808 ≤ i ∧ i ≤ 9223372036854775807) (hd : 1 ≤ d) (k m q : Int) (hG : getMark b i = (k, m, q, 0)) (d2 : d ≤ 9223372036854775807) (mn : Nat) (hmn : mn ≤ 131070) (hm : Hid (m = (mn : Int))) (hk4 : (k == 4) = false) (hk7 : (k == 7) = false) (hk8 : (k == 8) = false) (hk9 : (k == 9) = true) (hk10 : (k == 10) = false) (F1 : Nat) (hF1 : 2 * (n - q.toNat) + 4 ≤ F1) (R : RdL) (hR0 : kM b F1 d mn q.toNat [] = R) (hV : ∀ g0, g0 < F1 → ∀ (q0 : Nat) w1, PR w1 g A n c b q0 0 → Fr [g] w w1 → q0 ≤ n → 2 * (n - q0) + 3 ≤ g0 → Calls Tryd.prog 26 #[.pointer (some ⟨g, 0, none⟩), .int .i64 (d - 1)] w1 fun r w' => ReadP w1 w' g A n c b (kV b g0 (d - 1) q0) r) :
    Calls Tryd.prog 26 #[.pointer (some ⟨g, 0, none⟩), .int .i64 d] w fun r w' => ReadP w w' g A n c b (closeK k (0, 0, ⟨#[]⟩) R) r := by
  have hgood := getMark_good hG
  have k1 := Below.one w (.cells #[.int .i64 0, .int .i64 0, .int .i64 0, .string ⟨#[]⟩, .slice none 0 0] 25)
  have h1 := h.below k1 h.blk.lt
  have hZ := Blk.new w 25 #[.int .i64 0, .int .i64 0, .int .i64 0, .string ⟨#[]⟩, .slice none 0 0]
  have hgl := h.blk.lt
  have hbd := h.bd
  have hdd : decide (d < 1) = false := by simp; omega
  have hfr := Fr.of_below (fp := [g]) k1
  go_enter Tryd.func26, Tryd.ntmps26
  go_upto_region 3 with fail
  generalize w.alloc (.cells #[.int .i64 0, .int .i64 0, .int .i64 0, .string ⟨#[]⟩, .slice none 0 0] 25) = wd at h1 hZ hfr ⊢
  have zd := hZ.lt
  have zg : g < wd.heap.size := Nat.lt_trans hgl zd
  have HC := fun w1 (hb : Below wd.heap.size wd w1) => i_GetMark A n c b i w1 g ((h1.sl).below (hb.mono (Nat.le_of_lt zg))) (Nat.le_trans (Nat.le_of_lt zg) hb.size) hbd hi
  rw [hG] at HC
  unfold ret4 markRet at HC
  simp only at HC
  have kd := Below.one wd (.cells #[.int .i64 0, .int .i64 0] 38)
  have hFV := fun w6 (hb6 : Below (wd.alloc (.cells #[.int .i64 0, .int .i64 0] 38)).drew.heap.size (wd.alloc (.cells #[.int .i64 0, .int .i64 0] 38)).drew w6) => (((Blk.new wd 38 #[.int .i64 0, .int .i64 0]).drew).below hb6 (by simp)).two_ (.int .i64 k)
  have hC1 := HC _ (Below.refl _ _).drew
  have hC2 := HC _ kd.drew
  have hS0 : ∀ w', Below wd.heap.size wd w' → MarkS w' g A n c i ∧ Below wd.heap.size wd w' := fun w' hb => ⟨⟨((h1.below hb zg).cells).1, ((h1.below hb zg).cells).2.1⟩, hb⟩
  have hS1 := hS0 _ (Below.refl wd.heap.size wd).drew
  have hS2 := hS0 _ kd.drew
  have hS3 := fun w6 (h : Below wd.drew.heap.size wd.drew w6) => hS0 w6 ((Below.refl wd.heap.size wd).drew.up h)
  have hS4 := fun w6 (h : Below (wd.alloc (.cells #[.int .i64 0, .int .i64 0] 38)).drew.heap.size (wd.alloc (.cells #[.int .i64 0, .int .i64 0] 38)).drew w6) => hS0 w6 (kd.drew.up h)
  have hS5 := fun w6 (h : MarkS w6 g A n c i ∧ Below wd.heap.size wd w6) => hS0 _ (h.2.up (Below.one w6 (.cells #[.int .i64 0, .int .i64 0] 38)))
  have hS6 := fun w6 (h : MarkS w6 g A n c i ∧ Below wd.heap.size wd w6) => hS0 _ (h.2.up (Below.one w6 (.cells #[.int .i64 k, .int .i64 m] 38)))
  have hS7 := fun w6 (h : MarkS w6 g A n c i ∧ Below wd.heap.size wd w6) => hS0 _ ((h.2.setCell (p := ⟨wd.heap.size, 0, none⟩) (Nat.le_refl _) (.int .i64 k)).setCell (p := ⟨wd.heap.size, 1, none⟩) (Nat.le_refl _) (.int .i64 m))
  clear hS0 HC
  go_cut [5, 6, 7] from 17 (fun s5 s6 s7 w' => ∃ gf, s5 = .pointer (some ⟨gf, 0, none⟩) ∧ s6 = .int .i64 q ∧ s7 = .int .i64 0 ∧ MarkM w w' g A n c b i k m gf)
  case first =>
    go_region_held3 (fun w' => MarkS w' g A n c i ∧ Below wd.heap.size wd w')
      (with_reducible first | exact hS1 | exact hS2 | exact hS3 _ hb6 | exact hS4 _ hb6 | exact hS5 _ hk6 | exact hS6 _ hk6 | exact hS7 _ hk6)
      (first
        | (go_at_call 46; with_reducible refine hC1.mono ?_; rintro r w6 ⟨rfl, hb6⟩; have hk6 := hS3 _ hb6)
        | (go_at_call 46; with_reducible refine hC2.mono ?_; rintro r w6 ⟨rfl, hb6⟩; have hk6 := hS4 _ hb6; obtain ⟨x0, x1, ⟨s0, t0⟩, s1, t1⟩ := hFV _ hb6))
    all_goals
      go_wp2_with fail
      go_meet
      case rel =>
        first
        | exact ⟨_, rfl, rfl, rfl, mark_meet1 h1 hZ hfr hb6 zd zg⟩
        | exact ⟨_, rfl, rfl, rfl, mark_meet2 h1 hZ hfr hb6 zd zg⟩
  case rest =>
    obtain ⟨gm, rfl, rfl, rfl, hT6, Z6, M6, fr6, hgm⟩ := hcut
    clear h1 hZ hfr hFV hC1 hC2 hS1 hS2 hS3 hS4 hS5 hS6 hS7 kd zd zg h
    have gg : g < gm := by omega
    obtain ⟨c0, c1, c2⟩ := hT6.cells
    have f1 := hT6.blk.frozen 1
    have T7 := hT6.setAt q
    have Z7 := Z6.far (p := ⟨g, 1, none⟩) (by show w.heap.size ≠ g; omega) (.int .i64 q)
    have M7 := M6.far (p := ⟨g, 1, none⟩) (by show gm ≠ g; omega) (.int .i64 q)
    have fr7 := fr6.setCell (p := ⟨g, 1, none⟩) (by simp) (.int .i64 q)
    go_upto_region 7 with fail
    generalize wc.setCell ⟨g, 1, none⟩ (.int .i64 q) = wa at T7 Z7 M7 fr7 ⊢
    clear hT6 Z6 M6 fr6 c0 c1 c2 f1
    have e0 := M7.cell 0
    have e1 := M7.cell 1
    have a0 := (M7.alloc (.cells #[.int .i64 0, .int .i64 0, .int .i64 0, .string ⟨#[]⟩, .slice none 0 0] 25)).cell 0
    have a1 := (M7.alloc (.cells #[.int .i64 0, .int .i64 0, .int .i64 0, .string ⟨#[]⟩, .slice none 0 0] 25)).cell 1
    have v0 := (M7.alloc (.cells #[.int .i64 k, .int .i64 0, .int .i64 0, .string ⟨#[]⟩, .slice none 0 0] 25)).cell 0
    have v1 := (M7.alloc (.cells #[.int .i64 k, .int .i64 0, .int .i64 0, .string ⟨#[]⟩, .slice none 0 0] 25)).cell 1
    simp only [List.getElem?_toArray, List.getElem?_cons_succ, List.getElem?_cons_zero] at e0 e1 a0 a1 v0 v1
    go_region
    clear e0 e1 a0 a1 v0 v1
    have kv := (Below.one wa (.cells #[.int .i64 k, .int .i64 0, .int .i64 0, .string ⟨#[]⟩, .slice none 0 0] 25)).drew
    have T8 := T7.below kv T7.blk.lt
    have Z8 := Z7.below kv Z7.lt
    have M8 := M7.below kv M7.lt
    have V8 := (Blk.new wa 25 #[.int .i64 k, .int .i64 0, .int .i64 0, .string ⟨#[]⟩, .slice none 0 0]).drew
    have fr8 := fr7.trans (Fr.of_below kv)
    have zbv : gm < wa.heap.size := M7.lt
    clear T7 Z7 M7 fr7 kv
    generalize wa.heap.size = bv at V8 zbv ⊢
    generalize (wa.alloc (.cells #[.int .i64 k, .int .i64 0, .int .i64 0, .string ⟨#[]⟩, .slice none 0 0] 25)).drew = wb at T8 Z8 M8 V8 fr8 ⊢
    have e0 := M8.cell 0
    have e1 := M8.cell 1
    simp only [List.getElem?_toArray, List.getElem?_cons_succ, List.getElem?_cons_zero] at e0 e1
    obtain ⟨qn, rfl⟩ := Int.eq_ofNat_of_zero_le (show 0 ≤ q by omega)
    rw [Int.toNat_natCast] at hR0 hF1
    have HR0 := Lib.hid hR0
    have hbl := T8.sl.blen
    clear hR0
    go_wp2_with fail
    rw [hm.out]
    have RV0 := RV.nil_ wb (bv + 1)
    go_loopg [12, 129] mn (fun f' v12 v129 wr => ∃ (j q0 fq c' : Nat) (A' : Option Addr) (acc : List Tr) (es : List El), v129 = .int .i64 j ∧ j + f' = mn ∧ q0 ≤ n ∧ 2 * (n - q0) + 4 ≤ fq ∧ fq ≤ F1 ∧ Hid (kM b fq d f' q0 acc = R) ∧ PR wr g A n c b q0 0 ∧ Blk wr w.heap.size 25 #[.int .i64 0, .int .i64 0, .int .i64 0, .string ⟨#[]⟩, .slice none 0 0] ∧ Blk wr bv 25 #[.int .i64 k, .int .i64 0, .int .i64 0, .string ⟨#[]⟩, .slice A' j c'] ∧ RV wr (bv + 1) A' j c' acc es ∧ Fr [g] w wr)
    case atStart => exact ⟨0, qn, F1, 0, none, [], [], rfl, by omega, by omega, by omega, Nat.le_refl _, HR0, T8, Z8, V8, RV0, fr8⟩
    case round =>
      obtain ⟨j, q0, fq, c', A', acc, es, rfl, hjf, hq0, hfq, hfqF, hP, hT, hZ0, hO, hRV, hfr0⟩ := hrel
      clear HR0 T8 Z8 V8 RV0 fr8 M8 e0 e1
      obtain ⟨g0, rfl⟩ : ∃ z, fq = z + 1 := ⟨fq - 1, by omega⟩
      by_cases hlt : j < mn
      · obtain ⟨f0, rfl⟩ : ∃ z, gk = z + 1 := ⟨gk - 1, by omega⟩
        have hk1 : IntKind.i64.wrap (d - 1) = d - 1 := by rw [IntKind.wrap_i64]; omega
        have HV := hV g0 (by omega) q0 wr hT hfr0 hq0 (by omega)
        obtain ⟨X, hX⟩ : ∃ X, kV b g0 (d - 1) q0 = X := ⟨_, rfl⟩
        have hP2 := hP.out
        rw [kM] at hP2
        rw [hX] at HV hP2
        have hXg : ∀ v q', X = .good v q' → q0 < q' ∧ q' ≤ n := fun v q' he => by have := (kVM_good b g0).1 _ _ _ _ (hX.trans he); rw [Int.toNat_natCast] at this; omega
        clear hX hP hV
        have hlo : bv + 1 ≤ wr.heap.size := hO.lt
        have hnm : j + 1 ≤ 1099511627776 := by omega
        go_upto_region 30 with (go_at_call 26; refine HV.mono ?_; rintro r w5 ⟨t, u, p', kc, rfl, hl5, ho5, hT5, hf5, hok⟩)
        have kx := Below.one w5 (.cells #[.int .i64 t.k, .int .i64 t.n, .int .i64 t.x, .string t.s, .slice u.A u.n u.c] 25)
        have T6 := hT5.below kx hT5.blk.lt
        have Z6 := (Blk.ofFr hZ0 hf5 (by omega)).below kx (Blk.ofFr hZ0 hf5 (by omega)).lt
        have O6 := (Blk.ofFr hO hf5 (by omega)).below kx (Blk.ofFr hO hf5 (by omega)).lt
        have V6 := (hRV.frg hf5 (by omega)).below kx
        have l6 := hl5.below (fun g hg => ho5.lt hg) kx
        have o6 := (ho5.below (fun g hg => ho5.lt hg) kx).mono (lo2 := bv + 1) hlo
        have hdd := hRV.newOwn ho5
        have X6 := Blk.new w5 25 #[.int .i64 t.k, .int .i64 t.n, .int .i64 t.x, .string t.s, .slice u.A u.n u.c]
        have F6 := (hfr0.trans hf5).trans (Fr.of_below kx)
        generalize w5.heap.size = bx at X6 ⊢
        generalize w5.alloc (.cells #[.int .i64 t.k, .int .i64 t.n, .int .i64 t.x, .string t.s, .slice u.A u.n u.c] 25) = w6 at T6 Z6 O6 V6 l6 o6 X6 F6 ⊢
        clear hT hZ0 hO hRV hfr0 HV hl5 ho5 hT5 hf5 kx
        obtain ⟨d0, d1, d2'⟩ := T6.cells
        cases X with
        | bad c0 =>
          obtain ⟨hkc, hc0⟩ := hok
          rw [← hkc] at hc0 hP2
          have HP := Lib.hid hP2
          have hcb : (kc != 0) = true := by simpa using hc0
          obtain ⟨x0, x1, x2, x3, x4, ⟨s0, t0⟩, ⟨s1, t1⟩, ⟨s2, t2⟩, ⟨s3, t3⟩, s4, t4⟩ := Z6.five (o := 0) (by simp) (.int .i64 0) (.int .i64 0) (.int .i64 0) (.string ⟨#[]⟩)
          clear hP2 hkc hXg
          go_wp2_with fail
          have hblk : Blk (set5 w6 w.heap.size 0 zeroT ⟨none, 0, 0, []⟩) w.heap.size 25 _ := Blk.five_ Z6 zeroT ⟨none, 0, 0, []⟩
          have hTR3 := T6.set5_ (g2 := w.heap.size) (o := 0) (t := zeroT) (e := ⟨none, 0, 0, []⟩) hgl
          have hfr3 : Fr [g] w (set5 w6 w.heap.size 0 zeroT ⟨none, 0, 0, []⟩) := fr_new5 F6 (Nat.le_refl _)
          have hres := fun (tm : Array Value) (hp : tm.getD 4 undef = .pointer (some ⟨w.heap.size, 0, none⟩)) => results_blk (P := Tryd.prog) (tmps := tm) Tryd.results26 Tryd.isAgg25 (by exact Tryd.sizeOf25) hp hblk
          refine bodyPost_ret (hres _ rfl) rfl ?_
          rw [← HP.out]
          exact ⟨zeroT, ⟨none, 0, 0, []⟩, p', kc, rfl, LsAt.nil_ _ _, Own.nil_ _ _, hTR3, hfr3, rfl, hc0⟩
        | good v q' =>
          obtain ⟨rfl, rfl, rfl⟩ := hok
          obtain ⟨hqa, hqb⟩ := hXg t q' rfl
          have HP : Hid (kM b g0 d f0 q' (acc ++ [t]) = R) := Lib.hid hP2
          clear hP2 hXg
          have zb5 : bv + 1 ≤ w6.heap.size := O6.lt
          have p5 := O6.cell 4
          have v0 := X6.cell 0
          have v1 := X6.cell 1
          have v2 := X6.cell 2
          have v3 := X6.cell 3
          have v4 := X6.cell 4
          simp only [List.getElem?_toArray, List.getElem?_cons_succ, List.getElem?_cons_zero] at v0 v1 v2 v3 v4 p5
          go_upto_region 33 with (at_builtin; refine app_val rfl _ _ rfl V6 rfl (by first | rfl | simp) rfl l6 o6 hdd hnm zb5 ?_; intro A3 c3 w7 h7 hb7 hg7; have O7 := O6.below hb7 (by omega); have p7 := O7.cell 4; have f7 := O7.frozen 4; simp only [List.getElem?_toArray, List.getElem?_cons_succ, List.getElem?_cons_zero] at p7)
          have T7 := T6.below hb7 (by omega)
          have T8 : PR (w7.setCell ⟨bv, 4, none⟩ (.slice A3 (j + 1) c3)) g A n c b q' 0 := ⟨T7.blk.far (p := ⟨bv, 4, none⟩) (by show g ≠ bv; omega) _, T7.sl.setCell (p := ⟨bv, 4, none⟩) (by show g ≤ bv; omega) _, T7.bd⟩
          have Z8 := (Z6.below hb7 (by omega)).far (p := ⟨bv, 4, none⟩) (by show w.heap.size ≠ bv; omega) (.slice A3 (j + 1) c3)
          have O8 : Blk (w7.setCell ⟨bv, 4, none⟩ (.slice A3 (j + 1) c3)) bv 25 #[.int .i64 k, .int .i64 0, .int .i64 0, .string ⟨#[]⟩, .slice A3 (j + 1) c3] := by simpa using O7.set_ 4 (.slice A3 (j + 1) c3)
          have V8 := h7.frg (g := bv) ((Fr.refl [bv] w7).setCell (p := ⟨bv, 4, none⟩) (by simp) (.slice A3 (j + 1) c3)) (Nat.lt_succ_self _)
          have F8 : Fr [g] w (w7.setCell ⟨bv, 4, none⟩ (.slice A3 (j + 1) c3)) := fr_new (q := ⟨bv, 4, none⟩) (fr_bel F6 hb7 (by omega)) (by show w.heap.size ≤ bv; omega) _
          generalize w7.setCell ⟨bv, 4, none⟩ (.slice A3 (j + 1) c3) = w8 at T8 Z8 O8 V8 F8 ⊢
          clear T6 Z6 O6 V6 l6 o6 X6 F6 hdd zb5 p5 v0 v1 v2 v3 v4 h7 hb7 hg7 O7 p7 f7 T7 d0 d1 d2'
          go_wp2_with fail
          go_roundg f0
          case measure => omega
          case rel => exact ⟨j + 1, q', g0, c3, A3, acc ++ [t], es ++ [u], by go_num, by omega, by omega, by omega, by omega, HP, T8, Z8, O8, V8, F8⟩
      · obtain rfl : gk = 0 := by omega
        obtain rfl : j = mn := by omega
        have hP2 := hP.out
        rw [kM] at hP2
        have HP := Lib.hid hP2
        have b0 := hO.cell 0
        have b1 := hO.cell 1
        have b2 := hO.cell 2
        have b3 := hO.cell 3
        have b4 := hO.cell 4
        simp only [List.getElem?_toArray, List.getElem?_cons_succ, List.getElem?_cons_zero] at b0 b1 b2 b3 b4
        obtain ⟨x0, x1', x2, x3, x4, ⟨s0, t0⟩, ⟨s1, t1⟩, ⟨s2, t2⟩, ⟨s3, t3⟩, s4, t4⟩ := hZ0.five (o := 0) (by simp) (.int .i64 k) (.int .i64 0) (.int .i64 0) (.string ⟨#[]⟩)
        clear hP hP2 hV hm
        go_wp2_with fail
        obtain ⟨fp, hls, hown, _⟩ := hRV.list hRV.cap.1 hRV.cap.2
        have hn0 : w.heap.size ∉ fp := fun hx => by have := (hown.2 _ hx).1; omega
        have hblk : Blk (set5 wr w.heap.size 0 ⟨k, 0, 0, ⟨#[]⟩, acc⟩ ⟨A', j, c', fp⟩) w.heap.size 25 _ := Blk.five_ hZ0 ⟨k, 0, 0, ⟨#[]⟩, acc⟩ ⟨A', j, c', fp⟩
        have hTR3 := hT.set5_ (g2 := w.heap.size) (o := 0) (t := ⟨k, 0, 0, ⟨#[]⟩, acc⟩) (e := ⟨A', j, c', fp⟩) hgl
        have hfr3 : Fr [g] w (set5 wr w.heap.size 0 ⟨k, 0, 0, ⟨#[]⟩, acc⟩ ⟨A', j, c', fp⟩) := fr_new5 hfr0 (Nat.le_refl _)
        have hls5 := hls.set5_ (e2 := ⟨A', j, c', fp⟩) (g := w.heap.size) (o := 0) (t := ⟨k, 0, 0, ⟨#[]⟩, acc⟩) hn0
        have how5 := (hown.mono (lo2 := w.heap.size) (by omega)).set5_ (g := w.heap.size) (o := 0) (t := ⟨k, 0, 0, ⟨#[]⟩, acc⟩) (e := ⟨A', j, c', fp⟩) hn0
        have hres := fun (tm : Array Value) (hp : tm.getD 4 undef = .pointer (some ⟨w.heap.size, 0, none⟩)) => results_blk (P := Tryd.prog) (tmps := tm) Tryd.results26 Tryd.isAgg25 (by exact Tryd.sizeOf25) hp hblk
        refine bodyPost_ret (hres _ rfl) rfl ?_
        rw [← HP.out]
        exact ⟨⟨k, 0, 0, ⟨#[]⟩, acc⟩, ⟨A', j, c', fp⟩, q0, 0, rfl, hls5, how5, hTR3, hfr3, rfl, rfl, rfl⟩
set_option maxHeartbeats 8000000 in
theorem i_value_map (g : Nat) (A : Option Addr) (n c : Nat) (b : List UInt8) (i d : Int) (w : World) (h : PR w g A n c b i 0) (hi : -9223372036854775808 ≤ i ∧ i ≤ 9223372036854775807) (hd : 1 ≤ d) (k m q : Int) (hG : getMark b i = (k, m, q, 0)) (d2 : d ≤ 9223372036854775807) (mn : Nat) (hmn : mn ≤ 131070) (hm : Hid (m * 2 = (mn : Int))) (hk4 : (k == 4) = false) (hk7 : (k == 7) = false) (hk8 : (k == 8) = false) (hk9 : (k == 9) = false) (hk10 : (k == 10) = true) (F1 : Nat) (hF1 : 2 * (n - q.toNat) + 4 ≤ F1) (R : RdL) (hR0 : kM b F1 d mn q.toNat [] = R) (hV : ∀ g0, g0 < F1 → ∀ (q0 : Nat) w1, PR w1 g A n c b q0 0 → Fr [g] w w1 → q0 ≤ n → 2 * (n - q0) + 3 ≤ g0 → Calls Tryd.prog 26 #[.pointer (some ⟨g, 0, none⟩), .int .i64 (d - 1)] w1 fun r w' => ReadP w1 w' g A n c b (kV b g0 (d - 1) q0) r) :
    Calls Tryd.prog 26 #[.pointer (some ⟨g, 0, none⟩), .int .i64 d] w fun r w' => ReadP w w' g A n c b (closeK k (0, 0, ⟨#[]⟩) R) r := by
  have hgood := getMark_good hG
  have k1 := Below.one w (.cells #[.int .i64 0, .int .i64 0, .int .i64 0, .string ⟨#[]⟩, .slice none 0 0] 25)
  have h1 := h.below k1 h.blk.lt
  have hZ := Blk.new w 25 #[.int .i64 0, .int .i64 0, .int .i64 0, .string ⟨#[]⟩, .slice none 0 0]
  have hgl := h.blk.lt
  have hbd := h.bd
  have hdd : decide (d < 1) = false := by simp; omega
  have hfr := Fr.of_below (fp := [g]) k1
  go_enter Tryd.func26, Tryd.ntmps26
  go_upto_region 3 with fail
  generalize w.alloc (.cells #[.int .i64 0, .int .i64 0, .int .i64 0, .string ⟨#[]⟩, .slice none 0 0] 25) = wd at h1 hZ hfr ⊢
  have zd := hZ.lt
  have zg : g < wd.heap.size := Nat.lt_trans hgl zd
  have HC := fun w1 (hb : Below wd.heap.size wd w1) => i_GetMark A n c b i w1 g ((h1.sl).below (hb.mono (Nat.le_of_lt zg))) (Nat.le_trans (Nat.le_of_lt zg) hb.size) hbd hi
  rw [hG] at HC
  unfold ret4 markRet at HC
  simp only at HC
  have kd := Below.one wd (.cells #[.int .i64 0, .int .i64 0] 38)
  have hFV := fun w6 (hb6 : Below (wd.alloc (.cells #[.int .i64 0, .int .i64 0] 38)).drew.heap.size (wd.alloc (.cells #[.int .i64 0, .int .i64 0] 38)).drew w6) => (((Blk.new wd 38 #[.int .i64 0, .int .i64 0]).drew).below hb6 (by simp)).two_ (.int .i64 k)
  have hC1 := HC _ (Below.refl _ _).drew
  have hC2 := HC _ kd.drew
  have hS0 : ∀ w', Below wd.heap.size wd w' → MarkS w' g A n c i ∧ Below wd.heap.size wd w' := fun w' hb => ⟨⟨((h1.below hb zg).cells).1, ((h1.below hb zg).cells).2.1⟩, hb⟩
  have hS1 := hS0 _ (Below.refl wd.heap.size wd).drew
  have hS2 := hS0 _ kd.drew
  have hS3 := fun w6 (h : Below wd.drew.heap.size wd.drew w6) => hS0 w6 ((Below.refl wd.heap.size wd).drew.up h)
  have hS4 := fun w6 (h : Below (wd.alloc (.cells #[.int .i64 0, .int .i64 0] 38)).drew.heap.size (wd.alloc (.cells #[.int .i64 0, .int .i64 0] 38)).drew w6) => hS0 w6 (kd.drew.up h)
  have hS5 := fun w6 (h : MarkS w6 g A n c i ∧ Below wd.heap.size wd w6) => hS0 _ (h.2.up (Below.one w6 (.cells #[.int .i64 0, .int .i64 0] 38)))
  have hS6 := fun w6 (h : MarkS w6 g A n c i ∧ Below wd.heap.size wd w6) => hS0 _ (h.2.up (Below.one w6 (.cells #[.int .i64 k, .int .i64 m] 38)))
  have hS7 := fun w6 (h : MarkS w6 g A n c i ∧ Below wd.heap.size wd w6) => hS0 _ ((h.2.setCell (p := ⟨wd.heap.size, 0, none⟩) (Nat.le_refl _) (.int .i64 k)).setCell (p := ⟨wd.heap.size, 1, none⟩) (Nat.le_refl _) (.int .i64 m))
  clear hS0 HC
  go_cut [5, 6, 7] from 17 (fun s5 s6 s7 w' => ∃ gf, s5 = .pointer (some ⟨gf, 0, none⟩) ∧ s6 = .int .i64 q ∧ s7 = .int .i64 0 ∧ MarkM w w' g A n c b i k m gf)
  case first =>
    go_region_held3 (fun w' => MarkS w' g A n c i ∧ Below wd.heap.size wd w')
      (with_reducible first | exact hS1 | exact hS2 | exact hS3 _ hb6 | exact hS4 _ hb6 | exact hS5 _ hk6 | exact hS6 _ hk6 | exact hS7 _ hk6)
      (first
        | (go_at_call 46; with_reducible refine hC1.mono ?_; rintro r w6 ⟨rfl, hb6⟩; have hk6 := hS3 _ hb6)
        | (go_at_call 46; with_reducible refine hC2.mono ?_; rintro r w6 ⟨rfl, hb6⟩; have hk6 := hS4 _ hb6; obtain ⟨x0, x1, ⟨s0, t0⟩, s1, t1⟩ := hFV _ hb6))
    all_goals
      go_wp2_with fail
      go_meet
      case rel =>
        first
        | exact ⟨_, rfl, rfl, rfl, mark_meet1 h1 hZ hfr hb6 zd zg⟩
        | exact ⟨_, rfl, rfl, rfl, mark_meet2 h1 hZ hfr hb6 zd zg⟩
  case rest =>
    obtain ⟨gm, rfl, rfl, rfl, hT6, Z6, M6, fr6, hgm⟩ := hcut
    clear h1 hZ hfr hFV hC1 hC2 hS1 hS2 hS3 hS4 hS5 hS6 hS7 kd zd zg h
    have gg : g < gm := by omega
    obtain ⟨c0, c1, c2⟩ := hT6.cells
    have f1 := hT6.blk.frozen 1
    have T7 := hT6.setAt q
    have Z7 := Z6.far (p := ⟨g, 1, none⟩) (by show w.heap.size ≠ g; omega) (.int .i64 q)
    have M7 := M6.far (p := ⟨g, 1, none⟩) (by show gm ≠ g; omega) (.int .i64 q)
    have fr7 := fr6.setCell (p := ⟨g, 1, none⟩) (by simp) (.int .i64 q)
    go_upto_region 7 with fail
    generalize wc.setCell ⟨g, 1, none⟩ (.int .i64 q) = wa at T7 Z7 M7 fr7 ⊢
    clear hT6 Z6 M6 fr6 c0 c1 c2 f1
    have e0 := M7.cell 0
    have e1 := M7.cell 1
    have a0 := (M7.alloc (.cells #[.int .i64 0, .int .i64 0, .int .i64 0, .string ⟨#[]⟩, .slice none 0 0] 25)).cell 0
    have a1 := (M7.alloc (.cells #[.int .i64 0, .int .i64 0, .int .i64 0, .string ⟨#[]⟩, .slice none 0 0] 25)).cell 1
    have v0 := (M7.alloc (.cells #[.int .i64 k, .int .i64 0, .int .i64 0, .string ⟨#[]⟩, .slice none 0 0] 25)).cell 0
    have v1 := (M7.alloc (.cells #[.int .i64 k, .int .i64 0, .int .i64 0, .string ⟨#[]⟩, .slice none 0 0] 25)).cell 1
    simp only [List.getElem?_toArray, List.getElem?_cons_succ, List.getElem?_cons_zero] at e0 e1 a0 a1 v0 v1
    go_region
    clear e0 e1 a0 a1 v0 v1
    have kv := (Below.one wa (.cells #[.int .i64 k, .int .i64 0, .int .i64 0, .string ⟨#[]⟩, .slice none 0 0] 25)).drew
    have T8 := T7.below kv T7.blk.lt
    have Z8 := Z7.below kv Z7.lt
    have M8 := M7.below kv M7.lt
    have V8 := (Blk.new wa 25 #[.int .i64 k, .int .i64 0, .int .i64 0, .string ⟨#[]⟩, .slice none 0 0]).drew
    have fr8 := fr7.trans (Fr.of_below kv)
    have zbv : gm < wa.heap.size := M7.lt
    clear T7 Z7 M7 fr7 kv
    generalize wa.heap.size = bv at V8 zbv ⊢
    generalize (wa.alloc (.cells #[.int .i64 k, .int .i64 0, .int .i64 0, .string ⟨#[]⟩, .slice none 0 0] 25)).drew = wb at T8 Z8 M8 V8 fr8 ⊢
    have e0 := M8.cell 0
    have e1 := M8.cell 1
    simp only [List.getElem?_toArray, List.getElem?_cons_succ, List.getElem?_cons_zero] at e0 e1
    obtain ⟨qn, rfl⟩ := Int.eq_ofNat_of_zero_le (show 0 ≤ q by omega)
    rw [Int.toNat_natCast] at hR0 hF1
    have HR0 := Lib.hid hR0
    have hbl := T8.sl.blen
    clear hR0
    have hw2 : IntKind.i64.wrap (m * 2) = m * 2 := by have h9 := hm.out; rw [IntKind.wrap_i64]; omega
    go_wp2_with fail
    rw [hm.out]
    have RV0 := RV.nil_ wb (bv + 1)
    go_loopg [12, 129] mn (fun f' v12 v129 wr => ∃ (j q0 fq c' : Nat) (A' : Option Addr) (acc : List Tr) (es : List El), v129 = .int .i64 j ∧ j + f' = mn ∧ q0 ≤ n ∧ 2 * (n - q0) + 4 ≤ fq ∧ fq ≤ F1 ∧ Hid (kM b fq d f' q0 acc = R) ∧ PR wr g A n c b q0 0 ∧ Blk wr w.heap.size 25 #[.int .i64 0, .int .i64 0, .int .i64 0, .string ⟨#[]⟩, .slice none 0 0] ∧ Blk wr bv 25 #[.int .i64 k, .int .i64 0, .int .i64 0, .string ⟨#[]⟩, .slice A' j c'] ∧ RV wr (bv + 1) A' j c' acc es ∧ Fr [g] w wr)
    case atStart => exact ⟨0, qn, F1, 0, none, [], [], rfl, by omega, by omega, by omega, Nat.le_refl _, HR0, T8, Z8, V8, RV0, fr8⟩
    case round =>
      obtain ⟨j, q0, fq, c', A', acc, es, rfl, hjf, hq0, hfq, hfqF, hP, hT, hZ0, hO, hRV, hfr0⟩ := hrel
      clear HR0 T8 Z8 V8 RV0 fr8 M8 e0 e1
      obtain ⟨g0, rfl⟩ : ∃ z, fq = z + 1 := ⟨fq - 1, by omega⟩
      by_cases hlt : j < mn
      · obtain ⟨f0, rfl⟩ : ∃ z, gk = z + 1 := ⟨gk - 1, by omega⟩
        have hk1 : IntKind.i64.wrap (d - 1) = d - 1 := by rw [IntKind.wrap_i64]; omega
        have HV := hV g0 (by omega) q0 wr hT hfr0 hq0 (by omega)
        obtain ⟨X, hX⟩ : ∃ X, kV b g0 (d - 1) q0 = X := ⟨_, rfl⟩
        have hP2 := hP.out
        rw [kM] at hP2
        rw [hX] at HV hP2
        have hXg : ∀ v q', X = .good v q' → q0 < q' ∧ q' ≤ n := fun v q' he => by have := (kVM_good b g0).1 _ _ _ _ (hX.trans he); rw [Int.toNat_natCast] at this; omega
        clear hX hP hV
        have hlo : bv + 1 ≤ wr.heap.size := hO.lt
        have hnm : j + 1 ≤ 1099511627776 := by omega
        go_upto_region 30 with (go_at_call 26; refine HV.mono ?_; rintro r w5 ⟨t, u, p', kc, rfl, hl5, ho5, hT5, hf5, hok⟩)
        have kx := Below.one w5 (.cells #[.int .i64 t.k, .int .i64 t.n, .int .i64 t.x, .string t.s, .slice u.A u.n u.c] 25)
        have T6 := hT5.below kx hT5.blk.lt
        have Z6 := (Blk.ofFr hZ0 hf5 (by omega)).below kx (Blk.ofFr hZ0 hf5 (by omega)).lt
        have O6 := (Blk.ofFr hO hf5 (by omega)).below kx (Blk.ofFr hO hf5 (by omega)).lt
        have V6 := (hRV.frg hf5 (by omega)).below kx
        have l6 := hl5.below (fun g hg => ho5.lt hg) kx
        have o6 := (ho5.below (fun g hg => ho5.lt hg) kx).mono (lo2 := bv + 1) hlo
        have hdd := hRV.newOwn ho5
        have X6 := Blk.new w5 25 #[.int .i64 t.k, .int .i64 t.n, .int .i64 t.x, .string t.s, .slice u.A u.n u.c]
        have F6 := (hfr0.trans hf5).trans (Fr.of_below kx)
        generalize w5.heap.size = bx at X6 ⊢
        generalize w5.alloc (.cells #[.int .i64 t.k, .int .i64 t.n, .int .i64 t.x, .string t.s, .slice u.A u.n u.c] 25) = w6 at T6 Z6 O6 V6 l6 o6 X6 F6 ⊢
        clear hT hZ0 hO hRV hfr0 HV hl5 ho5 hT5 hf5 kx
        obtain ⟨d0, d1, d2'⟩ := T6.cells
        cases X with
        | bad c0 =>
          obtain ⟨hkc, hc0⟩ := hok
          rw [← hkc] at hc0 hP2
          have HP := Lib.hid hP2
          have hcb : (kc != 0) = true := by simpa using hc0
          obtain ⟨x0, x1, x2, x3, x4, ⟨s0, t0⟩, ⟨s1, t1⟩, ⟨s2, t2⟩, ⟨s3, t3⟩, s4, t4⟩ := Z6.five (o := 0) (by simp) (.int .i64 0) (.int .i64 0) (.int .i64 0) (.string ⟨#[]⟩)
          clear hP2 hkc hXg
          go_wp2_with fail
          have hblk : Blk (set5 w6 w.heap.size 0 zeroT ⟨none, 0, 0, []⟩) w.heap.size 25 _ := Blk.five_ Z6 zeroT ⟨none, 0, 0, []⟩
          have hTR3 := T6.set5_ (g2 := w.heap.size) (o := 0) (t := zeroT) (e := ⟨none, 0, 0, []⟩) hgl
          have hfr3 : Fr [g] w (set5 w6 w.heap.size 0 zeroT ⟨none, 0, 0, []⟩) := fr_new5 F6 (Nat.le_refl _)
          have hres := fun (tm : Array Value) (hp : tm.getD 4 undef = .pointer (some ⟨w.heap.size, 0, none⟩)) => results_blk (P := Tryd.prog) (tmps := tm) Tryd.results26 Tryd.isAgg25 (by exact Tryd.sizeOf25) hp hblk
          refine bodyPost_ret (hres _ rfl) rfl ?_
          rw [← HP.out]
          exact ⟨zeroT, ⟨none, 0, 0, []⟩, p', kc, rfl, LsAt.nil_ _ _, Own.nil_ _ _, hTR3, hfr3, rfl, hc0⟩
        | good v q' =>
          obtain ⟨rfl, rfl, rfl⟩ := hok
          obtain ⟨hqa, hqb⟩ := hXg t q' rfl
          have HP : Hid (kM b g0 d f0 q' (acc ++ [t]) = R) := Lib.hid hP2
          clear hP2 hXg
          have zb5 : bv + 1 ≤ w6.heap.size := O6.lt
          have p5 := O6.cell 4
          have v0 := X6.cell 0
          have v1 := X6.cell 1
          have v2 := X6.cell 2
          have v3 := X6.cell 3
          have v4 := X6.cell 4
          simp only [List.getElem?_toArray, List.getElem?_cons_succ, List.getElem?_cons_zero] at v0 v1 v2 v3 v4 p5
          go_upto_region 33 with (at_builtin; refine app_val rfl _ _ rfl V6 rfl (by first | rfl | simp) rfl l6 o6 hdd hnm zb5 ?_; intro A3 c3 w7 h7 hb7 hg7; have O7 := O6.below hb7 (by omega); have p7 := O7.cell 4; have f7 := O7.frozen 4; simp only [List.getElem?_toArray, List.getElem?_cons_succ, List.getElem?_cons_zero] at p7)
          have T7 := T6.below hb7 (by omega)
          have T8 : PR (w7.setCell ⟨bv, 4, none⟩ (.slice A3 (j + 1) c3)) g A n c b q' 0 := ⟨T7.blk.far (p := ⟨bv, 4, none⟩) (by show g ≠ bv; omega) _, T7.sl.setCell (p := ⟨bv, 4, none⟩) (by show g ≤ bv; omega) _, T7.bd⟩
          have Z8 := (Z6.below hb7 (by omega)).far (p := ⟨bv, 4, none⟩) (by show w.heap.size ≠ bv; omega) (.slice A3 (j + 1) c3)
          have O8 : Blk (w7.setCell ⟨bv, 4, none⟩ (.slice A3 (j + 1) c3)) bv 25 #[.int .i64 k, .int .i64 0, .int .i64 0, .string ⟨#[]⟩, .slice A3 (j + 1) c3] := by simpa using O7.set_ 4 (.slice A3 (j + 1) c3)
          have V8 := h7.frg (g := bv) ((Fr.refl [bv] w7).setCell (p := ⟨bv, 4, none⟩) (by simp) (.slice A3 (j + 1) c3)) (Nat.lt_succ_self _)
          have F8 : Fr [g] w (w7.setCell ⟨bv, 4, none⟩ (.slice A3 (j + 1) c3)) := fr_new (q := ⟨bv, 4, none⟩) (fr_bel F6 hb7 (by omega)) (by show w.heap.size ≤ bv; omega) _
          generalize w7.setCell ⟨bv, 4, none⟩ (.slice A3 (j + 1) c3) = w8 at T8 Z8 O8 V8 F8 ⊢
          clear T6 Z6 O6 V6 l6 o6 X6 F6 hdd zb5 p5 v0 v1 v2 v3 v4 h7 hb7 hg7 O7 p7 f7 T7 d0 d1 d2'
          go_wp2_with fail
          go_roundg f0
          case measure => omega
          case rel => exact ⟨j + 1, q', g0, c3, A3, acc ++ [t], es ++ [u], by go_num, by omega, by omega, by omega, by omega, HP, T8, Z8, O8, V8, F8⟩
      · obtain rfl : gk = 0 := by omega
        obtain rfl : j = mn := by omega
        have hP2 := hP.out
        rw [kM] at hP2
        have HP := Lib.hid hP2
        have b0 := hO.cell 0
        have b1 := hO.cell 1
        have b2 := hO.cell 2
        have b3 := hO.cell 3
        have b4 := hO.cell 4
        simp only [List.getElem?_toArray, List.getElem?_cons_succ, List.getElem?_cons_zero] at b0 b1 b2 b3 b4
        obtain ⟨x0, x1', x2, x3, x4, ⟨s0, t0⟩, ⟨s1, t1⟩, ⟨s2, t2⟩, ⟨s3, t3⟩, s4, t4⟩ := hZ0.five (o := 0) (by simp) (.int .i64 k) (.int .i64 0) (.int .i64 0) (.string ⟨#[]⟩)
        clear hP hP2 hV hm
        go_wp2_with fail
        obtain ⟨fp, hls, hown, _⟩ := hRV.list hRV.cap.1 hRV.cap.2
        have hn0 : w.heap.size ∉ fp := fun hx => by have := (hown.2 _ hx).1; omega
        have hblk : Blk (set5 wr w.heap.size 0 ⟨k, 0, 0, ⟨#[]⟩, acc⟩ ⟨A', j, c', fp⟩) w.heap.size 25 _ := Blk.five_ hZ0 ⟨k, 0, 0, ⟨#[]⟩, acc⟩ ⟨A', j, c', fp⟩
        have hTR3 := hT.set5_ (g2 := w.heap.size) (o := 0) (t := ⟨k, 0, 0, ⟨#[]⟩, acc⟩) (e := ⟨A', j, c', fp⟩) hgl
        have hfr3 : Fr [g] w (set5 wr w.heap.size 0 ⟨k, 0, 0, ⟨#[]⟩, acc⟩ ⟨A', j, c', fp⟩) := fr_new5 hfr0 (Nat.le_refl _)
        have hls5 := hls.set5_ (e2 := ⟨A', j, c', fp⟩) (g := w.heap.size) (o := 0) (t := ⟨k, 0, 0, ⟨#[]⟩, acc⟩) hn0
        have how5 := (hown.mono (lo2 := w.heap.size) (by omega)).set5_ (g := w.heap.size) (o := 0) (t := ⟨k, 0, 0, ⟨#[]⟩, acc⟩) (e := ⟨A', j, c', fp⟩) hn0
        have hres := fun (tm : Array Value) (hp : tm.getD 4 undef = .pointer (some ⟨w.heap.size, 0, none⟩)) => results_blk (P := Tryd.prog) (tmps := tm) Tryd.results26 Tryd.isAgg25 (by exact Tryd.sizeOf25) hp hblk
        refine bodyPost_ret (hres _ rfl) rfl ?_
        rw [← HP.out]
        exact ⟨⟨k, 0, 0, ⟨#[]⟩, acc⟩, ⟨A', j, c', fp⟩, q0, 0, rfl, hls5, how5, hTR3, hfr3, rfl, rfl, rfl⟩
end Go.Proofs.YtmelnaidjgpclaaDoor
