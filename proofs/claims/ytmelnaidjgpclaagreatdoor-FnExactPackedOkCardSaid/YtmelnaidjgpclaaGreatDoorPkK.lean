/- The program's reader of the packed format: value at a text, at bytes. -/
import Derived.Test.YtmelnaidjgpclaaGreatDoorPkG1
set_option linter.unusedVariables false
set_option maxRecDepth 100000
set_option linter.unusedSimpArgs false
namespace Go.Proofs.YtmelnaidjgpclaaGreatDoor
open Go.RowKit

theorem conv_cut {A : Option Addr} {n c : Nat} {b : List UInt8} {q m : Nat} {w : World} {B : Nat} (h : Sl w B 1 A n c (u8s b)) (hlt : q + m ≤ n) :
    (convert 22 9 (.slice (if c = q then A else Option.map (fun x => x.add q) A) (q + m - q) (c - q))).run Tryz.prog w = .ok (.string (cutS b q m)) w := by
  rw [show q + m - q = m by omega]
  rcases Nat.eq_zero_or_pos m with rfl | hm
  · have hs : Sl w 0 1 (if c = q then A else Option.map (fun x => x.add q) A) 0 (c - q) (u8s (part b q 0)) := ⟨by unfold part; simp [u8s], Nat.zero_le _, by have := h.max; omega, fun h0 => absurd h0 (by decide)⟩
    exact run_str_sl (P := Tryz.prog) 22 5 Tryz.underlying22 Tryz.underlying5 hs 9 Tryz.underlying9
  · obtain ⟨g, o, rfl, _⟩ := h.at_ (by omega)
    have e : Option.map (fun x : Addr => x.add q) (some ⟨g, o, none⟩) = some ⟨g, o + q, none⟩ := by simp [Addr.add]
    have hc := h.cap
    rw [if_neg (by omega), e]
    exact run_str_sl (P := Tryz.prog) 22 5 Tryz.underlying22 Tryz.underlying5 (h.sub_ q m (by omega) hm) 9 Tryz.underlying9
set_option maxHeartbeats 8000000 in
theorem i_value_bytes (g : Nat) (A : Option Addr) (n c : Nat) (b : List UInt8) (i d : Int) (w : World) (h : PR w g A n c b i 0) (hi : -9223372036854775808 ≤ i ∧ i ≤ 9223372036854775807) (hd : 1 ≤ d) (k m q : Int) (hG : getMark b i = (k, m, q, 0)) (mm : Nat) (hm : Hid (m = (mm : Int))) (hk4 : (k == 4) = false) (hk7 : (k == 7) = false) (hk8 : (k == 8) = true) (hsh : q.toNat + mm ≤ n) (ss : ByteArray) (hss : cutS b q.toNat mm = ss) :
    Calls Tryz.prog 60 #[.pointer (some ⟨g, 0, none⟩), .int .i64 d] w fun r w' => LeafP w w' g A n c b (q + mm) (leafTr k 0 0 ss) r := by
  have hgood := getMark_good hG
  have k1 := Below.one w (.cells #[.int .i64 0, .int .i64 0, .int .i64 0, .string ⟨#[]⟩, .slice none 0 0] 28)
  have h1 := h.below k1 h.blk.lt
  have hZ := Blk.new w 28 #[.int .i64 0, .int .i64 0, .int .i64 0, .string ⟨#[]⟩, .slice none 0 0]
  have hgl := h.blk.lt
  have hbd := h.bd
  have hdd : decide (d < 1) = false := by simp; omega
  have hfr := Fr.of_below (fp := [g]) k1
  go_enter Tryz.func60, Tryz.ntmps60
  go_upto_region 3 with fail
  generalize w.alloc (.cells #[.int .i64 0, .int .i64 0, .int .i64 0, .string ⟨#[]⟩, .slice none 0 0] 28) = wd at h1 hZ hfr ⊢
  have zd := hZ.lt
  have zg : g < wd.heap.size := Nat.lt_trans hgl zd
  have HC := fun w1 (hb : Below wd.heap.size wd w1) => i_GetMark A n c b i w1 g ((h1.sl).below (hb.mono (Nat.le_of_lt zg))) (Nat.le_trans (Nat.le_of_lt zg) hb.size) hbd hi
  rw [hG] at HC
  unfold ret4 markRet at HC
  simp only at HC
  have kd := Below.one wd (.cells #[.int .i64 0, .int .i64 0] 63)
  have hFV := fun w6 (hb6 : Below (wd.alloc (.cells #[.int .i64 0, .int .i64 0] 63)).drew.heap.size (wd.alloc (.cells #[.int .i64 0, .int .i64 0] 63)).drew w6) => (((Blk.new wd 63 #[.int .i64 0, .int .i64 0]).drew).below hb6 (by simp)).two_ (.int .i64 k)
  have hC1 := HC _ (Below.refl _ _).drew
  have hC2 := HC _ kd.drew
  have hS0 : ∀ w', Below wd.heap.size wd w' → MarkS w' g A n c i ∧ Below wd.heap.size wd w' := fun w' hb => ⟨⟨((h1.below hb zg).cells).1, ((h1.below hb zg).cells).2.1⟩, hb⟩
  have hS1 := hS0 _ (Below.refl wd.heap.size wd).drew
  have hS2 := hS0 _ kd.drew
  have hS3 := fun w6 (h : Below wd.drew.heap.size wd.drew w6) => hS0 w6 ((Below.refl wd.heap.size wd).drew.up h)
  have hS4 := fun w6 (h : Below (wd.alloc (.cells #[.int .i64 0, .int .i64 0] 63)).drew.heap.size (wd.alloc (.cells #[.int .i64 0, .int .i64 0] 63)).drew w6) => hS0 w6 (kd.drew.up h)
  have hS5 := fun w6 (h : MarkS w6 g A n c i ∧ Below wd.heap.size wd w6) => hS0 _ (h.2.up (Below.one w6 (.cells #[.int .i64 0, .int .i64 0] 63)))
  have hS6 := fun w6 (h : MarkS w6 g A n c i ∧ Below wd.heap.size wd w6) => hS0 _ (h.2.up (Below.one w6 (.cells #[.int .i64 k, .int .i64 m] 63)))
  have hS7 := fun w6 (h : MarkS w6 g A n c i ∧ Below wd.heap.size wd w6) => hS0 _ ((h.2.setCell (p := ⟨wd.heap.size, 0, none⟩) (Nat.le_refl _) (.int .i64 k)).setCell (p := ⟨wd.heap.size, 1, none⟩) (Nat.le_refl _) (.int .i64 m))
  clear hS0 HC
  go_cut [5, 6, 7] from 17 (fun s5 s6 s7 w' => ∃ gf, s5 = .pointer (some ⟨gf, 0, none⟩) ∧ s6 = .int .i64 q ∧ s7 = .int .i64 0 ∧ MarkM w w' g A n c b i k m gf)
  case first =>
    go_region_held3 (fun w' => MarkS w' g A n c i ∧ Below wd.heap.size wd w')
      (with_reducible first | exact hS1 | exact hS2 | exact hS3 _ hb6 | exact hS4 _ hb6 | exact hS5 _ hk6 | exact hS6 _ hk6 | exact hS7 _ hk6)
      (first
        | (go_at_call 102; with_reducible refine hC1.mono ?_; rintro r w6 ⟨rfl, hb6⟩; have hk6 := hS3 _ hb6)
        | (go_at_call 102; with_reducible refine hC2.mono ?_; rintro r w6 ⟨rfl, hb6⟩; have hk6 := hS4 _ hb6; obtain ⟨x0, x1, ⟨s0, t0⟩, s1, t1⟩ := hFV _ hb6))
    all_goals
      go_wp2_with fail
      go_meet
      case rel =>
        first
        | exact ⟨_, rfl, rfl, rfl, mark_meet1 h1 hZ hfr hb6 zd zg⟩
        | exact ⟨_, rfl, rfl, rfl, mark_meet2 h1 hZ hfr hb6 zd zg⟩
  case rest =>
    obtain ⟨gm, rfl, rfl, rfl, hT6, Z6, M6, fr6, hgm⟩ := hcut
    clear h1 hZ hfr hFV hC1 hC2 hS1 hS2 hS3 hS4 hS5 hS6 hS7 kd zd zg h
    have gg : g < gm := by omega
    obtain ⟨c0, c1, c2⟩ := hT6.cells
    have f1 := hT6.blk.frozen 1
    have T7 := hT6.setAt q
    have Z7 := Z6.far (p := ⟨g, 1, none⟩) (by show w.heap.size ≠ g; omega) (.int .i64 q)
    have M7 := M6.far (p := ⟨g, 1, none⟩) (by show gm ≠ g; omega) (.int .i64 q)
    have fr7 := fr6.setCell (p := ⟨g, 1, none⟩) (by simp) (.int .i64 q)
    go_upto_region 7 with fail
    generalize wc.setCell ⟨g, 1, none⟩ (.int .i64 q) = wa at T7 Z7 M7 fr7 ⊢
    clear hT6 Z6 M6 fr6 c0 c1 c2 f1
    have e0 := M7.cell 0
    have e1 := M7.cell 1
    have a0 := (M7.alloc (.cells #[.int .i64 0, .int .i64 0, .int .i64 0, .string ⟨#[]⟩, .slice none 0 0] 28)).cell 0
    have a1 := (M7.alloc (.cells #[.int .i64 0, .int .i64 0, .int .i64 0, .string ⟨#[]⟩, .slice none 0 0] 28)).cell 1
    have v0 := (M7.alloc (.cells #[.int .i64 k, .int .i64 0, .int .i64 0, .string ⟨#[]⟩, .slice none 0 0] 28)).cell 0
    have v1 := (M7.alloc (.cells #[.int .i64 k, .int .i64 0, .int .i64 0, .string ⟨#[]⟩, .slice none 0 0] 28)).cell 1
    simp only [List.getElem?_toArray, List.getElem?_cons_succ, List.getElem?_cons_zero] at e0 e1 a0 a1 v0 v1
    go_region
    clear e0 e1 a0 a1 v0 v1
    have kv := (Below.one wa (.cells #[.int .i64 k, .int .i64 0, .int .i64 0, .string ⟨#[]⟩, .slice none 0 0] 28)).drew
    have T8 := T7.below kv T7.blk.lt
    have Z8 := Z7.below kv Z7.lt
    have M8 := M7.below kv M7.lt
    have V8 := (Blk.new wa 28 #[.int .i64 k, .int .i64 0, .int .i64 0, .string ⟨#[]⟩, .slice none 0 0]).drew
    have fr8 := fr7.trans (Fr.of_below kv)
    have zbv : gm < wa.heap.size := M7.lt
    clear T7 Z7 M7 fr7 kv
    generalize wa.heap.size = bv at V8 zbv ⊢
    generalize (wa.alloc (.cells #[.int .i64 k, .int .i64 0, .int .i64 0, .string ⟨#[]⟩, .slice none 0 0] 28)).drew = wb at T8 Z8 M8 V8 fr8 ⊢
    have e0 := M8.cell 0
    have e1 := M8.cell 1
    simp only [List.getElem?_toArray, List.getElem?_cons_succ, List.getElem?_cons_zero] at e0 e1
    obtain rfl := hm.out
    clear hm
    obtain ⟨qn, rfl⟩ := Int.eq_ofNat_of_zero_le (show 0 ≤ q by omega)
    have hbl := T8.sl.blen
    obtain ⟨d0, d1, d2⟩ := T8.cells
    have hgt : ¬ (n : Int) - (qn : Int) < (mm : Int) := by omega
    have hgtd : decide ((n : Int) - (qn : Int) < (mm : Int)) = false := by simpa using hgt
    have hws : IntKind.i64.wrap ((n : Int) - (qn : Int)) = (n : Int) - (qn : Int) := by rw [IntKind.wrap_i64]; omega
    go_upto_region 17 with fail
    go_quiet (fail)
    have T9 := T8.below (Below.drewN_ wb nq) T8.blk.lt
    have Z9 := Z8.drewN nq
    have V9 := V8.drewN nq
    have M9 := M8.drewN nq
    have fr9 := fr8.drewN nq
    generalize wb.drewN nq = wf at T9 Z9 V9 M9 fr9 ⊢
    clear T8 Z8 M8 V8 fr8 e0 e1 d0 d1 d2
    have hwq : IntKind.i64.wrap ((qn : Int) + (mm : Int)) = (qn : Int) + (mm : Int) := by rw [IntKind.wrap_i64]; omega
    have hcap := T9.sl.cap
    go_upto_region 19 with fail
    obtain ⟨d0, d1, d2⟩ := T9.cells
    have e1 := M9.cell 1
    have p3 := V9.cell 3
    have f3 := V9.frozen 3
    simp only [List.getElem?_toArray, List.getElem?_cons_succ, List.getElem?_cons_zero] at e1 p3
    have hcv := conv_cut (q := qn) (m := mm) T9.sl (by omega)
    have hcvd := conv_cut (q := qn) (m := mm) T9.sl.drew (by omega)
    rw [Int.toNat_natCast] at hss
    rw [hss] at hcv hcvd
    have hcv2 := hcv
    have hcvd2 := hcvd
    rw [show qn + mm - qn = mm by omega] at hcv2 hcvd2
    go_region
    generalize (if c = qn then A else Option.map (fun x => x.add qn) A) = A9
    have T10 : PR (wf.setCell ⟨bv, 3, none⟩ (.string ss)).drew g A n c b qn 0 := ⟨T9.blk.far (p := ⟨bv, 3, none⟩) (by show g ≠ bv; omega) _, (T9.sl.setCell (p := ⟨bv, 3, none⟩) (by show g ≤ bv; omega) _).drew, T9.bd⟩
    have Z10 := (Z9.far (p := ⟨bv, 3, none⟩) (by show w.heap.size ≠ bv; omega) (.string ss)).drew
    have M10 := (M9.far (p := ⟨bv, 3, none⟩) (by show gm ≠ bv; omega) (.string ss)).drew
    have V10 : Blk (wf.setCell ⟨bv, 3, none⟩ (.string ss)).drew bv 28 #[.int .i64 k, .int .i64 0, .int .i64 0, .string ss, .slice none 0 0] := by simpa using (V9.set_ 3 (.string ss)).drew
    have fr10 : Fr [g] w (wf.setCell ⟨bv, 3, none⟩ (.string ss)).drew := (fr_new (q := ⟨bv, 3, none⟩) fr9 (by show w.heap.size ≤ bv; omega) _).drew
    generalize (wf.setCell ⟨bv, 3, none⟩ (.string ss)).drew = wg at T10 Z10 M10 V10 fr10 ⊢
    clear T9 Z9 V9 M9 fr9 d0 d1 d2 e1 p3 f3 hcv hcvd hcv2 hcvd2
    have e0 := M10.cell 0
    have p3 := V10.cell 3
    simp only [List.getElem?_toArray, List.getElem?_cons_succ, List.getElem?_cons_zero] at e0 p3
    go_upto_region 22 with fail
    have T11 := T10
    obtain ⟨d0, d1, d2⟩ := T10.cells
    have f1 := T10.blk.frozen 1
    have e1 := M10.cell 1
    simp only [List.getElem?_toArray, List.getElem?_cons_succ, List.getElem?_cons_zero] at e1
    go_region
    replace T11 := T10.setAt ((qn : Int) + (mm : Int))
    have T12 : PR (wg.setCell ⟨g, 1, none⟩ (.int .i64 ((qn : Int) + (mm : Int)))).drew g A n c b ((qn : Int) + (mm : Int)) 0 := ⟨T11.blk, T11.sl.drew, T11.bd⟩
    have Z12 := (Z10.far (p := ⟨g, 1, none⟩) (by show w.heap.size ≠ g; omega) (.int .i64 ((qn : Int) + (mm : Int)))).drew
    have V12 := (V10.far (p := ⟨g, 1, none⟩) (by show bv ≠ g; omega) (.int .i64 ((qn : Int) + (mm : Int)))).drew
    have fr12 := (fr10.setCell (p := ⟨g, 1, none⟩) (by simp) (.int .i64 ((qn : Int) + (mm : Int)))).drew
    generalize (wg.setCell ⟨g, 1, none⟩ (.int .i64 ((qn : Int) + (mm : Int)))).drew = wh at T12 Z12 V12 fr12 ⊢
    clear T11 T10 Z10 M10 V10 fr10 d0 d1 d2 f1 e1 e0 p3
    have b0 := V12.cell 0
    have b1 := V12.cell 1
    have b2 := V12.cell 2
    have b3 := V12.cell 3
    have b4 := V12.cell 4
    simp only [List.getElem?_toArray, List.getElem?_cons_succ, List.getElem?_cons_zero] at b0 b1 b2 b3 b4
    obtain ⟨x0, x1', x2, x3, x4, ⟨s0, t0⟩, ⟨s1, t1⟩, ⟨s2, t2⟩, ⟨s3, t3⟩, s4, t4⟩ := Z12.five (o := 0) (by simp) (.int .i64 k) (.int .i64 0) (.int .i64 0) (.string ss)
    go_wp2_with fail
    have hblk : Blk (set5 wh w.heap.size 0 (leafTr k 0 0 ss) ⟨none, 0, 0, []⟩) w.heap.size 28 _ := Blk.five_ Z12 (leafTr k 0 0 ss) ⟨none, 0, 0, []⟩
    have hTR3 := T12.set5_ (g2 := w.heap.size) (o := 0) (t := leafTr k 0 0 ss) (e := ⟨none, 0, 0, []⟩) hgl
    have hfr3 : Fr [g] w (set5 wh w.heap.size 0 (leafTr k 0 0 ss) ⟨none, 0, 0, []⟩) := fr_new5 fr12 (Nat.le_refl _)
    have hres := fun (tm : Array Value) (hp : tm.getD 4 undef = .pointer (some ⟨w.heap.size, 0, none⟩)) => results_blk (P := Tryz.prog) (tmps := tm) Tryz.results60 Tryz.isAgg28 (by exact Tryz.sizeOf28) hp hblk
    refine bodyPost_ret (hres _ rfl) rfl ?_
    exact ⟨rfl, hTR3, hfr3⟩
set_option maxHeartbeats 8000000 in
theorem i_value_text (g : Nat) (A : Option Addr) (n c : Nat) (b : List UInt8) (i d : Int) (w : World) (h : PR w g A n c b i 0) (hi : -9223372036854775808 ≤ i ∧ i ≤ 9223372036854775807) (hd : 1 ≤ d) (k m q : Int) (hG : getMark b i = (k, m, q, 0)) (mm : Nat) (hm : Hid (m = (mm : Int))) (hk4 : (k == 4) = false) (hk7 : (k == 7) = true) (hk8 : (k == 8) = false) (hsh : q.toNat + mm ≤ n) (ss : ByteArray) (hss : cutS b q.toNat mm = ss) (hTX : ∀ w1, Fr [g] w w1 → Calls Tryz.prog 104 #[.string ss] w1 fun r w' => r = .returned (.bool true) ∧ Below w1.heap.size w1 w') :
    Calls Tryz.prog 60 #[.pointer (some ⟨g, 0, none⟩), .int .i64 d] w fun r w' => LeafP w w' g A n c b (q + mm) (leafTr k 0 0 ss) r := by
  have hgood := getMark_good hG
  have k1 := Below.one w (.cells #[.int .i64 0, .int .i64 0, .int .i64 0, .string ⟨#[]⟩, .slice none 0 0] 28)
  have h1 := h.below k1 h.blk.lt
  have hZ := Blk.new w 28 #[.int .i64 0, .int .i64 0, .int .i64 0, .string ⟨#[]⟩, .slice none 0 0]
  have hgl := h.blk.lt
  have hbd := h.bd
  have hdd : decide (d < 1) = false := by simp; omega
  have hfr := Fr.of_below (fp := [g]) k1
  go_enter Tryz.func60, Tryz.ntmps60
  go_upto_region 3 with fail
  generalize w.alloc (.cells #[.int .i64 0, .int .i64 0, .int .i64 0, .string ⟨#[]⟩, .slice none 0 0] 28) = wd at h1 hZ hfr ⊢
  have zd := hZ.lt
  have zg : g < wd.heap.size := Nat.lt_trans hgl zd
  have HC := fun w1 (hb : Below wd.heap.size wd w1) => i_GetMark A n c b i w1 g ((h1.sl).below (hb.mono (Nat.le_of_lt zg))) (Nat.le_trans (Nat.le_of_lt zg) hb.size) hbd hi
  rw [hG] at HC
  unfold ret4 markRet at HC
  simp only at HC
  have kd := Below.one wd (.cells #[.int .i64 0, .int .i64 0] 63)
  have hFV := fun w6 (hb6 : Below (wd.alloc (.cells #[.int .i64 0, .int .i64 0] 63)).drew.heap.size (wd.alloc (.cells #[.int .i64 0, .int .i64 0] 63)).drew w6) => (((Blk.new wd 63 #[.int .i64 0, .int .i64 0]).drew).below hb6 (by simp)).two_ (.int .i64 k)
  have hC1 := HC _ (Below.refl _ _).drew
  have hC2 := HC _ kd.drew
  have hS0 : ∀ w', Below wd.heap.size wd w' → MarkS w' g A n c i ∧ Below wd.heap.size wd w' := fun w' hb => ⟨⟨((h1.below hb zg).cells).1, ((h1.below hb zg).cells).2.1⟩, hb⟩
  have hS1 := hS0 _ (Below.refl wd.heap.size wd).drew
  have hS2 := hS0 _ kd.drew
  have hS3 := fun w6 (h : Below wd.drew.heap.size wd.drew w6) => hS0 w6 ((Below.refl wd.heap.size wd).drew.up h)
  have hS4 := fun w6 (h : Below (wd.alloc (.cells #[.int .i64 0, .int .i64 0] 63)).drew.heap.size (wd.alloc (.cells #[.int .i64 0, .int .i64 0] 63)).drew w6) => hS0 w6 (kd.drew.up h)
  have hS5 := fun w6 (h : MarkS w6 g A n c i ∧ Below wd.heap.size wd w6) => hS0 _ (h.2.up (Below.one w6 (.cells #[.int .i64 0, .int .i64 0] 63)))
  have hS6 := fun w6 (h : MarkS w6 g A n c i ∧ Below wd.heap.size wd w6) => hS0 _ (h.2.up (Below.one w6 (.cells #[.int .i64 k, .int .i64 m] 63)))
  have hS7 := fun w6 (h : MarkS w6 g A n c i ∧ Below wd.heap.size wd w6) => hS0 _ ((h.2.setCell (p := ⟨wd.heap.size, 0, none⟩) (Nat.le_refl _) (.int .i64 k)).setCell (p := ⟨wd.heap.size, 1, none⟩) (Nat.le_refl _) (.int .i64 m))
  clear hS0 HC
  go_cut [5, 6, 7] from 17 (fun s5 s6 s7 w' => ∃ gf, s5 = .pointer (some ⟨gf, 0, none⟩) ∧ s6 = .int .i64 q ∧ s7 = .int .i64 0 ∧ MarkM w w' g A n c b i k m gf)
  case first =>
    go_region_held3 (fun w' => MarkS w' g A n c i ∧ Below wd.heap.size wd w')
      (with_reducible first | exact hS1 | exact hS2 | exact hS3 _ hb6 | exact hS4 _ hb6 | exact hS5 _ hk6 | exact hS6 _ hk6 | exact hS7 _ hk6)
      (first
        | (go_at_call 102; with_reducible refine hC1.mono ?_; rintro r w6 ⟨rfl, hb6⟩; have hk6 := hS3 _ hb6)
        | (go_at_call 102; with_reducible refine hC2.mono ?_; rintro r w6 ⟨rfl, hb6⟩; have hk6 := hS4 _ hb6; obtain ⟨x0, x1, ⟨s0, t0⟩, s1, t1⟩ := hFV _ hb6))
    all_goals
      go_wp2_with fail
      go_meet
      case rel =>
        first
        | exact ⟨_, rfl, rfl, rfl, mark_meet1 h1 hZ hfr hb6 zd zg⟩
        | exact ⟨_, rfl, rfl, rfl, mark_meet2 h1 hZ hfr hb6 zd zg⟩
  case rest =>
    obtain ⟨gm, rfl, rfl, rfl, hT6, Z6, M6, fr6, hgm⟩ := hcut
    clear h1 hZ hfr hFV hC1 hC2 hS1 hS2 hS3 hS4 hS5 hS6 hS7 kd zd zg h
    have gg : g < gm := by omega
    obtain ⟨c0, c1, c2⟩ := hT6.cells
    have f1 := hT6.blk.frozen 1
    have T7 := hT6.setAt q
    have Z7 := Z6.far (p := ⟨g, 1, none⟩) (by show w.heap.size ≠ g; omega) (.int .i64 q)
    have M7 := M6.far (p := ⟨g, 1, none⟩) (by show gm ≠ g; omega) (.int .i64 q)
    have fr7 := fr6.setCell (p := ⟨g, 1, none⟩) (by simp) (.int .i64 q)
    go_upto_region 7 with fail
    generalize wc.setCell ⟨g, 1, none⟩ (.int .i64 q) = wa at T7 Z7 M7 fr7 ⊢
    clear hT6 Z6 M6 fr6 c0 c1 c2 f1
    have e0 := M7.cell 0
    have e1 := M7.cell 1
    have a0 := (M7.alloc (.cells #[.int .i64 0, .int .i64 0, .int .i64 0, .string ⟨#[]⟩, .slice none 0 0] 28)).cell 0
    have a1 := (M7.alloc (.cells #[.int .i64 0, .int .i64 0, .int .i64 0, .string ⟨#[]⟩, .slice none 0 0] 28)).cell 1
    have v0 := (M7.alloc (.cells #[.int .i64 k, .int .i64 0, .int .i64 0, .string ⟨#[]⟩, .slice none 0 0] 28)).cell 0
    have v1 := (M7.alloc (.cells #[.int .i64 k, .int .i64 0, .int .i64 0, .string ⟨#[]⟩, .slice none 0 0] 28)).cell 1
    simp only [List.getElem?_toArray, List.getElem?_cons_succ, List.getElem?_cons_zero] at e0 e1 a0 a1 v0 v1
    go_region
    clear e0 e1 a0 a1 v0 v1
    have kv := (Below.one wa (.cells #[.int .i64 k, .int .i64 0, .int .i64 0, .string ⟨#[]⟩, .slice none 0 0] 28)).drew
    have T8 := T7.below kv T7.blk.lt
    have Z8 := Z7.below kv Z7.lt
    have M8 := M7.below kv M7.lt
    have V8 := (Blk.new wa 28 #[.int .i64 k, .int .i64 0, .int .i64 0, .string ⟨#[]⟩, .slice none 0 0]).drew
    have fr8 := fr7.trans (Fr.of_below kv)
    have zbv : gm < wa.heap.size := M7.lt
    clear T7 Z7 M7 fr7 kv
    generalize wa.heap.size = bv at V8 zbv ⊢
    generalize (wa.alloc (.cells #[.int .i64 k, .int .i64 0, .int .i64 0, .string ⟨#[]⟩, .slice none 0 0] 28)).drew = wb at T8 Z8 M8 V8 fr8 ⊢
    have e0 := M8.cell 0
    have e1 := M8.cell 1
    simp only [List.getElem?_toArray, List.getElem?_cons_succ, List.getElem?_cons_zero] at e0 e1
    obtain rfl := hm.out
    clear hm
    obtain ⟨qn, rfl⟩ := Int.eq_ofNat_of_zero_le (show 0 ≤ q by omega)
    have hbl := T8.sl.blen
    obtain ⟨d0, d1, d2⟩ := T8.cells
    have hgt : ¬ (n : Int) - (qn : Int) < (mm : Int) := by omega
    have hgtd : decide ((n : Int) - (qn : Int) < (mm : Int)) = false := by simpa using hgt
    have hws : IntKind.i64.wrap ((n : Int) - (qn : Int)) = (n : Int) - (qn : Int) := by rw [IntKind.wrap_i64]; omega
    go_upto_region 17 with fail
    go_quiet (fail)
    have T9 := T8.below (Below.drewN_ wb nq) T8.blk.lt
    have Z9 := Z8.drewN nq
    have V9 := V8.drewN nq
    have M9 := M8.drewN nq
    have fr9 := fr8.drewN nq
    generalize wb.drewN nq = wf at T9 Z9 V9 M9 fr9 ⊢
    clear T8 Z8 M8 V8 fr8 e0 e1 d0 d1 d2
    have hwq : IntKind.i64.wrap ((qn : Int) + (mm : Int)) = (qn : Int) + (mm : Int) := by rw [IntKind.wrap_i64]; omega
    have hcap := T9.sl.cap
    go_upto_region 19 with fail
    obtain ⟨d0, d1, d2⟩ := T9.cells
    have e1 := M9.cell 1
    have p3 := V9.cell 3
    have f3 := V9.frozen 3
    simp only [List.getElem?_toArray, List.getElem?_cons_succ, List.getElem?_cons_zero] at e1 p3
    have hcv := conv_cut (q := qn) (m := mm) T9.sl (by omega)
    have hcvd := conv_cut (q := qn) (m := mm) T9.sl.drew (by omega)
    rw [Int.toNat_natCast] at hss
    rw [hss] at hcv hcvd
    have hcv2 := hcv
    have hcvd2 := hcvd
    rw [show qn + mm - qn = mm by omega] at hcv2 hcvd2
    go_region
    generalize (if c = qn then A else Option.map (fun x => x.add qn) A) = A9
    have T10 : PR (wf.setCell ⟨bv, 3, none⟩ (.string ss)).drew g A n c b qn 0 := ⟨T9.blk.far (p := ⟨bv, 3, none⟩) (by show g ≠ bv; omega) _, (T9.sl.setCell (p := ⟨bv, 3, none⟩) (by show g ≤ bv; omega) _).drew, T9.bd⟩
    have Z10 := (Z9.far (p := ⟨bv, 3, none⟩) (by show w.heap.size ≠ bv; omega) (.string ss)).drew
    have M10 := (M9.far (p := ⟨bv, 3, none⟩) (by show gm ≠ bv; omega) (.string ss)).drew
    have V10 : Blk (wf.setCell ⟨bv, 3, none⟩ (.string ss)).drew bv 28 #[.int .i64 k, .int .i64 0, .int .i64 0, .string ss, .slice none 0 0] := by simpa using (V9.set_ 3 (.string ss)).drew
    have fr10 : Fr [g] w (wf.setCell ⟨bv, 3, none⟩ (.string ss)).drew := (fr_new (q := ⟨bv, 3, none⟩) fr9 (by show w.heap.size ≤ bv; omega) _).drew
    generalize (wf.setCell ⟨bv, 3, none⟩ (.string ss)).drew = wg at T10 Z10 M10 V10 fr10 ⊢
    clear T9 Z9 V9 M9 fr9 d0 d1 d2 e1 p3 f3 hcv hcvd hcv2 hcvd2
    have e0 := M10.cell 0
    have p3 := V10.cell 3
    simp only [List.getElem?_toArray, List.getElem?_cons_succ, List.getElem?_cons_zero] at e0 p3
    have HX := hTX wg fr10
    clear hTX
    go_upto_region 22 with (go_at_call 104; refine HX.mono ?_; rintro r wx ⟨rfl, hbx⟩)
    replace T10 := T10.below hbx T10.blk.lt
    replace Z10 := Z10.below hbx Z10.lt
    replace M10 := M10.below hbx M10.lt
    replace V10 := V10.below hbx V10.lt
    replace fr10 := fr10.trans (Fr.of_below hbx)
    clear HX hbx
    have T11 := T10
    obtain ⟨d0, d1, d2⟩ := T10.cells
    have f1 := T10.blk.frozen 1
    have e1 := M10.cell 1
    simp only [List.getElem?_toArray, List.getElem?_cons_succ, List.getElem?_cons_zero] at e1
    go_region
    replace T11 := T10.setAt ((qn : Int) + (mm : Int))
    have T12 : PR (wx.setCell ⟨g, 1, none⟩ (.int .i64 ((qn : Int) + (mm : Int)))).drew g A n c b ((qn : Int) + (mm : Int)) 0 := ⟨T11.blk, T11.sl.drew, T11.bd⟩
    have Z12 := (Z10.far (p := ⟨g, 1, none⟩) (by show w.heap.size ≠ g; omega) (.int .i64 ((qn : Int) + (mm : Int)))).drew
    have V12 := (V10.far (p := ⟨g, 1, none⟩) (by show bv ≠ g; omega) (.int .i64 ((qn : Int) + (mm : Int)))).drew
    have fr12 := (fr10.setCell (p := ⟨g, 1, none⟩) (by simp) (.int .i64 ((qn : Int) + (mm : Int)))).drew
    generalize (wx.setCell ⟨g, 1, none⟩ (.int .i64 ((qn : Int) + (mm : Int)))).drew = wh at T12 Z12 V12 fr12 ⊢
    clear T11 T10 Z10 M10 V10 fr10 d0 d1 d2 f1 e1 e0 p3
    have b0 := V12.cell 0
    have b1 := V12.cell 1
    have b2 := V12.cell 2
    have b3 := V12.cell 3
    have b4 := V12.cell 4
    simp only [List.getElem?_toArray, List.getElem?_cons_succ, List.getElem?_cons_zero] at b0 b1 b2 b3 b4
    obtain ⟨x0, x1', x2, x3, x4, ⟨s0, t0⟩, ⟨s1, t1⟩, ⟨s2, t2⟩, ⟨s3, t3⟩, s4, t4⟩ := Z12.five (o := 0) (by simp) (.int .i64 k) (.int .i64 0) (.int .i64 0) (.string ss)
    go_wp2_with fail
    have hblk : Blk (set5 wh w.heap.size 0 (leafTr k 0 0 ss) ⟨none, 0, 0, []⟩) w.heap.size 28 _ := Blk.five_ Z12 (leafTr k 0 0 ss) ⟨none, 0, 0, []⟩
    have hTR3 := T12.set5_ (g2 := w.heap.size) (o := 0) (t := leafTr k 0 0 ss) (e := ⟨none, 0, 0, []⟩) hgl
    have hfr3 : Fr [g] w (set5 wh w.heap.size 0 (leafTr k 0 0 ss) ⟨none, 0, 0, []⟩) := fr_new5 fr12 (Nat.le_refl _)
    have hres := fun (tm : Array Value) (hp : tm.getD 4 undef = .pointer (some ⟨w.heap.size, 0, none⟩)) => results_blk (P := Tryz.prog) (tmps := tm) Tryz.results60 Tryz.isAgg28 (by exact Tryz.sizeOf28) hp hblk
    refine bodyPost_ret (hres _ rfl) rfl ?_
    exact ⟨rfl, hTR3, hfr3⟩
set_option maxHeartbeats 8000000 in
theorem i_value_bent (g : Nat) (A : Option Addr) (n c : Nat) (b : List UInt8) (i d : Int) (w : World) (h : PR w g A n c b i 0) (hi : -9223372036854775808 ≤ i ∧ i ≤ 9223372036854775807) (hd : 1 ≤ d) (k m q : Int) (hG : getMark b i = (k, m, q, 0)) (mm : Nat) (hm : Hid (m = (mm : Int))) (hk4 : (k == 4) = false) (hk7 : (k == 7) = true) (hk8 : (k == 8) = false) (hsh : q.toNat + mm ≤ n) (ss : ByteArray) (hss : cutS b q.toNat mm = ss) (hTX : ∀ w1, Fr [g] w w1 → Calls Tryz.prog 104 #[.string ss] w1 fun r w' => r = .returned (.bool false) ∧ Below w1.heap.size w1 w') :
    Calls Tryz.prog 60 #[.pointer (some ⟨g, 0, none⟩), .int .i64 d] w fun r w' => FailP w w' g A n c b q 1 r := by
  have hgood := getMark_good hG
  have k1 := Below.one w (.cells #[.int .i64 0, .int .i64 0, .int .i64 0, .string ⟨#[]⟩, .slice none 0 0] 28)
  have h1 := h.below k1 h.blk.lt
  have hZ := Blk.new w 28 #[.int .i64 0, .int .i64 0, .int .i64 0, .string ⟨#[]⟩, .slice none 0 0]
  have hgl := h.blk.lt
  have hbd := h.bd
  have hdd : decide (d < 1) = false := by simp; omega
  have hfr := Fr.of_below (fp := [g]) k1
  obtain ⟨u, hu⟩ : ∃ u, zeroT = u := ⟨_, rfl⟩
  have HU := Lib.hid hu
  unfold FailP
  rw [hu]
  clear hu
  go_enter Tryz.func60, Tryz.ntmps60
  go_upto_region 3 with fail
  generalize w.alloc (.cells #[.int .i64 0, .int .i64 0, .int .i64 0, .string ⟨#[]⟩, .slice none 0 0] 28) = wd at h1 hZ hfr ⊢
  have zd := hZ.lt
  have zg : g < wd.heap.size := Nat.lt_trans hgl zd
  have HC := fun w1 (hb : Below wd.heap.size wd w1) => i_GetMark A n c b i w1 g ((h1.sl).below (hb.mono (Nat.le_of_lt zg))) (Nat.le_trans (Nat.le_of_lt zg) hb.size) hbd hi
  rw [hG] at HC
  unfold ret4 markRet at HC
  simp only at HC
  have kd := Below.one wd (.cells #[.int .i64 0, .int .i64 0] 63)
  have hFV := fun w6 (hb6 : Below (wd.alloc (.cells #[.int .i64 0, .int .i64 0] 63)).drew.heap.size (wd.alloc (.cells #[.int .i64 0, .int .i64 0] 63)).drew w6) => (((Blk.new wd 63 #[.int .i64 0, .int .i64 0]).drew).below hb6 (by simp)).two_ (.int .i64 k)
  have hC1 := HC _ (Below.refl _ _).drew
  have hC2 := HC _ kd.drew
  have hS0 : ∀ w', Below wd.heap.size wd w' → MarkS w' g A n c i ∧ Below wd.heap.size wd w' := fun w' hb => ⟨⟨((h1.below hb zg).cells).1, ((h1.below hb zg).cells).2.1⟩, hb⟩
  have hS1 := hS0 _ (Below.refl wd.heap.size wd).drew
  have hS2 := hS0 _ kd.drew
  have hS3 := fun w6 (h : Below wd.drew.heap.size wd.drew w6) => hS0 w6 ((Below.refl wd.heap.size wd).drew.up h)
  have hS4 := fun w6 (h : Below (wd.alloc (.cells #[.int .i64 0, .int .i64 0] 63)).drew.heap.size (wd.alloc (.cells #[.int .i64 0, .int .i64 0] 63)).drew w6) => hS0 w6 (kd.drew.up h)
  have hS5 := fun w6 (h : MarkS w6 g A n c i ∧ Below wd.heap.size wd w6) => hS0 _ (h.2.up (Below.one w6 (.cells #[.int .i64 0, .int .i64 0] 63)))
  have hS6 := fun w6 (h : MarkS w6 g A n c i ∧ Below wd.heap.size wd w6) => hS0 _ (h.2.up (Below.one w6 (.cells #[.int .i64 k, .int .i64 m] 63)))
  have hS7 := fun w6 (h : MarkS w6 g A n c i ∧ Below wd.heap.size wd w6) => hS0 _ ((h.2.setCell (p := ⟨wd.heap.size, 0, none⟩) (Nat.le_refl _) (.int .i64 k)).setCell (p := ⟨wd.heap.size, 1, none⟩) (Nat.le_refl _) (.int .i64 m))
  clear hS0 HC
  go_cut [5, 6, 7] from 17 (fun s5 s6 s7 w' => ∃ gf, s5 = .pointer (some ⟨gf, 0, none⟩) ∧ s6 = .int .i64 q ∧ s7 = .int .i64 0 ∧ MarkM w w' g A n c b i k m gf)
  case first =>
    go_region_held3 (fun w' => MarkS w' g A n c i ∧ Below wd.heap.size wd w')
      (with_reducible first | exact hS1 | exact hS2 | exact hS3 _ hb6 | exact hS4 _ hb6 | exact hS5 _ hk6 | exact hS6 _ hk6 | exact hS7 _ hk6)
      (first
        | (go_at_call 102; with_reducible refine hC1.mono ?_; rintro r w6 ⟨rfl, hb6⟩; have hk6 := hS3 _ hb6)
        | (go_at_call 102; with_reducible refine hC2.mono ?_; rintro r w6 ⟨rfl, hb6⟩; have hk6 := hS4 _ hb6; obtain ⟨x0, x1, ⟨s0, t0⟩, s1, t1⟩ := hFV _ hb6))
    all_goals
      go_wp2_with fail
      go_meet
      case rel =>
        first
        | exact ⟨_, rfl, rfl, rfl, mark_meet1 h1 hZ hfr hb6 zd zg⟩
        | exact ⟨_, rfl, rfl, rfl, mark_meet2 h1 hZ hfr hb6 zd zg⟩
  case rest =>
    obtain ⟨gm, rfl, rfl, rfl, hT6, Z6, M6, fr6, hgm⟩ := hcut
    clear h1 hZ hfr hFV hC1 hC2 hS1 hS2 hS3 hS4 hS5 hS6 hS7 kd zd zg h
    have gg : g < gm := by omega
    obtain ⟨c0, c1, c2⟩ := hT6.cells
    have f1 := hT6.blk.frozen 1
    have T7 := hT6.setAt q
    have Z7 := Z6.far (p := ⟨g, 1, none⟩) (by show w.heap.size ≠ g; omega) (.int .i64 q)
    have M7 := M6.far (p := ⟨g, 1, none⟩) (by show gm ≠ g; omega) (.int .i64 q)
    have fr7 := fr6.setCell (p := ⟨g, 1, none⟩) (by simp) (.int .i64 q)
    go_upto_region 7 with fail
    generalize wc.setCell ⟨g, 1, none⟩ (.int .i64 q) = wa at T7 Z7 M7 fr7 ⊢
    clear hT6 Z6 M6 fr6 c0 c1 c2 f1
    have e0 := M7.cell 0
    have e1 := M7.cell 1
    have a0 := (M7.alloc (.cells #[.int .i64 0, .int .i64 0, .int .i64 0, .string ⟨#[]⟩, .slice none 0 0] 28)).cell 0
    have a1 := (M7.alloc (.cells #[.int .i64 0, .int .i64 0, .int .i64 0, .string ⟨#[]⟩, .slice none 0 0] 28)).cell 1
    have v0 := (M7.alloc (.cells #[.int .i64 k, .int .i64 0, .int .i64 0, .string ⟨#[]⟩, .slice none 0 0] 28)).cell 0
    have v1 := (M7.alloc (.cells #[.int .i64 k, .int .i64 0, .int .i64 0, .string ⟨#[]⟩, .slice none 0 0] 28)).cell 1
    simp only [List.getElem?_toArray, List.getElem?_cons_succ, List.getElem?_cons_zero] at e0 e1 a0 a1 v0 v1
    go_region
    clear e0 e1 a0 a1 v0 v1
    have kv := (Below.one wa (.cells #[.int .i64 k, .int .i64 0, .int .i64 0, .string ⟨#[]⟩, .slice none 0 0] 28)).drew
    have T8 := T7.below kv T7.blk.lt
    have Z8 := Z7.below kv Z7.lt
    have M8 := M7.below kv M7.lt
    have V8 := (Blk.new wa 28 #[.int .i64 k, .int .i64 0, .int .i64 0, .string ⟨#[]⟩, .slice none 0 0]).drew
    have fr8 := fr7.trans (Fr.of_below kv)
    have zbv : gm < wa.heap.size := M7.lt
    clear T7 Z7 M7 fr7 kv
    generalize wa.heap.size = bv at V8 zbv ⊢
    generalize (wa.alloc (.cells #[.int .i64 k, .int .i64 0, .int .i64 0, .string ⟨#[]⟩, .slice none 0 0] 28)).drew = wb at T8 Z8 M8 V8 fr8 ⊢
    have e0 := M8.cell 0
    have e1 := M8.cell 1
    simp only [List.getElem?_toArray, List.getElem?_cons_succ, List.getElem?_cons_zero] at e0 e1
    obtain rfl := hm.out
    clear hm
    obtain ⟨qn, rfl⟩ := Int.eq_ofNat_of_zero_le (show 0 ≤ q by omega)
    have hbl := T8.sl.blen
    obtain ⟨d0, d1, d2⟩ := T8.cells
    have hgt : ¬ (n : Int) - (qn : Int) < (mm : Int) := by omega
    have hgtd : decide ((n : Int) - (qn : Int) < (mm : Int)) = false := by simpa using hgt
    have hws : IntKind.i64.wrap ((n : Int) - (qn : Int)) = (n : Int) - (qn : Int) := by rw [IntKind.wrap_i64]; omega
    go_upto_region 17 with fail
    go_quiet (fail)
    have T9 := T8.below (Below.drewN_ wb nq) T8.blk.lt
    have Z9 := Z8.drewN nq
    have V9 := V8.drewN nq
    have M9 := M8.drewN nq
    have fr9 := fr8.drewN nq
    generalize wb.drewN nq = wf at T9 Z9 V9 M9 fr9 ⊢
    clear T8 Z8 M8 V8 fr8 e0 e1 d0 d1 d2
    have hwq : IntKind.i64.wrap ((qn : Int) + (mm : Int)) = (qn : Int) + (mm : Int) := by rw [IntKind.wrap_i64]; omega
    have hcap := T9.sl.cap
    go_upto_region 19 with fail
    obtain ⟨d0, d1, d2⟩ := T9.cells
    have e1 := M9.cell 1
    have p3 := V9.cell 3
    have f3 := V9.frozen 3
    simp only [List.getElem?_toArray, List.getElem?_cons_succ, List.getElem?_cons_zero] at e1 p3
    have hcv := conv_cut (q := qn) (m := mm) T9.sl (by omega)
    have hcvd := conv_cut (q := qn) (m := mm) T9.sl.drew (by omega)
    rw [Int.toNat_natCast] at hss
    rw [hss] at hcv hcvd
    have hcv2 := hcv
    have hcvd2 := hcvd
    rw [show qn + mm - qn = mm by omega] at hcv2 hcvd2
    go_region
    generalize (if c = qn then A else Option.map (fun x => x.add qn) A) = A9
    have T10 : PR (wf.setCell ⟨bv, 3, none⟩ (.string ss)).drew g A n c b qn 0 := ⟨T9.blk.far (p := ⟨bv, 3, none⟩) (by show g ≠ bv; omega) _, (T9.sl.setCell (p := ⟨bv, 3, none⟩) (by show g ≤ bv; omega) _).drew, T9.bd⟩
    have Z10 := (Z9.far (p := ⟨bv, 3, none⟩) (by show w.heap.size ≠ bv; omega) (.string ss)).drew
    have M10 := (M9.far (p := ⟨bv, 3, none⟩) (by show gm ≠ bv; omega) (.string ss)).drew
    have V10 : Blk (wf.setCell ⟨bv, 3, none⟩ (.string ss)).drew bv 28 #[.int .i64 k, .int .i64 0, .int .i64 0, .string ss, .slice none 0 0] := by simpa using (V9.set_ 3 (.string ss)).drew
    have fr10 : Fr [g] w (wf.setCell ⟨bv, 3, none⟩ (.string ss)).drew := (fr_new (q := ⟨bv, 3, none⟩) fr9 (by show w.heap.size ≤ bv; omega) _).drew
    generalize (wf.setCell ⟨bv, 3, none⟩ (.string ss)).drew = wg at T10 Z10 M10 V10 fr10 ⊢
    clear T9 Z9 V9 M9 fr9 d0 d1 d2 e1 p3 f3 hcv hcvd hcv2 hcvd2
    have e0 := M10.cell 0
    have p3 := V10.cell 3
    simp only [List.getElem?_toArray, List.getElem?_cons_succ, List.getElem?_cons_zero] at e0 p3
    have HX := hTX wg fr10
    clear hTX
    go_upto_region 21 with (go_at_call 104; refine HX.mono ?_; rintro r wx ⟨rfl, hbx⟩)
    replace T10 := T10.below hbx T10.blk.lt
    replace Z10 := Z10.below hbx Z10.lt
    replace M10 := M10.below hbx M10.lt
    replace V10 := V10.below hbx V10.lt
    replace fr10 := fr10.trans (Fr.of_below hbx)
    clear HX hbx
    have HF := i_fail g A n c b qn 0 1 wx T10
    unfold FailP at HF
    rw [HU.out] at HF
    have hTz := Z10.lt
    go_wp2_with (go_at_call 101; refine HF.mono ?_; rintro r w2 ⟨rfl, h2, hf2⟩; have BZ := Blk.ofFr Z10 hf2 (by omega); obtain ⟨x0, x1, x2, x3, x4, ⟨s0, t0⟩, ⟨s1, t1⟩, ⟨s2, t2⟩, ⟨s3, t3⟩, s4, t4⟩ := BZ.five (o := 0) (by simp) (.int .i64 u.k) (.int .i64 u.n) (.int .i64 u.x) (.string u.s))
    have hblk : Blk (set5 w2 w.heap.size 0 u ⟨none, 0, 0, []⟩) w.heap.size 28 _ := Blk.five_ BZ u ⟨none, 0, 0, []⟩
    have hTR3 := h2.set5_ (g2 := w.heap.size) (o := 0) (t := u) (e := ⟨none, 0, 0, []⟩) hgl
    have hfr3 : Fr [g] w (set5 w2 w.heap.size 0 u ⟨none, 0, 0, []⟩) := fr_new5 (fr10.trans hf2) (Nat.le_refl _)
    have hres := fun (tm : Array Value) (hp : tm.getD 4 undef = .pointer (some ⟨w.heap.size, 0, none⟩)) => results_blk (P := Tryz.prog) (tmps := tm) Tryz.results60 Tryz.isAgg28 (by exact Tryz.sizeOf28) hp hblk
    refine bodyPost_ret (hres _ rfl) rfl ?_
    exact ⟨rfl, hTR3, hfr3⟩
end Go.Proofs.YtmelnaidjgpclaaGreatDoor
