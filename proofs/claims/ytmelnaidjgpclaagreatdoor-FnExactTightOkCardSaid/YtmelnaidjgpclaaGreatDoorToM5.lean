/- The reference's GetTight: heads without elements. The reference's GetTight: bytes and texts. The reference's GetTight: lists, maps, tags. The reference's GetTight, whole. -/
import Derived.Test.YtmelnaidjgpclaaGreatDoorToM4
set_option linter.unusedVariables false
set_option maxRecDepth 100000
set_option linter.unusedSimpArgs false
namespace Go.Proofs.YtmelnaidjgpclaaGreatDoor
open Go.RowKit

theorem simpR_good {n wd : Int} {q q' : Nat} {t : Tr} (h : simpR n wd q = .good t q') : q' = q ∧ t.l = [] := by
  unfold simpR at h
  (repeat' split at h) <;> first | (cases h; exact ⟨rfl, rfl⟩) | cases h
set_option maxHeartbeats 4000000 in
theorem s_T_deep (A : Option Addr) (n c : Nat) (b : List UInt8) (i d e : Int) (w : World) (B : Nat) (h : Sl w B 1 A n c (u8s b)) (hB : B ≤ w.heap.size) (hn : n ≤ 1048576) (hi : -9223372036854775808 ≤ i ∧ i ≤ 9223372036854775807) (he : capD d = e) (hd : e < 1) :
    Calls Tryz.prog 19 #[.slice A n c, .int .i64 i, .int .i64 d] w fun r w' => GetRes w w' zeroT 0 2 r := by
  have k2 := Below.two w (.cells #[.int .i64 0, .int .i64 0, .int .i64 0, .string ⟨#[]⟩, .slice none 0 0] 28) (.cells #[.int .i64 0, .int .i64 0, .int .i64 0, .string ⟨#[]⟩, .slice none 0 0] 28)
  have hR : Blk ((w.alloc (.cells #[.int .i64 0, .int .i64 0, .int .i64 0, .string ⟨#[]⟩, .slice none 0 0] 28)).alloc (.cells #[.int .i64 0, .int .i64 0, .int .i64 0, .string ⟨#[]⟩, .slice none 0 0] 28)) w.heap.size 28 #[.int .i64 0, .int .i64 0, .int .i64 0, .string ⟨#[]⟩, .slice none 0 0] := (Blk.new w _ _).alloc _
  have hN : Blk ((w.alloc (.cells #[.int .i64 0, .int .i64 0, .int .i64 0, .string ⟨#[]⟩, .slice none 0 0] 28)).alloc (.cells #[.int .i64 0, .int .i64 0, .int .i64 0, .string ⟨#[]⟩, .slice none 0 0] 28)) (w.heap.size + 1) 28 #[.int .i64 0, .int .i64 0, .int .i64 0, .string ⟨#[]⟩, .slice none 0 0] := by simpa using Blk.new (w.alloc (.cells #[.int .i64 0, .int .i64 0, .int .i64 0, .string ⟨#[]⟩, .slice none 0 0] 28)) 28 #[.int .i64 0, .int .i64 0, .int .i64 0, .string ⟨#[]⟩, .slice none 0 0]
  have hdd : decide (e < 1) = true := decide_eq_true (by omega)
  go_enter Tryz.func19, Tryz.ntmps19
  go_upto_region 2 with fail
  generalize (w.alloc (.cells #[.int .i64 0, .int .i64 0, .int .i64 0, .string ⟨#[]⟩, .slice none 0 0] 28)).alloc (.cells #[.int .i64 0, .int .i64 0, .int .i64 0, .string ⟨#[]⟩, .slice none 0 0] 28) = wa at k2 hR hN ⊢
  go_upto_if 23 with fail
  go_cut [2] (fun s2 w' => s2 = .int .i64 e ∧ w' = wa)
  case first =>
    have hdc : ¬ 10000 < d := fun hdc => by rw [← he] at hd; unfold capD at hd; rw [if_pos hdc] at hd; omega
    · have e1 : e = d := by rw [← he]; unfold capD; rw [if_neg hdc]
      go_wp2_with fail
      go_meet
      case rel => exact ⟨by rw [e1], rfl⟩
  case rest =>
  obtain ⟨rfl, rfl⟩ := hcut
  have b0 := hN.cell 0
  have b1 := hN.cell 1
  have b2 := hN.cell 2
  have b3 := hN.cell 3
  have b4 := hN.cell 4
  simp only [List.getElem?_toArray, List.getElem?_cons_succ, List.getElem?_cons_zero] at b0 b1 b2 b3 b4
  obtain ⟨x0, x1, x2, x3, x4, ⟨s0, t0⟩, ⟨s1, t1⟩, ⟨s2, t2⟩, ⟨s3, t3⟩, s4, t4⟩ := hR.five (o := 0) (by simp) (.int .i64 0) (.int .i64 0) (.int .i64 0) (.string ⟨#[]⟩)
  go_wp2_with fail
  have hblk : Blk (set5 wc w.heap.size 0 zeroT ⟨none, 0, 0, []⟩) w.heap.size 28 _ := Blk.five_ hR zeroT ⟨none, 0, 0, []⟩
  have hbl : Below w.heap.size w (set5 wc w.heap.size 0 zeroT ⟨none, 0, 0, []⟩) := below_set5 k2 (Nat.le_refl _)
  have hres := fun (tm : Array Value) (hp : tm.getD 6 undef = .pointer (some ⟨w.heap.size, 0, none⟩)) => results_blk3 (P := Tryz.prog) (tmps := tm) Tryz.results19 Tryz.isAgg28 (by exact Tryz.sizeOf28) hp hblk
  refine bodyPost_ret (hres _ rfl) rfl ?_
  exact ⟨⟨none, 0, 0, []⟩, rfl, LsAt.nil_ _ _, Own.nil_ _ _, hbl⟩
set_option maxHeartbeats 4000000 in
theorem s_T_head (A : Option Addr) (n c : Nat) (b : List UInt8) (i d e : Int) (w : World) (B : Nat) (h : Sl w B 1 A n c (u8s b)) (hB : B ≤ w.heap.size) (hn : n ≤ 1048576) (hi : -9223372036854775808 ≤ i ∧ i ≤ 9223372036854775807) (he : capD d = e) (hd : 1 ≤ e) (mj m wd q cd : Int) (hG : getHead b i = (mj, m, wd, q, cd)) (hcd : cd ≠ 0) :
    Calls Tryz.prog 19 #[.slice A n c, .int .i64 i, .int .i64 d] w fun r w' => GetRes w w' zeroT 0 cd r := by
  have k2 := Below.two w (.cells #[.int .i64 0, .int .i64 0, .int .i64 0, .string ⟨#[]⟩, .slice none 0 0] 28) (.cells #[.int .i64 0, .int .i64 0, .int .i64 0, .string ⟨#[]⟩, .slice none 0 0] 28)
  have hR : Blk ((w.alloc (.cells #[.int .i64 0, .int .i64 0, .int .i64 0, .string ⟨#[]⟩, .slice none 0 0] 28)).alloc (.cells #[.int .i64 0, .int .i64 0, .int .i64 0, .string ⟨#[]⟩, .slice none 0 0] 28)) w.heap.size 28 #[.int .i64 0, .int .i64 0, .int .i64 0, .string ⟨#[]⟩, .slice none 0 0] := (Blk.new w _ _).alloc _
  have hN : Blk ((w.alloc (.cells #[.int .i64 0, .int .i64 0, .int .i64 0, .string ⟨#[]⟩, .slice none 0 0] 28)).alloc (.cells #[.int .i64 0, .int .i64 0, .int .i64 0, .string ⟨#[]⟩, .slice none 0 0] 28)) (w.heap.size + 1) 28 #[.int .i64 0, .int .i64 0, .int .i64 0, .string ⟨#[]⟩, .slice none 0 0] := by simpa using Blk.new (w.alloc (.cells #[.int .i64 0, .int .i64 0, .int .i64 0, .string ⟨#[]⟩, .slice none 0 0] 28)) 28 #[.int .i64 0, .int .i64 0, .int .i64 0, .string ⟨#[]⟩, .slice none 0 0]
  have hdd : decide (e < 1) = false := decide_eq_false (by omega)
  go_enter Tryz.func19, Tryz.ntmps19
  go_upto_region 2 with fail
  generalize (w.alloc (.cells #[.int .i64 0, .int .i64 0, .int .i64 0, .string ⟨#[]⟩, .slice none 0 0] 28)).alloc (.cells #[.int .i64 0, .int .i64 0, .int .i64 0, .string ⟨#[]⟩, .slice none 0 0] 28) = wa at k2 hR hN ⊢
  go_upto_if 23 with fail
  go_cut [2] (fun s2 w' => s2 = .int .i64 e ∧ w' = wa)
  case first =>
    by_cases hdc : 10000 < d
    · have e1 : e = 10000 := by rw [← he]; unfold capD; rw [if_pos hdc]
      go_wp2_with fail
      go_meet
      case rel => exact ⟨by rw [e1], rfl⟩
    · have e1 : e = d := by rw [← he]; unfold capD; rw [if_neg hdc]
      go_wp2_with fail
      go_meet
      case rel => exact ⟨by rw [e1], rfl⟩
  case rest =>
  obtain ⟨rfl, rfl⟩ := hcut
  go_upto_region 6 with fail
  have HM := s_GetHead A n c b i wc B (h.below (k2.mono hB)) (Nat.le_trans hB k2.size) hn hi
  rw [hG] at HM
  unfold ret5 headRet at HM
  go_upto_region 7 with (go_at_call 31; refine HM.mono ?_; rintro r w2 ⟨rfl, hb2⟩)
  have km := Below.one w2 (.cells #[.int .i64 mj, .int .i64 m, .int .i64 wd] 36)
  have R3 := (hR.below hb2 hR.lt).below km (hR.below hb2 hR.lt).lt
  have N3 := (hN.below hb2 hN.lt).below km (hN.below hb2 hN.lt).lt
  have M3 := Blk.new w2 36 #[.int .i64 mj, .int .i64 m, .int .i64 wd]
  have K3 := (k2.up hb2).up km
  generalize w2.heap.size = bm at M3 ⊢
  generalize w2.alloc (.cells #[.int .i64 mj, .int .i64 m, .int .i64 wd] 36) = wb at R3 N3 M3 K3 ⊢
  clear hR hN HM hb2 km k2
  have hcb : (cd != 0) = true := by simpa using hcd
  have b0 := N3.cell 0
  have b1 := N3.cell 1
  have b2 := N3.cell 2
  have b3 := N3.cell 3
  have b4 := N3.cell 4
  simp only [List.getElem?_toArray, List.getElem?_cons_succ, List.getElem?_cons_zero] at b0 b1 b2 b3 b4
  obtain ⟨x0, x1, x2, x3, x4, ⟨s0, t0⟩, ⟨s1, t1⟩, ⟨s2, t2⟩, ⟨s3, t3⟩, s4, t4⟩ := R3.five (o := 0) (by simp) (.int .i64 0) (.int .i64 0) (.int .i64 0) (.string ⟨#[]⟩)
  go_wp2_with fail
  have hblk : Blk (set5 wb w.heap.size 0 zeroT ⟨none, 0, 0, []⟩) w.heap.size 28 _ := Blk.five_ R3 zeroT ⟨none, 0, 0, []⟩
  have hbl : Below w.heap.size w (set5 wb w.heap.size 0 zeroT ⟨none, 0, 0, []⟩) := below_set5 K3 (Nat.le_refl _)
  have hres := fun (tm : Array Value) (hp : tm.getD 6 undef = .pointer (some ⟨w.heap.size, 0, none⟩)) => results_blk3 (P := Tryz.prog) (tmps := tm) Tryz.results19 Tryz.isAgg28 (by exact Tryz.sizeOf28) hp hblk
  refine bodyPost_ret (hres _ rfl) rfl ?_
  exact ⟨⟨none, 0, 0, []⟩, rfl, LsAt.nil_ _ _, Own.nil_ _ _, hbl⟩
set_option maxHeartbeats 4000000 in
theorem s_T_int (A : Option Addr) (n c : Nat) (b : List UInt8) (i d e : Int) (w : World) (B : Nat) (h : Sl w B 1 A n c (u8s b)) (hB : B ≤ w.heap.size) (hn : n ≤ 1048576) (hi : -9223372036854775808 ≤ i ∧ i ≤ 9223372036854775807) (he : capD d = e) (hd : 1 ≤ e) (m wd q : Int) (hG : getHead b i = (0, m, wd, q, 0)) :
    Calls Tryz.prog 19 #[.slice A n c, .int .i64 i, .int .i64 d] w fun r w' => GetRes w w' (leafTr 3 m 0 ⟨#[]⟩) q 0 r := by
  have k2 := Below.two w (.cells #[.int .i64 0, .int .i64 0, .int .i64 0, .string ⟨#[]⟩, .slice none 0 0] 28) (.cells #[.int .i64 0, .int .i64 0, .int .i64 0, .string ⟨#[]⟩, .slice none 0 0] 28)
  have hR : Blk ((w.alloc (.cells #[.int .i64 0, .int .i64 0, .int .i64 0, .string ⟨#[]⟩, .slice none 0 0] 28)).alloc (.cells #[.int .i64 0, .int .i64 0, .int .i64 0, .string ⟨#[]⟩, .slice none 0 0] 28)) w.heap.size 28 #[.int .i64 0, .int .i64 0, .int .i64 0, .string ⟨#[]⟩, .slice none 0 0] := (Blk.new w _ _).alloc _
  have hN : Blk ((w.alloc (.cells #[.int .i64 0, .int .i64 0, .int .i64 0, .string ⟨#[]⟩, .slice none 0 0] 28)).alloc (.cells #[.int .i64 0, .int .i64 0, .int .i64 0, .string ⟨#[]⟩, .slice none 0 0] 28)) (w.heap.size + 1) 28 #[.int .i64 0, .int .i64 0, .int .i64 0, .string ⟨#[]⟩, .slice none 0 0] := by simpa using Blk.new (w.alloc (.cells #[.int .i64 0, .int .i64 0, .int .i64 0, .string ⟨#[]⟩, .slice none 0 0] 28)) 28 #[.int .i64 0, .int .i64 0, .int .i64 0, .string ⟨#[]⟩, .slice none 0 0]
  have hdd : decide (e < 1) = false := decide_eq_false (by omega)
  go_enter Tryz.func19, Tryz.ntmps19
  go_upto_region 2 with fail
  generalize (w.alloc (.cells #[.int .i64 0, .int .i64 0, .int .i64 0, .string ⟨#[]⟩, .slice none 0 0] 28)).alloc (.cells #[.int .i64 0, .int .i64 0, .int .i64 0, .string ⟨#[]⟩, .slice none 0 0] 28) = wa at k2 hR hN ⊢
  go_upto_if 23 with fail
  go_cut [2] (fun s2 w' => s2 = .int .i64 e ∧ w' = wa)
  case first =>
    by_cases hdc : 10000 < d
    · have e1 : e = 10000 := by rw [← he]; unfold capD; rw [if_pos hdc]
      go_wp2_with fail
      go_meet
      case rel => exact ⟨by rw [e1], rfl⟩
    · have e1 : e = d := by rw [← he]; unfold capD; rw [if_neg hdc]
      go_wp2_with fail
      go_meet
      case rel => exact ⟨by rw [e1], rfl⟩
  case rest =>
  obtain ⟨rfl, rfl⟩ := hcut
  go_upto_region 6 with fail
  have HM := s_GetHead A n c b i wc B (h.below (k2.mono hB)) (Nat.le_trans hB k2.size) hn hi
  rw [hG] at HM
  unfold ret5 headRet at HM
  go_upto_region 7 with (go_at_call 31; refine HM.mono ?_; rintro r w2 ⟨rfl, hb2⟩)
  have km := Below.one w2 (.cells #[.int .i64 0, .int .i64 m, .int .i64 wd] 36)
  have R3 := (hR.below hb2 hR.lt).below km (hR.below hb2 hR.lt).lt
  have N3 := (hN.below hb2 hN.lt).below km (hN.below hb2 hN.lt).lt
  have M3 := Blk.new w2 36 #[.int .i64 0, .int .i64 m, .int .i64 wd]
  have K3 := (k2.up hb2).up km
  generalize w2.heap.size = bm at M3 ⊢
  generalize w2.alloc (.cells #[.int .i64 0, .int .i64 m, .int .i64 wd] 36) = wb at R3 N3 M3 K3 ⊢
  clear hR hN HM hb2 km k2
  have e0 := M3.cell 0
  have e1 := M3.cell 1
  have e2 := M3.cell 2
  simp only [List.getElem?_toArray, List.getElem?_cons_succ, List.getElem?_cons_zero] at e0 e1 e2
  go_upto_region 10 with fail
  have kv := Below.one wb (.cells #[.int .i64 0, .int .i64 0, .int .i64 0, .string ⟨#[]⟩, .slice none 0 0] 28)
  have R4 := R3.below kv R3.lt
  have N4 := N3.below kv N3.lt
  have M4 := M3.below kv M3.lt
  have V4 := Blk.new wb 28 #[.int .i64 0, .int .i64 0, .int .i64 0, .string ⟨#[]⟩, .slice none 0 0]
  have K4 := K3.up kv
  have zv : w.heap.size + 1 < wb.heap.size := N3.lt
  have zm : bm < wb.heap.size := M3.lt
  generalize wb.heap.size = bv at V4 zv zm ⊢
  generalize wb.alloc (.cells #[.int .i64 0, .int .i64 0, .int .i64 0, .string ⟨#[]⟩, .slice none 0 0] 28) = wd0 at R4 N4 M4 V4 K4 ⊢
  clear R3 N3 M3 K3 kv e0 e1 e2
  have e0 := M4.cell 0
  have e1 := M4.cell 1
  have e2 := M4.cell 2
  simp only [List.getElem?_toArray, List.getElem?_cons_succ, List.getElem?_cons_zero] at e0 e1 e2
  have HI := fun w1 => s_IntVal (m) w1
  obtain ⟨T, hT⟩ : ∃ T, leafTr 3 (m) 0 ⟨#[]⟩ = T := ⟨_, rfl⟩
  rw [hT] at HI
  have HT := Lib.hid hT
  clear hT
  go_wp2_with (go_at_call 32; refine (HI _).mono ?_; rintro r w5 ⟨rfl, hb5⟩; have R5 := R4.below hb5 R4.lt; obtain ⟨x0, x1, x2, x3, x4, ⟨s0, t0⟩, ⟨s1, t1⟩, ⟨s2, t2⟩, ⟨s3, t3⟩, s4, t4⟩ := R5.five (o := 0) (by simp) (.int .i64 T.k) (.int .i64 T.n) (.int .i64 T.x) (.string T.s))
  have hblk : Blk (set5 w5 w.heap.size 0 T ⟨none, 0, 0, []⟩) w.heap.size 28 _ := Blk.five_ R5 T ⟨none, 0, 0, []⟩
  have hbl : Below w.heap.size w (set5 w5 w.heap.size 0 T ⟨none, 0, 0, []⟩) := below_set5 (K4.up hb5) (Nat.le_refl _)
  have hres := fun (tm : Array Value) (hp : tm.getD 6 undef = .pointer (some ⟨w.heap.size, 0, none⟩)) => results_blk3 (P := Tryz.prog) (tmps := tm) Tryz.results19 Tryz.isAgg28 (by exact Tryz.sizeOf28) hp hblk
  refine bodyPost_ret (hres _ rfl) rfl ?_
  have HTL : T.l = [] := by rw [← HT.out]; rfl
  rw [HT.out]
  exact ⟨⟨none, 0, 0, []⟩, rfl, by rw [HTL]; exact LsAt.nil_ _ _, Own.nil_ _ _, hbl⟩
set_option maxHeartbeats 4000000 in
theorem s_T_neg (A : Option Addr) (n c : Nat) (b : List UInt8) (i d e : Int) (w : World) (B : Nat) (h : Sl w B 1 A n c (u8s b)) (hB : B ≤ w.heap.size) (hn : n ≤ 1048576) (hi : -9223372036854775808 ≤ i ∧ i ≤ 9223372036854775807) (he : capD d = e) (hd : 1 ≤ e) (m wd q : Int) (hG : getHead b i = (1, m, wd, q, 0)) (hm : m < 1000000000000000) :
    Calls Tryz.prog 19 #[.slice A n c, .int .i64 i, .int .i64 d] w fun r w' => GetRes w w' (leafTr 3 (-1 - m) 0 ⟨#[]⟩) q 0 r := by
  have k2 := Below.two w (.cells #[.int .i64 0, .int .i64 0, .int .i64 0, .string ⟨#[]⟩, .slice none 0 0] 28) (.cells #[.int .i64 0, .int .i64 0, .int .i64 0, .string ⟨#[]⟩, .slice none 0 0] 28)
  have hR : Blk ((w.alloc (.cells #[.int .i64 0, .int .i64 0, .int .i64 0, .string ⟨#[]⟩, .slice none 0 0] 28)).alloc (.cells #[.int .i64 0, .int .i64 0, .int .i64 0, .string ⟨#[]⟩, .slice none 0 0] 28)) w.heap.size 28 #[.int .i64 0, .int .i64 0, .int .i64 0, .string ⟨#[]⟩, .slice none 0 0] := (Blk.new w _ _).alloc _
  have hN : Blk ((w.alloc (.cells #[.int .i64 0, .int .i64 0, .int .i64 0, .string ⟨#[]⟩, .slice none 0 0] 28)).alloc (.cells #[.int .i64 0, .int .i64 0, .int .i64 0, .string ⟨#[]⟩, .slice none 0 0] 28)) (w.heap.size + 1) 28 #[.int .i64 0, .int .i64 0, .int .i64 0, .string ⟨#[]⟩, .slice none 0 0] := by simpa using Blk.new (w.alloc (.cells #[.int .i64 0, .int .i64 0, .int .i64 0, .string ⟨#[]⟩, .slice none 0 0] 28)) 28 #[.int .i64 0, .int .i64 0, .int .i64 0, .string ⟨#[]⟩, .slice none 0 0]
  have hdd : decide (e < 1) = false := decide_eq_false (by omega)
  go_enter Tryz.func19, Tryz.ntmps19
  go_upto_region 2 with fail
  generalize (w.alloc (.cells #[.int .i64 0, .int .i64 0, .int .i64 0, .string ⟨#[]⟩, .slice none 0 0] 28)).alloc (.cells #[.int .i64 0, .int .i64 0, .int .i64 0, .string ⟨#[]⟩, .slice none 0 0] 28) = wa at k2 hR hN ⊢
  go_upto_if 23 with fail
  go_cut [2] (fun s2 w' => s2 = .int .i64 e ∧ w' = wa)
  case first =>
    by_cases hdc : 10000 < d
    · have e1 : e = 10000 := by rw [← he]; unfold capD; rw [if_pos hdc]
      go_wp2_with fail
      go_meet
      case rel => exact ⟨by rw [e1], rfl⟩
    · have e1 : e = d := by rw [← he]; unfold capD; rw [if_neg hdc]
      go_wp2_with fail
      go_meet
      case rel => exact ⟨by rw [e1], rfl⟩
  case rest =>
  obtain ⟨rfl, rfl⟩ := hcut
  go_upto_region 6 with fail
  have HM := s_GetHead A n c b i wc B (h.below (k2.mono hB)) (Nat.le_trans hB k2.size) hn hi
  rw [hG] at HM
  unfold ret5 headRet at HM
  go_upto_region 7 with (go_at_call 31; refine HM.mono ?_; rintro r w2 ⟨rfl, hb2⟩)
  have km := Below.one w2 (.cells #[.int .i64 1, .int .i64 m, .int .i64 wd] 36)
  have R3 := (hR.below hb2 hR.lt).below km (hR.below hb2 hR.lt).lt
  have N3 := (hN.below hb2 hN.lt).below km (hN.below hb2 hN.lt).lt
  have M3 := Blk.new w2 36 #[.int .i64 1, .int .i64 m, .int .i64 wd]
  have K3 := (k2.up hb2).up km
  generalize w2.heap.size = bm at M3 ⊢
  generalize w2.alloc (.cells #[.int .i64 1, .int .i64 m, .int .i64 wd] 36) = wb at R3 N3 M3 K3 ⊢
  clear hR hN HM hb2 km k2
  have hgood := head_facts hG
  have hmd : decide (1000000000000000 ≤ m) = false := by simp; omega
  have hwm : IntKind.i64.wrap (-1 - m) = -1 - m := by rw [IntKind.wrap_i64]; omega
  have e0 := M3.cell 0
  have e1 := M3.cell 1
  have e2 := M3.cell 2
  simp only [List.getElem?_toArray, List.getElem?_cons_succ, List.getElem?_cons_zero] at e0 e1 e2
  go_upto_region 10 with fail
  have kv := Below.one wb (.cells #[.int .i64 0, .int .i64 0, .int .i64 0, .string ⟨#[]⟩, .slice none 0 0] 28)
  have R4 := R3.below kv R3.lt
  have N4 := N3.below kv N3.lt
  have M4 := M3.below kv M3.lt
  have V4 := Blk.new wb 28 #[.int .i64 0, .int .i64 0, .int .i64 0, .string ⟨#[]⟩, .slice none 0 0]
  have K4 := K3.up kv
  have zv : w.heap.size + 1 < wb.heap.size := N3.lt
  have zm : bm < wb.heap.size := M3.lt
  generalize wb.heap.size = bv at V4 zv zm ⊢
  generalize wb.alloc (.cells #[.int .i64 0, .int .i64 0, .int .i64 0, .string ⟨#[]⟩, .slice none 0 0] 28) = wd0 at R4 N4 M4 V4 K4 ⊢
  clear R3 N3 M3 K3 kv e0 e1 e2
  have e0 := M4.cell 0
  have e1 := M4.cell 1
  have e2 := M4.cell 2
  simp only [List.getElem?_toArray, List.getElem?_cons_succ, List.getElem?_cons_zero] at e0 e1 e2
  have HI := fun w1 => s_IntVal (-1 - m) w1
  obtain ⟨T, hT⟩ : ∃ T, leafTr 3 (-1 - m) 0 ⟨#[]⟩ = T := ⟨_, rfl⟩
  rw [hT] at HI
  have HT := Lib.hid hT
  clear hT
  go_wp2_with (go_at_call 32; refine (HI _).mono ?_; rintro r w5 ⟨rfl, hb5⟩; have R5 := R4.below hb5 R4.lt; obtain ⟨x0, x1, x2, x3, x4, ⟨s0, t0⟩, ⟨s1, t1⟩, ⟨s2, t2⟩, ⟨s3, t3⟩, s4, t4⟩ := R5.five (o := 0) (by simp) (.int .i64 T.k) (.int .i64 T.n) (.int .i64 T.x) (.string T.s))
  have hblk : Blk (set5 w5 w.heap.size 0 T ⟨none, 0, 0, []⟩) w.heap.size 28 _ := Blk.five_ R5 T ⟨none, 0, 0, []⟩
  have hbl : Below w.heap.size w (set5 w5 w.heap.size 0 T ⟨none, 0, 0, []⟩) := below_set5 (K4.up hb5) (Nat.le_refl _)
  have hres := fun (tm : Array Value) (hp : tm.getD 6 undef = .pointer (some ⟨w.heap.size, 0, none⟩)) => results_blk3 (P := Tryz.prog) (tmps := tm) Tryz.results19 Tryz.isAgg28 (by exact Tryz.sizeOf28) hp hblk
  refine bodyPost_ret (hres _ rfl) rfl ?_
  have HTL : T.l = [] := by rw [← HT.out]; rfl
  rw [HT.out]
  exact ⟨⟨none, 0, 0, []⟩, rfl, by rw [HTL]; exact LsAt.nil_ _ _, Own.nil_ _ _, hbl⟩
set_option maxHeartbeats 4000000 in
theorem s_T_low (A : Option Addr) (n c : Nat) (b : List UInt8) (i d e : Int) (w : World) (B : Nat) (h : Sl w B 1 A n c (u8s b)) (hB : B ≤ w.heap.size) (hn : n ≤ 1048576) (hi : -9223372036854775808 ≤ i ∧ i ≤ 9223372036854775807) (he : capD d = e) (hd : 1 ≤ e) (m wd q : Int) (hG : getHead b i = (1, m, wd, q, 0)) (hm : 1000000000000000 ≤ m) :
    Calls Tryz.prog 19 #[.slice A n c, .int .i64 i, .int .i64 d] w fun r w' => GetRes w w' zeroT 0 2 r := by
  have k2 := Below.two w (.cells #[.int .i64 0, .int .i64 0, .int .i64 0, .string ⟨#[]⟩, .slice none 0 0] 28) (.cells #[.int .i64 0, .int .i64 0, .int .i64 0, .string ⟨#[]⟩, .slice none 0 0] 28)
  have hR : Blk ((w.alloc (.cells #[.int .i64 0, .int .i64 0, .int .i64 0, .string ⟨#[]⟩, .slice none 0 0] 28)).alloc (.cells #[.int .i64 0, .int .i64 0, .int .i64 0, .string ⟨#[]⟩, .slice none 0 0] 28)) w.heap.size 28 #[.int .i64 0, .int .i64 0, .int .i64 0, .string ⟨#[]⟩, .slice none 0 0] := (Blk.new w _ _).alloc _
  have hN : Blk ((w.alloc (.cells #[.int .i64 0, .int .i64 0, .int .i64 0, .string ⟨#[]⟩, .slice none 0 0] 28)).alloc (.cells #[.int .i64 0, .int .i64 0, .int .i64 0, .string ⟨#[]⟩, .slice none 0 0] 28)) (w.heap.size + 1) 28 #[.int .i64 0, .int .i64 0, .int .i64 0, .string ⟨#[]⟩, .slice none 0 0] := by simpa using Blk.new (w.alloc (.cells #[.int .i64 0, .int .i64 0, .int .i64 0, .string ⟨#[]⟩, .slice none 0 0] 28)) 28 #[.int .i64 0, .int .i64 0, .int .i64 0, .string ⟨#[]⟩, .slice none 0 0]
  have hdd : decide (e < 1) = false := decide_eq_false (by omega)
  go_enter Tryz.func19, Tryz.ntmps19
  go_upto_region 2 with fail
  generalize (w.alloc (.cells #[.int .i64 0, .int .i64 0, .int .i64 0, .string ⟨#[]⟩, .slice none 0 0] 28)).alloc (.cells #[.int .i64 0, .int .i64 0, .int .i64 0, .string ⟨#[]⟩, .slice none 0 0] 28) = wa at k2 hR hN ⊢
  go_upto_if 23 with fail
  go_cut [2] (fun s2 w' => s2 = .int .i64 e ∧ w' = wa)
  case first =>
    by_cases hdc : 10000 < d
    · have e1 : e = 10000 := by rw [← he]; unfold capD; rw [if_pos hdc]
      go_wp2_with fail
      go_meet
      case rel => exact ⟨by rw [e1], rfl⟩
    · have e1 : e = d := by rw [← he]; unfold capD; rw [if_neg hdc]
      go_wp2_with fail
      go_meet
      case rel => exact ⟨by rw [e1], rfl⟩
  case rest =>
  obtain ⟨rfl, rfl⟩ := hcut
  go_upto_region 6 with fail
  have HM := s_GetHead A n c b i wc B (h.below (k2.mono hB)) (Nat.le_trans hB k2.size) hn hi
  rw [hG] at HM
  unfold ret5 headRet at HM
  go_upto_region 7 with (go_at_call 31; refine HM.mono ?_; rintro r w2 ⟨rfl, hb2⟩)
  have km := Below.one w2 (.cells #[.int .i64 1, .int .i64 m, .int .i64 wd] 36)
  have R3 := (hR.below hb2 hR.lt).below km (hR.below hb2 hR.lt).lt
  have N3 := (hN.below hb2 hN.lt).below km (hN.below hb2 hN.lt).lt
  have M3 := Blk.new w2 36 #[.int .i64 1, .int .i64 m, .int .i64 wd]
  have K3 := (k2.up hb2).up km
  generalize w2.heap.size = bm at M3 ⊢
  generalize w2.alloc (.cells #[.int .i64 1, .int .i64 m, .int .i64 wd] 36) = wb at R3 N3 M3 K3 ⊢
  clear hR hN HM hb2 km k2
  have hmd : decide (1000000000000000 ≤ m) = true := by simpa using hm
  have e0 := M3.cell 0
  have e1 := M3.cell 1
  have e2 := M3.cell 2
  simp only [List.getElem?_toArray, List.getElem?_cons_succ, List.getElem?_cons_zero] at e0 e1 e2
  go_upto_region 10 with fail
  have kv := Below.one wb (.cells #[.int .i64 0, .int .i64 0, .int .i64 0, .string ⟨#[]⟩, .slice none 0 0] 28)
  have R4 := R3.below kv R3.lt
  have N4 := N3.below kv N3.lt
  have M4 := M3.below kv M3.lt
  have V4 := Blk.new wb 28 #[.int .i64 0, .int .i64 0, .int .i64 0, .string ⟨#[]⟩, .slice none 0 0]
  have K4 := K3.up kv
  have zv : w.heap.size + 1 < wb.heap.size := N3.lt
  have zm : bm < wb.heap.size := M3.lt
  generalize wb.heap.size = bv at V4 zv zm ⊢
  generalize wb.alloc (.cells #[.int .i64 0, .int .i64 0, .int .i64 0, .string ⟨#[]⟩, .slice none 0 0] 28) = wd0 at R4 N4 M4 V4 K4 ⊢
  clear R3 N3 M3 K3 kv e0 e1 e2
  have e0 := M4.cell 0
  have e1 := M4.cell 1
  have e2 := M4.cell 2
  simp only [List.getElem?_toArray, List.getElem?_cons_succ, List.getElem?_cons_zero] at e0 e1 e2
  have b0 := N4.cell 0
  have b1 := N4.cell 1
  have b2 := N4.cell 2
  have b3 := N4.cell 3
  have b4 := N4.cell 4
  simp only [List.getElem?_toArray, List.getElem?_cons_succ, List.getElem?_cons_zero] at b0 b1 b2 b3 b4
  obtain ⟨x0, x1, x2, x3, x4, ⟨s0, t0⟩, ⟨s1, t1⟩, ⟨s2, t2⟩, ⟨s3, t3⟩, s4, t4⟩ := R4.five (o := 0) (by simp) (.int .i64 0) (.int .i64 0) (.int .i64 0) (.string ⟨#[]⟩)
  go_wp2_with fail
  have hblk : Blk (set5 wd0 w.heap.size 0 zeroT ⟨none, 0, 0, []⟩) w.heap.size 28 _ := Blk.five_ R4 zeroT ⟨none, 0, 0, []⟩
  have hbl : Below w.heap.size w (set5 wd0 w.heap.size 0 zeroT ⟨none, 0, 0, []⟩) := below_set5 K4 (Nat.le_refl _)
  have hres := fun (tm : Array Value) (hp : tm.getD 6 undef = .pointer (some ⟨w.heap.size, 0, none⟩)) => results_blk3 (P := Tryz.prog) (tmps := tm) Tryz.results19 Tryz.isAgg28 (by exact Tryz.sizeOf28) hp hblk
  refine bodyPost_ret (hres _ rfl) rfl ?_
  exact ⟨⟨none, 0, 0, []⟩, rfl, LsAt.nil_ _ _, Own.nil_ _ _, hbl⟩
set_option maxHeartbeats 4000000 in
theorem s_T_simp (A : Option Addr) (n c : Nat) (b : List UInt8) (i d e : Int) (w : World) (B : Nat) (h : Sl w B 1 A n c (u8s b)) (hB : B ≤ w.heap.size) (hn : n ≤ 1048576) (hi : -9223372036854775808 ≤ i ∧ i ≤ 9223372036854775807) (he : capD d = e) (hd : 1 ≤ e) (m wd q : Int) (hG : getHead b i = (7, m, wd, q, 0)) :
    Calls Tryz.prog 19 #[.slice A n c, .int .i64 i, .int .i64 d] w fun r w' => GetRes w w' (resR (simpR m wd q.toNat)).1 (resP (simpR m wd q.toNat)) (resR (simpR m wd q.toNat)).2 r := by
  have hgood := head_facts hG
  obtain ⟨qn, rfl⟩ := Int.eq_ofNat_of_zero_le (show 0 ≤ q by omega)
  have hq : qn ≤ n := by have := h.blen; omega
  rw [Int.toNat_natCast]
  have HS := fun w1 => s_l14Simple 7 m wd qn w1 hgood.2.2.2.2.1
  have hXb : ∀ c0, simpR m wd qn = .bad c0 → c0 ≠ 0 := fun c0 hx => leafH_bad (b := b) (mj := 7) (n := m) (wd := wd) (q := qn) (c := c0) (by unfold leafH; rw [if_neg (by decide), if_neg (by decide), if_neg (by decide)]; exact hx)
  have hXg : ∀ t q', simpR m wd qn = .good t q' → q' = qn ∧ t.l = [] := fun t q' hx => simpR_good hx
  obtain ⟨X, hX⟩ : ∃ X, simpR m wd qn = X := ⟨_, rfl⟩
  rw [hX] at HS hXb hXg ⊢
  clear hX
  have k2 := Below.two w (.cells #[.int .i64 0, .int .i64 0, .int .i64 0, .string ⟨#[]⟩, .slice none 0 0] 28) (.cells #[.int .i64 0, .int .i64 0, .int .i64 0, .string ⟨#[]⟩, .slice none 0 0] 28)
  have hR : Blk ((w.alloc (.cells #[.int .i64 0, .int .i64 0, .int .i64 0, .string ⟨#[]⟩, .slice none 0 0] 28)).alloc (.cells #[.int .i64 0, .int .i64 0, .int .i64 0, .string ⟨#[]⟩, .slice none 0 0] 28)) w.heap.size 28 #[.int .i64 0, .int .i64 0, .int .i64 0, .string ⟨#[]⟩, .slice none 0 0] := (Blk.new w _ _).alloc _
  have hN : Blk ((w.alloc (.cells #[.int .i64 0, .int .i64 0, .int .i64 0, .string ⟨#[]⟩, .slice none 0 0] 28)).alloc (.cells #[.int .i64 0, .int .i64 0, .int .i64 0, .string ⟨#[]⟩, .slice none 0 0] 28)) (w.heap.size + 1) 28 #[.int .i64 0, .int .i64 0, .int .i64 0, .string ⟨#[]⟩, .slice none 0 0] := by simpa using Blk.new (w.alloc (.cells #[.int .i64 0, .int .i64 0, .int .i64 0, .string ⟨#[]⟩, .slice none 0 0] 28)) 28 #[.int .i64 0, .int .i64 0, .int .i64 0, .string ⟨#[]⟩, .slice none 0 0]
  have hdd : decide (e < 1) = false := decide_eq_false (by omega)
  go_enter Tryz.func19, Tryz.ntmps19
  go_upto_region 2 with fail
  generalize (w.alloc (.cells #[.int .i64 0, .int .i64 0, .int .i64 0, .string ⟨#[]⟩, .slice none 0 0] 28)).alloc (.cells #[.int .i64 0, .int .i64 0, .int .i64 0, .string ⟨#[]⟩, .slice none 0 0] 28) = wa at k2 hR hN ⊢
  go_upto_if 23 with fail
  go_cut [2] (fun s2 w' => s2 = .int .i64 e ∧ w' = wa)
  case first =>
    by_cases hdc : 10000 < d
    · have e1 : e = 10000 := by rw [← he]; unfold capD; rw [if_pos hdc]
      go_wp2_with fail
      go_meet
      case rel => exact ⟨by rw [e1], rfl⟩
    · have e1 : e = d := by rw [← he]; unfold capD; rw [if_neg hdc]
      go_wp2_with fail
      go_meet
      case rel => exact ⟨by rw [e1], rfl⟩
  case rest =>
  obtain ⟨rfl, rfl⟩ := hcut
  go_upto_region 6 with fail
  have HM := s_GetHead A n c b i wc B (h.below (k2.mono hB)) (Nat.le_trans hB k2.size) hn hi
  rw [hG] at HM
  unfold ret5 headRet at HM
  go_upto_region 7 with (go_at_call 31; refine HM.mono ?_; rintro r w2 ⟨rfl, hb2⟩)
  have km := Below.one w2 (.cells #[.int .i64 7, .int .i64 m, .int .i64 wd] 36)
  have R3 := (hR.below hb2 hR.lt).below km (hR.below hb2 hR.lt).lt
  have N3 := (hN.below hb2 hN.lt).below km (hN.below hb2 hN.lt).lt
  have M3 := Blk.new w2 36 #[.int .i64 7, .int .i64 m, .int .i64 wd]
  have K3 := (k2.up hb2).up km
  generalize w2.heap.size = bm at M3 ⊢
  generalize w2.alloc (.cells #[.int .i64 7, .int .i64 m, .int .i64 wd] 36) = wb at R3 N3 M3 K3 ⊢
  clear hR hN HM hb2 km k2
  have e0 := M3.cell 0
  have e1 := M3.cell 1
  have e2 := M3.cell 2
  simp only [List.getElem?_toArray, List.getElem?_cons_succ, List.getElem?_cons_zero] at e0 e1 e2
  go_upto_region 10 with fail
  have kv := Below.one wb (.cells #[.int .i64 0, .int .i64 0, .int .i64 0, .string ⟨#[]⟩, .slice none 0 0] 28)
  have R4 := R3.below kv R3.lt
  have N4 := N3.below kv N3.lt
  have M4 := M3.below kv M3.lt
  have V4 := Blk.new wb 28 #[.int .i64 0, .int .i64 0, .int .i64 0, .string ⟨#[]⟩, .slice none 0 0]
  have K4 := K3.up kv
  have zv : w.heap.size + 1 < wb.heap.size := N3.lt
  have zm : bm < wb.heap.size := M3.lt
  generalize wb.heap.size = bv at V4 zv zm ⊢
  generalize wb.alloc (.cells #[.int .i64 0, .int .i64 0, .int .i64 0, .string ⟨#[]⟩, .slice none 0 0] 28) = wd0 at R4 N4 M4 V4 K4 ⊢
  clear R3 N3 M3 K3 kv e0 e1 e2
  have e0 := M4.cell 0
  have e1 := M4.cell 1
  have e2 := M4.cell 2
  simp only [List.getElem?_toArray, List.getElem?_cons_succ, List.getElem?_cons_zero] at e0 e1 e2
  cases X with
  | bad c0 =>
    have hc0 := hXb c0 rfl
    have hcb : (c0 != 0) = true := by simpa using hc0
    simp only [resR] at HS
    go_upto_region 46 with (go_at_call 35; refine (HS _).mono ?_; rintro r w5 ⟨rfl, hb5⟩; have V5 := V4.below hb5 V4.lt; obtain ⟨x0, x1, x2, x3, x4, ⟨s0, t0⟩, ⟨s1, t1⟩, ⟨s2, t2⟩, ⟨s3, t3⟩, s4, t4⟩ := V5.five (o := 0) (by simp) (.int .i64 zeroT.k) (.int .i64 zeroT.n) (.int .i64 zeroT.x) (.string zeroT.s))
    have R6 := (R4.below hb5 R4.lt).far5 (g := bv) (o := 0) (t := zeroT) (e := ⟨none, 0, 0, []⟩) (by omega)
    have N6 := (N4.below hb5 N4.lt).far5 (g := bv) (o := 0) (t := zeroT) (e := ⟨none, 0, 0, []⟩) (by omega)
    have K6 : Below w.heap.size w (set5 w5 bv 0 zeroT ⟨none, 0, 0, []⟩) := below_set5 (K4.up hb5) (by omega)
    obtain ⟨w6, hw6⟩ : ∃ w6, w6 = (((((w5.setCell ⟨bv, 0, none⟩ (.int .i64 zeroT.k)).setCell ⟨bv, 1, none⟩ (.int .i64 zeroT.n)).setCell ⟨bv, 2, none⟩ (.int .i64 zeroT.x)).setCell ⟨bv, 3, none⟩ (.string zeroT.s)).setCell ⟨bv, 4, none⟩ (.slice none 0 0)) := ⟨_, rfl⟩
    rw [← hw6]
    change Blk (((((w5.setCell ⟨bv, 0, none⟩ (.int .i64 zeroT.k)).setCell ⟨bv, 1, none⟩ (.int .i64 zeroT.n)).setCell ⟨bv, 2, none⟩ (.int .i64 zeroT.x)).setCell ⟨bv, 3, none⟩ (.string zeroT.s)).setCell ⟨bv, 4, none⟩ (.slice none 0 0)) _ _ _ at R6
    change Blk (((((w5.setCell ⟨bv, 0, none⟩ (.int .i64 zeroT.k)).setCell ⟨bv, 1, none⟩ (.int .i64 zeroT.n)).setCell ⟨bv, 2, none⟩ (.int .i64 zeroT.x)).setCell ⟨bv, 3, none⟩ (.string zeroT.s)).setCell ⟨bv, 4, none⟩ (.slice none 0 0)) _ _ _ at N6
    change Below _ _ (((((w5.setCell ⟨bv, 0, none⟩ (.int .i64 zeroT.k)).setCell ⟨bv, 1, none⟩ (.int .i64 zeroT.n)).setCell ⟨bv, 2, none⟩ (.int .i64 zeroT.x)).setCell ⟨bv, 3, none⟩ (.string zeroT.s)).setCell ⟨bv, 4, none⟩ (.slice none 0 0)) at K6
    rw [← hw6] at R6 N6 K6
    clear hw6
    have b0 := N6.cell 0
    have b1 := N6.cell 1
    have b2 := N6.cell 2
    have b3 := N6.cell 3
    have b4 := N6.cell 4
    simp only [List.getElem?_toArray, List.getElem?_cons_succ, List.getElem?_cons_zero] at b0 b1 b2 b3 b4
    obtain ⟨x0, x1, x2, x3, x4, ⟨s0, t0⟩, ⟨s1, t1⟩, ⟨s2, t2⟩, ⟨s3, t3⟩, s4, t4⟩ := R6.five (o := 0) (by simp) (.int .i64 0) (.int .i64 0) (.int .i64 0) (.string ⟨#[]⟩)
    go_wp2_with fail
    have hblk : Blk (set5 w6 w.heap.size 0 zeroT ⟨none, 0, 0, []⟩) w.heap.size 28 _ := Blk.five_ R6 zeroT ⟨none, 0, 0, []⟩
    have hbl : Below w.heap.size w (set5 w6 w.heap.size 0 zeroT ⟨none, 0, 0, []⟩) := below_set5 K6 (Nat.le_refl _)
    have hres := fun (tm : Array Value) (hp : tm.getD 6 undef = .pointer (some ⟨w.heap.size, 0, none⟩)) => results_blk3 (P := Tryz.prog) (tmps := tm) Tryz.results19 Tryz.isAgg28 (by exact Tryz.sizeOf28) hp hblk
    refine bodyPost_ret (hres _ rfl) rfl ?_
    exact ⟨⟨none, 0, 0, []⟩, rfl, LsAt.nil_ _ _, Own.nil_ _ _, hbl⟩
  | good T q' =>
    obtain ⟨rfl, hTl⟩ := hXg T q' rfl
    simp only [resR] at HS
    go_upto_region 47 with (go_at_call 35; refine (HS _).mono ?_; rintro r w5 ⟨rfl, hb5⟩; have V5 := V4.below hb5 V4.lt; obtain ⟨x0, x1, x2, x3, x4, ⟨s0, t0⟩, ⟨s1, t1⟩, ⟨s2, t2⟩, ⟨s3, t3⟩, s4, t4⟩ := V5.five (o := 0) (by simp) (.int .i64 T.k) (.int .i64 T.n) (.int .i64 T.x) (.string T.s))
    have R6 := (R4.below hb5 R4.lt).far5 (g := bv) (o := 0) (t := T) (e := ⟨none, 0, 0, []⟩) (by omega)
    have V6 : Blk (set5 w5 bv 0 T ⟨none, 0, 0, []⟩) bv 28 (valCells T ⟨none, 0, 0, []⟩) := Blk.five_ V5 T ⟨none, 0, 0, []⟩
    have K6 : Below w.heap.size w (set5 w5 bv 0 T ⟨none, 0, 0, []⟩) := below_set5 (K4.up hb5) (by omega)
    obtain ⟨w6, hw6⟩ : ∃ w6, w6 = (((((w5.setCell ⟨bv, 0, none⟩ (.int .i64 T.k)).setCell ⟨bv, 1, none⟩ (.int .i64 T.n)).setCell ⟨bv, 2, none⟩ (.int .i64 T.x)).setCell ⟨bv, 3, none⟩ (.string T.s)).setCell ⟨bv, 4, none⟩ (.slice none 0 0)) := ⟨_, rfl⟩
    rw [← hw6]
    change Blk (((((w5.setCell ⟨bv, 0, none⟩ (.int .i64 T.k)).setCell ⟨bv, 1, none⟩ (.int .i64 T.n)).setCell ⟨bv, 2, none⟩ (.int .i64 T.x)).setCell ⟨bv, 3, none⟩ (.string T.s)).setCell ⟨bv, 4, none⟩ (.slice none 0 0)) _ _ _ at R6
    change Blk (((((w5.setCell ⟨bv, 0, none⟩ (.int .i64 T.k)).setCell ⟨bv, 1, none⟩ (.int .i64 T.n)).setCell ⟨bv, 2, none⟩ (.int .i64 T.x)).setCell ⟨bv, 3, none⟩ (.string T.s)).setCell ⟨bv, 4, none⟩ (.slice none 0 0)) _ _ _ at V6
    change Below _ _ (((((w5.setCell ⟨bv, 0, none⟩ (.int .i64 T.k)).setCell ⟨bv, 1, none⟩ (.int .i64 T.n)).setCell ⟨bv, 2, none⟩ (.int .i64 T.x)).setCell ⟨bv, 3, none⟩ (.string T.s)).setCell ⟨bv, 4, none⟩ (.slice none 0 0)) at K6
    rw [← hw6] at R6 V6 K6
    clear hw6
    obtain ⟨v0, v1, v2, v3, v4⟩ := V6.boxV
    obtain ⟨x0, x1, x2, x3, x4, ⟨s0, t0⟩, ⟨s1, t1⟩, ⟨s2, t2⟩, ⟨s3, t3⟩, s4, t4⟩ := R6.five (o := 0) (by simp) (.int .i64 T.k) (.int .i64 T.n) (.int .i64 T.x) (.string T.s)
    go_wp2_with fail
    have hblk : Blk (set5 w6 w.heap.size 0 T ⟨none, 0, 0, []⟩) w.heap.size 28 _ := Blk.five_ R6 T ⟨none, 0, 0, []⟩
    have hbl : Below w.heap.size w (set5 w6 w.heap.size 0 T ⟨none, 0, 0, []⟩) := below_set5 K6 (Nat.le_refl _)
    have hres := fun (tm : Array Value) (hp : tm.getD 6 undef = .pointer (some ⟨w.heap.size, 0, none⟩)) => results_blk3 (P := Tryz.prog) (tmps := tm) Tryz.results19 Tryz.isAgg28 (by exact Tryz.sizeOf28) hp hblk
    refine bodyPost_ret (hres _ rfl) rfl ?_
    exact ⟨⟨none, 0, 0, []⟩, rfl, by simp only [resR]; rw [hTl]; exact LsAt.nil_ _ _, Own.nil_ _ _, hbl⟩
end Go.Proofs.YtmelnaidjgpclaaGreatDoor

namespace Go.Proofs.YtmelnaidjgpclaaGreatDoor
open Go.RowKit

set_option maxHeartbeats 4000000 in
theorem s_T_str2 (A : Option Addr) (n c : Nat) (b : List UInt8) (i d e : Int) (w : World) (B : Nat) (h : Sl w B 1 A n c (u8s b)) (hB : B ≤ w.heap.size) (hn : n ≤ 1048576) (hi : -9223372036854775808 ≤ i ∧ i ≤ 9223372036854775807) (he : capD d = e) (hd : 1 ≤ e) (m wd q : Int) (hG : getHead b i = (2, m, wd, q, 0)) (hw : wd ≠ -1) :
    Calls Tryz.prog 19 #[.slice A n c, .int .i64 i, .int .i64 d] w fun r w' => GetRes w w' (resR (closeS 2 (anyS b 2 m wd q.toNat))).1 (resP (closeS 2 (anyS b 2 m wd q.toNat))) (resR (closeS 2 (anyS b 2 m wd q.toNat))).2 r := by
  have hgood := head_facts hG
  obtain ⟨qn, rfl⟩ := Int.eq_ofNat_of_zero_le (show 0 ≤ q by omega)
  have hq : qn ≤ n := by have := h.blen; omega
  rw [Int.toNat_natCast]
  have hw0 : decide (wd < 0) = false := decide_eq_false (by omega)
  obtain ⟨mm, rfl⟩ := Int.eq_ofNat_of_zero_le hgood.2.2.2.2.1.1
  have HS := fun w1 hh hBB => s_l14Str A n c b qn mm 2 wd w1 B hh hBB hn hq (by omega)
  have hXb : ∀ c0, anyS b 2 mm wd qn = .bad c0 → c0 ≠ 0 := fun c0 hx => anyS_bad hx
  rw [show anyS b 2 mm wd qn = strR b 2 mm qn by unfold anyS; rw [if_neg hw]] at hXb ⊢
  obtain ⟨X, hX⟩ : ∃ X, strR b 2 (mm : Int) qn = X := ⟨_, rfl⟩
  rw [hX] at hXb HS ⊢
  clear hX
  have k2 := Below.two w (.cells #[.int .i64 0, .int .i64 0, .int .i64 0, .string ⟨#[]⟩, .slice none 0 0] 28) (.cells #[.int .i64 0, .int .i64 0, .int .i64 0, .string ⟨#[]⟩, .slice none 0 0] 28)
  have hR : Blk ((w.alloc (.cells #[.int .i64 0, .int .i64 0, .int .i64 0, .string ⟨#[]⟩, .slice none 0 0] 28)).alloc (.cells #[.int .i64 0, .int .i64 0, .int .i64 0, .string ⟨#[]⟩, .slice none 0 0] 28)) w.heap.size 28 #[.int .i64 0, .int .i64 0, .int .i64 0, .string ⟨#[]⟩, .slice none 0 0] := (Blk.new w _ _).alloc _
  have hN : Blk ((w.alloc (.cells #[.int .i64 0, .int .i64 0, .int .i64 0, .string ⟨#[]⟩, .slice none 0 0] 28)).alloc (.cells #[.int .i64 0, .int .i64 0, .int .i64 0, .string ⟨#[]⟩, .slice none 0 0] 28)) (w.heap.size + 1) 28 #[.int .i64 0, .int .i64 0, .int .i64 0, .string ⟨#[]⟩, .slice none 0 0] := by simpa using Blk.new (w.alloc (.cells #[.int .i64 0, .int .i64 0, .int .i64 0, .string ⟨#[]⟩, .slice none 0 0] 28)) 28 #[.int .i64 0, .int .i64 0, .int .i64 0, .string ⟨#[]⟩, .slice none 0 0]
  have hdd : decide (e < 1) = false := decide_eq_false (by omega)
  go_enter Tryz.func19, Tryz.ntmps19
  go_upto_region 2 with fail
  generalize (w.alloc (.cells #[.int .i64 0, .int .i64 0, .int .i64 0, .string ⟨#[]⟩, .slice none 0 0] 28)).alloc (.cells #[.int .i64 0, .int .i64 0, .int .i64 0, .string ⟨#[]⟩, .slice none 0 0] 28) = wa at k2 hR hN ⊢
  go_upto_if 23 with fail
  go_cut [2] (fun s2 w' => s2 = .int .i64 e ∧ w' = wa)
  case first =>
    by_cases hdc : 10000 < d
    · have e1 : e = 10000 := by rw [← he]; unfold capD; rw [if_pos hdc]
      go_wp2_with fail
      go_meet
      case rel => exact ⟨by rw [e1], rfl⟩
    · have e1 : e = d := by rw [← he]; unfold capD; rw [if_neg hdc]
      go_wp2_with fail
      go_meet
      case rel => exact ⟨by rw [e1], rfl⟩
  case rest =>
  obtain ⟨rfl, rfl⟩ := hcut
  go_upto_region 6 with fail
  have HM := s_GetHead A n c b i wc B (h.below (k2.mono hB)) (Nat.le_trans hB k2.size) hn hi
  rw [hG] at HM
  unfold ret5 headRet at HM
  go_upto_region 7 with (go_at_call 31; refine HM.mono ?_; rintro r w2 ⟨rfl, hb2⟩)
  have km := Below.one w2 (.cells #[.int .i64 2, .int .i64 mm, .int .i64 wd] 36)
  have R3 := (hR.below hb2 hR.lt).below km (hR.below hb2 hR.lt).lt
  have N3 := (hN.below hb2 hN.lt).below km (hN.below hb2 hN.lt).lt
  have M3 := Blk.new w2 36 #[.int .i64 2, .int .i64 mm, .int .i64 wd]
  have K3 := (k2.up hb2).up km
  generalize w2.heap.size = bm at M3 ⊢
  generalize w2.alloc (.cells #[.int .i64 2, .int .i64 mm, .int .i64 wd] 36) = wb at R3 N3 M3 K3 ⊢
  clear hR hN HM hb2 km k2
  have e0 := M3.cell 0
  have e1 := M3.cell 1
  have e2 := M3.cell 2
  simp only [List.getElem?_toArray, List.getElem?_cons_succ, List.getElem?_cons_zero] at e0 e1 e2
  go_upto_region 10 with fail
  have kv := Below.one wb (.cells #[.int .i64 0, .int .i64 0, .int .i64 0, .string ⟨#[]⟩, .slice none 0 0] 28)
  have R4 := R3.below kv R3.lt
  have N4 := N3.below kv N3.lt
  have M4 := M3.below kv M3.lt
  have V4 := Blk.new wb 28 #[.int .i64 0, .int .i64 0, .int .i64 0, .string ⟨#[]⟩, .slice none 0 0]
  have K4 := K3.up kv
  have zv : w.heap.size + 1 < wb.heap.size := N3.lt
  have zm : bm < wb.heap.size := M3.lt
  generalize wb.heap.size = bv at V4 zv zm ⊢
  generalize wb.alloc (.cells #[.int .i64 0, .int .i64 0, .int .i64 0, .string ⟨#[]⟩, .slice none 0 0] 28) = wd0 at R4 N4 M4 V4 K4 ⊢
  clear R3 N3 M3 K3 kv e0 e1 e2
  have e0 := M4.cell 0
  have e1 := M4.cell 1
  have e2 := M4.cell 2
  simp only [List.getElem?_toArray, List.getElem?_cons_succ, List.getElem?_cons_zero] at e0 e1 e2
  have f0 := V4.frozen 0
  have p0 := V4.cell 0
  simp only [List.getElem?_toArray, List.getElem?_cons_succ, List.getElem?_cons_zero] at p0
  go_upto_region 35 with fail
  have R5 := R4.far (p := ⟨bv, 0, none⟩) (by show w.heap.size ≠ bv; omega) (.int .i64 8)
  have N5 := N4.far (p := ⟨bv, 0, none⟩) (by show w.heap.size + 1 ≠ bv; omega) (.int .i64 8)
  have M5 := M4.far (p := ⟨bv, 0, none⟩) (by show bm ≠ bv; omega) (.int .i64 8)
  have V5 : Blk (wd0.setCell ⟨bv, 0, none⟩ (.int .i64 8)) bv 28 #[.int .i64 8, .int .i64 0, .int .i64 0, .string ⟨#[]⟩, .slice none 0 0] := by simpa using V4.set_ 0 (.int .i64 8)
  have K5 := K4.setCell (p := ⟨bv, 0, none⟩) (by show w.heap.size ≤ bv; omega) (.int .i64 8)
  generalize wd0.setCell ⟨bv, 0, none⟩ (.int .i64 8) = wd1 at R5 N5 M5 V5 K5 ⊢
  clear R4 N4 M4 V4 K4 f0 p0 e0 e1 e2
  have e0 := M5.cell 0
  have e1 := M5.cell 1
  have e2 := M5.cell 2
  simp only [List.getElem?_toArray, List.getElem?_cons_succ, List.getElem?_cons_zero] at e0 e1 e2
  have HS1 := HS wd1 (h.below (K5.mono hB)) (Nat.le_trans hB K5.size)
  clear HS
  cases X with
  | bad c0 =>
    unfold strV at HS1
    simp only at HS1
    have hc0 := hXb c0 rfl
    have hcb : (c0 != 0) = true := by simpa using hc0
    go_upto_region 46 with (go_at_call 33; refine HS1.mono ?_; rintro r w5 ⟨rfl, hb5⟩; have M7 := M5.below hb5 M5.lt; have g0 := M7.cell 0; have g2 := M7.cell 2; simp only [List.getElem?_toArray, List.getElem?_cons_succ, List.getElem?_cons_zero] at g0 g2; have V7 := V5.below hb5 V5.lt; have p3 := V7.cell 3; have f3 := V7.frozen 3; simp only [List.getElem?_toArray, List.getElem?_cons_succ, List.getElem?_cons_zero] at p3)
    have R8 := (R5.below hb5 R5.lt).far (p := ⟨bv, 3, none⟩) (by show w.heap.size ≠ bv; omega) (.string ⟨#[]⟩)
    have N8 := (N5.below hb5 N5.lt).far (p := ⟨bv, 3, none⟩) (by show w.heap.size + 1 ≠ bv; omega) (.string ⟨#[]⟩)
    have V8 : Blk (w5.setCell ⟨bv, 3, none⟩ (.string ⟨#[]⟩)) bv 28 #[.int .i64 8, .int .i64 0, .int .i64 0, .string ⟨#[]⟩, .slice none 0 0] := by simpa using V7.set_ 3 (.string ⟨#[]⟩)
    have K8 := (K5.up hb5).setCell (p := ⟨bv, 3, none⟩) (by show w.heap.size ≤ bv; omega) (.string ⟨#[]⟩)
    generalize w5.setCell ⟨bv, 3, none⟩ (.string ⟨#[]⟩) = w8 at R8 N8 V8 K8 ⊢
    clear R5 N5 M5 V5 K5 V7 p3 f3 HS1 
    have b0 := N8.cell 0
    have b1 := N8.cell 1
    have b2 := N8.cell 2
    have b3 := N8.cell 3
    have b4 := N8.cell 4
    simp only [List.getElem?_toArray, List.getElem?_cons_succ, List.getElem?_cons_zero] at b0 b1 b2 b3 b4
    obtain ⟨x0, x1, x2, x3, x4, ⟨s0, t0⟩, ⟨s1, t1⟩, ⟨s2, t2⟩, ⟨s3, t3⟩, s4, t4⟩ := R8.five (o := 0) (by simp) (.int .i64 0) (.int .i64 0) (.int .i64 0) (.string ⟨#[]⟩)
    go_wp2_with fail
    have hblk : Blk (set5 w8 w.heap.size 0 zeroT ⟨none, 0, 0, []⟩) w.heap.size 28 _ := Blk.five_ R8 zeroT ⟨none, 0, 0, []⟩
    have hbl : Below w.heap.size w (set5 w8 w.heap.size 0 zeroT ⟨none, 0, 0, []⟩) := below_set5 K8 (Nat.le_refl _)
    have hres := fun (tm : Array Value) (hp : tm.getD 6 undef = .pointer (some ⟨w.heap.size, 0, none⟩)) => results_blk3 (P := Tryz.prog) (tmps := tm) Tryz.results19 Tryz.isAgg28 (by exact Tryz.sizeOf28) hp hblk
    refine bodyPost_ret (hres _ rfl) rfl ?_
    exact ⟨⟨none, 0, 0, []⟩, rfl, LsAt.nil_ _ _, Own.nil_ _ _, hbl⟩
  | good s q' =>
    unfold strV at HS1
    simp only at HS1
    obtain ⟨SS, hSS⟩ : ∃ SS, (⟨s.toArray⟩ : ByteArray) = SS := ⟨_, rfl⟩
    rw [hSS] at HS1
    have HSS := Lib.hid hSS
    clear hSS
    go_upto_region 47 with (go_at_call 33; refine HS1.mono ?_; rintro r w5 ⟨rfl, hb5⟩; have M7 := M5.below hb5 M5.lt; have g0 := M7.cell 0; have g2 := M7.cell 2; simp only [List.getElem?_toArray, List.getElem?_cons_succ, List.getElem?_cons_zero] at g0 g2; have V7 := V5.below hb5 V5.lt; have p3 := V7.cell 3; have f3 := V7.frozen 3; simp only [List.getElem?_toArray, List.getElem?_cons_succ, List.getElem?_cons_zero] at p3)
    have R8 := (R5.below hb5 R5.lt).far (p := ⟨bv, 3, none⟩) (by show w.heap.size ≠ bv; omega) (.string SS)
    have N8 := (N5.below hb5 N5.lt).far (p := ⟨bv, 3, none⟩) (by show w.heap.size + 1 ≠ bv; omega) (.string SS)
    have V8 : Blk (w5.setCell ⟨bv, 3, none⟩ (.string SS)) bv 28 #[.int .i64 8, .int .i64 0, .int .i64 0, .string SS, .slice none 0 0] := by simpa using V7.set_ 3 (.string SS)
    have K8 := (K5.up hb5).setCell (p := ⟨bv, 3, none⟩) (by show w.heap.size ≤ bv; omega) (.string SS)
    generalize w5.setCell ⟨bv, 3, none⟩ (.string SS) = w8 at R8 N8 V8 K8 ⊢
    clear R5 N5 M5 V5 K5 V7 p3 f3 HS1 
    have V9 : Blk w8 bv 28 (valCells (leafTr 8 0 0 SS) ⟨none, 0, 0, []⟩) := V8
    obtain ⟨v0, v1, v2, v3, v4⟩ := V9.boxV
    obtain ⟨x0, x1, x2, x3, x4, ⟨s0, t0⟩, ⟨s1, t1⟩, ⟨s2, t2⟩, ⟨s3, t3⟩, s4, t4⟩ := R8.five (o := 0) (by simp) (.int .i64 (leafTr 8 0 0 SS).k) (.int .i64 (leafTr 8 0 0 SS).n) (.int .i64 (leafTr 8 0 0 SS).x) (.string (leafTr 8 0 0 SS).s)
    go_wp2_with fail
    have hblk : Blk (set5 w8 w.heap.size 0 (leafTr 8 0 0 SS) ⟨none, 0, 0, []⟩) w.heap.size 28 _ := Blk.five_ R8 (leafTr 8 0 0 SS) ⟨none, 0, 0, []⟩
    have hbl : Below w.heap.size w (set5 w8 w.heap.size 0 (leafTr 8 0 0 SS) ⟨none, 0, 0, []⟩) := below_set5 K8 (Nat.le_refl _)
    have hres := fun (tm : Array Value) (hp : tm.getD 6 undef = .pointer (some ⟨w.heap.size, 0, none⟩)) => results_blk3 (P := Tryz.prog) (tmps := tm) Tryz.results19 Tryz.isAgg28 (by exact Tryz.sizeOf28) hp hblk
    refine bodyPost_ret (hres _ rfl) rfl ?_
    have hss := HSS.out
    subst hss
    exact ⟨⟨none, 0, 0, []⟩, rfl, LsAt.nil_ _ _, Own.nil_ _ _, hbl⟩
set_option maxHeartbeats 4000000 in
theorem s_T_str2i (A : Option Addr) (n c : Nat) (b : List UInt8) (i d e : Int) (w : World) (B : Nat) (h : Sl w B 1 A n c (u8s b)) (hB : B ≤ w.heap.size) (hn : n ≤ 1048576) (hi : -9223372036854775808 ≤ i ∧ i ≤ 9223372036854775807) (he : capD d = e) (hd : 1 ≤ e) (q : Int) (hG : getHead b i = (2, 0, -1, q, 0)) :
    Calls Tryz.prog 19 #[.slice A n c, .int .i64 i, .int .i64 d] w fun r w' => GetRes w w' (resR (closeS 2 (anyS b 2 0 (-1) q.toNat))).1 (resP (closeS 2 (anyS b 2 0 (-1) q.toNat))) (resR (closeS 2 (anyS b 2 0 (-1) q.toNat))).2 r := by
  have hgood := head_facts hG
  obtain ⟨qn, rfl⟩ := Int.eq_ofNat_of_zero_le (show 0 ≤ q by omega)
  have hq : qn ≤ n := by have := h.blen; omega
  rw [Int.toNat_natCast]
  have HP := fun w1 hh hBB => s_l14Parts A n c b qn 2 w1 B hh hBB hn hq (by omega)
  have HS := fun w1 hh hBB => s_l14Str A n c b qn 0 2 (-1) w1 B hh hBB hn hq (by omega)
  obtain ⟨Y, hY⟩ : ∃ Y, strR b 2 (0 : Nat) qn = Y := ⟨_, rfl⟩
  rw [hY] at HS
  clear hY
  have hXb : ∀ c0, anyS b 2 0 (-1) qn = .bad c0 → c0 ≠ 0 := fun c0 hx => anyS_bad hx
  rw [show anyS b 2 0 (-1) qn = partsR b 2 (b.length + 1) qn [] by unfold anyS; rw [if_pos rfl]] at hXb ⊢
  obtain ⟨X, hX⟩ : ∃ X, partsR b 2 (b.length + 1) qn [] = X := ⟨_, rfl⟩
  rw [hX] at hXb HP ⊢
  clear hX
  have k2 := Below.two w (.cells #[.int .i64 0, .int .i64 0, .int .i64 0, .string ⟨#[]⟩, .slice none 0 0] 28) (.cells #[.int .i64 0, .int .i64 0, .int .i64 0, .string ⟨#[]⟩, .slice none 0 0] 28)
  have hR : Blk ((w.alloc (.cells #[.int .i64 0, .int .i64 0, .int .i64 0, .string ⟨#[]⟩, .slice none 0 0] 28)).alloc (.cells #[.int .i64 0, .int .i64 0, .int .i64 0, .string ⟨#[]⟩, .slice none 0 0] 28)) w.heap.size 28 #[.int .i64 0, .int .i64 0, .int .i64 0, .string ⟨#[]⟩, .slice none 0 0] := (Blk.new w _ _).alloc _
  have hN : Blk ((w.alloc (.cells #[.int .i64 0, .int .i64 0, .int .i64 0, .string ⟨#[]⟩, .slice none 0 0] 28)).alloc (.cells #[.int .i64 0, .int .i64 0, .int .i64 0, .string ⟨#[]⟩, .slice none 0 0] 28)) (w.heap.size + 1) 28 #[.int .i64 0, .int .i64 0, .int .i64 0, .string ⟨#[]⟩, .slice none 0 0] := by simpa using Blk.new (w.alloc (.cells #[.int .i64 0, .int .i64 0, .int .i64 0, .string ⟨#[]⟩, .slice none 0 0] 28)) 28 #[.int .i64 0, .int .i64 0, .int .i64 0, .string ⟨#[]⟩, .slice none 0 0]
  have hdd : decide (e < 1) = false := decide_eq_false (by omega)
  go_enter Tryz.func19, Tryz.ntmps19
  go_upto_region 2 with fail
  generalize (w.alloc (.cells #[.int .i64 0, .int .i64 0, .int .i64 0, .string ⟨#[]⟩, .slice none 0 0] 28)).alloc (.cells #[.int .i64 0, .int .i64 0, .int .i64 0, .string ⟨#[]⟩, .slice none 0 0] 28) = wa at k2 hR hN ⊢
  go_upto_if 23 with fail
  go_cut [2] (fun s2 w' => s2 = .int .i64 e ∧ w' = wa)
  case first =>
    by_cases hdc : 10000 < d
    · have e1 : e = 10000 := by rw [← he]; unfold capD; rw [if_pos hdc]
      go_wp2_with fail
      go_meet
      case rel => exact ⟨by rw [e1], rfl⟩
    · have e1 : e = d := by rw [← he]; unfold capD; rw [if_neg hdc]
      go_wp2_with fail
      go_meet
      case rel => exact ⟨by rw [e1], rfl⟩
  case rest =>
  obtain ⟨rfl, rfl⟩ := hcut
  go_upto_region 6 with fail
  have HM := s_GetHead A n c b i wc B (h.below (k2.mono hB)) (Nat.le_trans hB k2.size) hn hi
  rw [hG] at HM
  unfold ret5 headRet at HM
  go_upto_region 7 with (go_at_call 31; refine HM.mono ?_; rintro r w2 ⟨rfl, hb2⟩)
  have km := Below.one w2 (.cells #[.int .i64 2, .int .i64 0, .int .i64 (-1)] 36)
  have R3 := (hR.below hb2 hR.lt).below km (hR.below hb2 hR.lt).lt
  have N3 := (hN.below hb2 hN.lt).below km (hN.below hb2 hN.lt).lt
  have M3 := Blk.new w2 36 #[.int .i64 2, .int .i64 0, .int .i64 (-1)]
  have K3 := (k2.up hb2).up km
  generalize w2.heap.size = bm at M3 ⊢
  generalize w2.alloc (.cells #[.int .i64 2, .int .i64 0, .int .i64 (-1)] 36) = wb at R3 N3 M3 K3 ⊢
  clear hR hN HM hb2 km k2
  have e0 := M3.cell 0
  have e1 := M3.cell 1
  have e2 := M3.cell 2
  simp only [List.getElem?_toArray, List.getElem?_cons_succ, List.getElem?_cons_zero] at e0 e1 e2
  go_upto_region 10 with fail
  have kv := Below.one wb (.cells #[.int .i64 0, .int .i64 0, .int .i64 0, .string ⟨#[]⟩, .slice none 0 0] 28)
  have R4 := R3.below kv R3.lt
  have N4 := N3.below kv N3.lt
  have M4 := M3.below kv M3.lt
  have V4 := Blk.new wb 28 #[.int .i64 0, .int .i64 0, .int .i64 0, .string ⟨#[]⟩, .slice none 0 0]
  have K4 := K3.up kv
  have zv : w.heap.size + 1 < wb.heap.size := N3.lt
  have zm : bm < wb.heap.size := M3.lt
  generalize wb.heap.size = bv at V4 zv zm ⊢
  generalize wb.alloc (.cells #[.int .i64 0, .int .i64 0, .int .i64 0, .string ⟨#[]⟩, .slice none 0 0] 28) = wd0 at R4 N4 M4 V4 K4 ⊢
  clear R3 N3 M3 K3 kv e0 e1 e2
  have e0 := M4.cell 0
  have e1 := M4.cell 1
  have e2 := M4.cell 2
  simp only [List.getElem?_toArray, List.getElem?_cons_succ, List.getElem?_cons_zero] at e0 e1 e2
  have f0 := V4.frozen 0
  have p0 := V4.cell 0
  simp only [List.getElem?_toArray, List.getElem?_cons_succ, List.getElem?_cons_zero] at p0
  go_upto_region 35 with fail
  have R5 := R4.far (p := ⟨bv, 0, none⟩) (by show w.heap.size ≠ bv; omega) (.int .i64 8)
  have N5 := N4.far (p := ⟨bv, 0, none⟩) (by show w.heap.size + 1 ≠ bv; omega) (.int .i64 8)
  have M5 := M4.far (p := ⟨bv, 0, none⟩) (by show bm ≠ bv; omega) (.int .i64 8)
  have V5 : Blk (wd0.setCell ⟨bv, 0, none⟩ (.int .i64 8)) bv 28 #[.int .i64 8, .int .i64 0, .int .i64 0, .string ⟨#[]⟩, .slice none 0 0] := by simpa using V4.set_ 0 (.int .i64 8)
  have K5 := K4.setCell (p := ⟨bv, 0, none⟩) (by show w.heap.size ≤ bv; omega) (.int .i64 8)
  generalize wd0.setCell ⟨bv, 0, none⟩ (.int .i64 8) = wd1 at R5 N5 M5 V5 K5 ⊢
  clear R4 N4 M4 V4 K4 f0 p0 e0 e1 e2
  have e0 := M5.cell 0
  have e1 := M5.cell 1
  have e2 := M5.cell 2
  simp only [List.getElem?_toArray, List.getElem?_cons_succ, List.getElem?_cons_zero] at e0 e1 e2
  have HS1 := HS wd1 (h.below (K5.mono hB)) (Nat.le_trans hB K5.size)
  clear HS
  cases X with
  | bad c0 =>
    cases Y with
    | bad y0 =>
      unfold strV at HS1 HP
      simp only at HS1 HP
      have hc0 := hXb c0 rfl
      have hcb : (c0 != 0) = true := by simpa using hc0
      go_upto_region 46 with (first
          | (go_at_call 33; refine HS1.mono ?_; rintro r w5 ⟨rfl, hb5⟩; have M7 := M5.below hb5 M5.lt; have g0 := M7.cell 0; have g2 := M7.cell 2; simp only [List.getElem?_toArray, List.getElem?_cons_succ, List.getElem?_cons_zero] at g0 g2; have hP1 := HP w5 (h.below ((K5.up hb5).mono hB)) (Nat.le_trans hB (K5.up hb5).size))
          | (go_at_call 34; refine hP1.mono ?_; rintro r w6 ⟨rfl, hb6⟩; have kk := hb5.up hb6; have V7 := V5.below kk V5.lt; have p3 := V7.cell 3; have f3 := V7.frozen 3; simp only [List.getElem?_toArray, List.getElem?_cons_succ, List.getElem?_cons_zero] at p3))
      have R8 := (R5.below kk R5.lt).far (p := ⟨bv, 3, none⟩) (by show w.heap.size ≠ bv; omega) (.string ⟨#[]⟩)
      have N8 := (N5.below kk N5.lt).far (p := ⟨bv, 3, none⟩) (by show w.heap.size + 1 ≠ bv; omega) (.string ⟨#[]⟩)
      have V8 : Blk (w6.setCell ⟨bv, 3, none⟩ (.string ⟨#[]⟩)) bv 28 #[.int .i64 8, .int .i64 0, .int .i64 0, .string ⟨#[]⟩, .slice none 0 0] := by simpa using V7.set_ 3 (.string ⟨#[]⟩)
      have K8 := (K5.up kk).setCell (p := ⟨bv, 3, none⟩) (by show w.heap.size ≤ bv; omega) (.string ⟨#[]⟩)
      generalize w6.setCell ⟨bv, 3, none⟩ (.string ⟨#[]⟩) = w8 at R8 N8 V8 K8 ⊢
      clear R5 N5 M5 V5 K5 V7 p3 f3 HS1 HP hP1
      have b0 := N8.cell 0
      have b1 := N8.cell 1
      have b2 := N8.cell 2
      have b3 := N8.cell 3
      have b4 := N8.cell 4
      simp only [List.getElem?_toArray, List.getElem?_cons_succ, List.getElem?_cons_zero] at b0 b1 b2 b3 b4
      obtain ⟨x0, x1, x2, x3, x4, ⟨s0, t0⟩, ⟨s1, t1⟩, ⟨s2, t2⟩, ⟨s3, t3⟩, s4, t4⟩ := R8.five (o := 0) (by simp) (.int .i64 0) (.int .i64 0) (.int .i64 0) (.string ⟨#[]⟩)
      go_wp2_with fail
      have hblk : Blk (set5 w8 w.heap.size 0 zeroT ⟨none, 0, 0, []⟩) w.heap.size 28 _ := Blk.five_ R8 zeroT ⟨none, 0, 0, []⟩
      have hbl : Below w.heap.size w (set5 w8 w.heap.size 0 zeroT ⟨none, 0, 0, []⟩) := below_set5 K8 (Nat.le_refl _)
      have hres := fun (tm : Array Value) (hp : tm.getD 6 undef = .pointer (some ⟨w.heap.size, 0, none⟩)) => results_blk3 (P := Tryz.prog) (tmps := tm) Tryz.results19 Tryz.isAgg28 (by exact Tryz.sizeOf28) hp hblk
      refine bodyPost_ret (hres _ rfl) rfl ?_
      exact ⟨⟨none, 0, 0, []⟩, rfl, LsAt.nil_ _ _, Own.nil_ _ _, hbl⟩
    | good ys yq =>
      unfold strV at HS1 HP
      simp only at HS1 HP
      have hc0 := hXb c0 rfl
      have hcb : (c0 != 0) = true := by simpa using hc0
      go_upto_region 46 with (first
          | (go_at_call 33; refine HS1.mono ?_; rintro r w5 ⟨rfl, hb5⟩; have M7 := M5.below hb5 M5.lt; have g0 := M7.cell 0; have g2 := M7.cell 2; simp only [List.getElem?_toArray, List.getElem?_cons_succ, List.getElem?_cons_zero] at g0 g2; have hP1 := HP w5 (h.below ((K5.up hb5).mono hB)) (Nat.le_trans hB (K5.up hb5).size))
          | (go_at_call 34; refine hP1.mono ?_; rintro r w6 ⟨rfl, hb6⟩; have kk := hb5.up hb6; have V7 := V5.below kk V5.lt; have p3 := V7.cell 3; have f3 := V7.frozen 3; simp only [List.getElem?_toArray, List.getElem?_cons_succ, List.getElem?_cons_zero] at p3))
      have R8 := (R5.below kk R5.lt).far (p := ⟨bv, 3, none⟩) (by show w.heap.size ≠ bv; omega) (.string ⟨#[]⟩)
      have N8 := (N5.below kk N5.lt).far (p := ⟨bv, 3, none⟩) (by show w.heap.size + 1 ≠ bv; omega) (.string ⟨#[]⟩)
      have V8 : Blk (w6.setCell ⟨bv, 3, none⟩ (.string ⟨#[]⟩)) bv 28 #[.int .i64 8, .int .i64 0, .int .i64 0, .string ⟨#[]⟩, .slice none 0 0] := by simpa using V7.set_ 3 (.string ⟨#[]⟩)
      have K8 := (K5.up kk).setCell (p := ⟨bv, 3, none⟩) (by show w.heap.size ≤ bv; omega) (.string ⟨#[]⟩)
      generalize w6.setCell ⟨bv, 3, none⟩ (.string ⟨#[]⟩) = w8 at R8 N8 V8 K8 ⊢
      clear R5 N5 M5 V5 K5 V7 p3 f3 HS1 HP hP1
      have b0 := N8.cell 0
      have b1 := N8.cell 1
      have b2 := N8.cell 2
      have b3 := N8.cell 3
      have b4 := N8.cell 4
      simp only [List.getElem?_toArray, List.getElem?_cons_succ, List.getElem?_cons_zero] at b0 b1 b2 b3 b4
      obtain ⟨x0, x1, x2, x3, x4, ⟨s0, t0⟩, ⟨s1, t1⟩, ⟨s2, t2⟩, ⟨s3, t3⟩, s4, t4⟩ := R8.five (o := 0) (by simp) (.int .i64 0) (.int .i64 0) (.int .i64 0) (.string ⟨#[]⟩)
      go_wp2_with fail
      have hblk : Blk (set5 w8 w.heap.size 0 zeroT ⟨none, 0, 0, []⟩) w.heap.size 28 _ := Blk.five_ R8 zeroT ⟨none, 0, 0, []⟩
      have hbl : Below w.heap.size w (set5 w8 w.heap.size 0 zeroT ⟨none, 0, 0, []⟩) := below_set5 K8 (Nat.le_refl _)
      have hres := fun (tm : Array Value) (hp : tm.getD 6 undef = .pointer (some ⟨w.heap.size, 0, none⟩)) => results_blk3 (P := Tryz.prog) (tmps := tm) Tryz.results19 Tryz.isAgg28 (by exact Tryz.sizeOf28) hp hblk
      refine bodyPost_ret (hres _ rfl) rfl ?_
      exact ⟨⟨none, 0, 0, []⟩, rfl, LsAt.nil_ _ _, Own.nil_ _ _, hbl⟩
  | good s q' =>
    cases Y with
    | bad y0 =>
      unfold strV at HS1 HP
      simp only at HS1 HP
      obtain ⟨SS, hSS⟩ : ∃ SS, (⟨s.toArray⟩ : ByteArray) = SS := ⟨_, rfl⟩
      rw [hSS] at HP
      have HSS := Lib.hid hSS
      clear hSS
      go_upto_region 47 with (first
          | (go_at_call 33; refine HS1.mono ?_; rintro r w5 ⟨rfl, hb5⟩; have M7 := M5.below hb5 M5.lt; have g0 := M7.cell 0; have g2 := M7.cell 2; simp only [List.getElem?_toArray, List.getElem?_cons_succ, List.getElem?_cons_zero] at g0 g2; have hP1 := HP w5 (h.below ((K5.up hb5).mono hB)) (Nat.le_trans hB (K5.up hb5).size))
          | (go_at_call 34; refine hP1.mono ?_; rintro r w6 ⟨rfl, hb6⟩; have kk := hb5.up hb6; have V7 := V5.below kk V5.lt; have p3 := V7.cell 3; have f3 := V7.frozen 3; simp only [List.getElem?_toArray, List.getElem?_cons_succ, List.getElem?_cons_zero] at p3))
      have R8 := (R5.below kk R5.lt).far (p := ⟨bv, 3, none⟩) (by show w.heap.size ≠ bv; omega) (.string SS)
      have N8 := (N5.below kk N5.lt).far (p := ⟨bv, 3, none⟩) (by show w.heap.size + 1 ≠ bv; omega) (.string SS)
      have V8 : Blk (w6.setCell ⟨bv, 3, none⟩ (.string SS)) bv 28 #[.int .i64 8, .int .i64 0, .int .i64 0, .string SS, .slice none 0 0] := by simpa using V7.set_ 3 (.string SS)
      have K8 := (K5.up kk).setCell (p := ⟨bv, 3, none⟩) (by show w.heap.size ≤ bv; omega) (.string SS)
      generalize w6.setCell ⟨bv, 3, none⟩ (.string SS) = w8 at R8 N8 V8 K8 ⊢
      clear R5 N5 M5 V5 K5 V7 p3 f3 HS1 HP hP1
      have V9 : Blk w8 bv 28 (valCells (leafTr 8 0 0 SS) ⟨none, 0, 0, []⟩) := V8
      obtain ⟨v0, v1, v2, v3, v4⟩ := V9.boxV
      obtain ⟨x0, x1, x2, x3, x4, ⟨s0, t0⟩, ⟨s1, t1⟩, ⟨s2, t2⟩, ⟨s3, t3⟩, s4, t4⟩ := R8.five (o := 0) (by simp) (.int .i64 (leafTr 8 0 0 SS).k) (.int .i64 (leafTr 8 0 0 SS).n) (.int .i64 (leafTr 8 0 0 SS).x) (.string (leafTr 8 0 0 SS).s)
      go_wp2_with fail
      have hblk : Blk (set5 w8 w.heap.size 0 (leafTr 8 0 0 SS) ⟨none, 0, 0, []⟩) w.heap.size 28 _ := Blk.five_ R8 (leafTr 8 0 0 SS) ⟨none, 0, 0, []⟩
      have hbl : Below w.heap.size w (set5 w8 w.heap.size 0 (leafTr 8 0 0 SS) ⟨none, 0, 0, []⟩) := below_set5 K8 (Nat.le_refl _)
      have hres := fun (tm : Array Value) (hp : tm.getD 6 undef = .pointer (some ⟨w.heap.size, 0, none⟩)) => results_blk3 (P := Tryz.prog) (tmps := tm) Tryz.results19 Tryz.isAgg28 (by exact Tryz.sizeOf28) hp hblk
      refine bodyPost_ret (hres _ rfl) rfl ?_
      have hss := HSS.out
      subst hss
      exact ⟨⟨none, 0, 0, []⟩, rfl, LsAt.nil_ _ _, Own.nil_ _ _, hbl⟩
    | good ys yq =>
      unfold strV at HS1 HP
      simp only at HS1 HP
      obtain ⟨SS, hSS⟩ : ∃ SS, (⟨s.toArray⟩ : ByteArray) = SS := ⟨_, rfl⟩
      rw [hSS] at HP
      have HSS := Lib.hid hSS
      clear hSS
      go_upto_region 47 with (first
          | (go_at_call 33; refine HS1.mono ?_; rintro r w5 ⟨rfl, hb5⟩; have M7 := M5.below hb5 M5.lt; have g0 := M7.cell 0; have g2 := M7.cell 2; simp only [List.getElem?_toArray, List.getElem?_cons_succ, List.getElem?_cons_zero] at g0 g2; have hP1 := HP w5 (h.below ((K5.up hb5).mono hB)) (Nat.le_trans hB (K5.up hb5).size))
          | (go_at_call 34; refine hP1.mono ?_; rintro r w6 ⟨rfl, hb6⟩; have kk := hb5.up hb6; have V7 := V5.below kk V5.lt; have p3 := V7.cell 3; have f3 := V7.frozen 3; simp only [List.getElem?_toArray, List.getElem?_cons_succ, List.getElem?_cons_zero] at p3))
      have R8 := (R5.below kk R5.lt).far (p := ⟨bv, 3, none⟩) (by show w.heap.size ≠ bv; omega) (.string SS)
      have N8 := (N5.below kk N5.lt).far (p := ⟨bv, 3, none⟩) (by show w.heap.size + 1 ≠ bv; omega) (.string SS)
      have V8 : Blk (w6.setCell ⟨bv, 3, none⟩ (.string SS)) bv 28 #[.int .i64 8, .int .i64 0, .int .i64 0, .string SS, .slice none 0 0] := by simpa using V7.set_ 3 (.string SS)
      have K8 := (K5.up kk).setCell (p := ⟨bv, 3, none⟩) (by show w.heap.size ≤ bv; omega) (.string SS)
      generalize w6.setCell ⟨bv, 3, none⟩ (.string SS) = w8 at R8 N8 V8 K8 ⊢
      clear R5 N5 M5 V5 K5 V7 p3 f3 HS1 HP hP1
      have V9 : Blk w8 bv 28 (valCells (leafTr 8 0 0 SS) ⟨none, 0, 0, []⟩) := V8
      obtain ⟨v0, v1, v2, v3, v4⟩ := V9.boxV
      obtain ⟨x0, x1, x2, x3, x4, ⟨s0, t0⟩, ⟨s1, t1⟩, ⟨s2, t2⟩, ⟨s3, t3⟩, s4, t4⟩ := R8.five (o := 0) (by simp) (.int .i64 (leafTr 8 0 0 SS).k) (.int .i64 (leafTr 8 0 0 SS).n) (.int .i64 (leafTr 8 0 0 SS).x) (.string (leafTr 8 0 0 SS).s)
      go_wp2_with fail
      have hblk : Blk (set5 w8 w.heap.size 0 (leafTr 8 0 0 SS) ⟨none, 0, 0, []⟩) w.heap.size 28 _ := Blk.five_ R8 (leafTr 8 0 0 SS) ⟨none, 0, 0, []⟩
      have hbl : Below w.heap.size w (set5 w8 w.heap.size 0 (leafTr 8 0 0 SS) ⟨none, 0, 0, []⟩) := below_set5 K8 (Nat.le_refl _)
      have hres := fun (tm : Array Value) (hp : tm.getD 6 undef = .pointer (some ⟨w.heap.size, 0, none⟩)) => results_blk3 (P := Tryz.prog) (tmps := tm) Tryz.results19 Tryz.isAgg28 (by exact Tryz.sizeOf28) hp hblk
      refine bodyPost_ret (hres _ rfl) rfl ?_
      have hss := HSS.out
      subst hss
      exact ⟨⟨none, 0, 0, []⟩, rfl, LsAt.nil_ _ _, Own.nil_ _ _, hbl⟩
set_option maxHeartbeats 4000000 in
theorem s_T_str3 (A : Option Addr) (n c : Nat) (b : List UInt8) (i d e : Int) (w : World) (B : Nat) (h : Sl w B 1 A n c (u8s b)) (hB : B ≤ w.heap.size) (hn : n ≤ 1048576) (hi : -9223372036854775808 ≤ i ∧ i ≤ 9223372036854775807) (he : capD d = e) (hd : 1 ≤ e) (m wd q : Int) (hG : getHead b i = (3, m, wd, q, 0)) (hw : wd ≠ -1) :
    Calls Tryz.prog 19 #[.slice A n c, .int .i64 i, .int .i64 d] w fun r w' => GetRes w w' (resR (closeS 3 (anyS b 3 m wd q.toNat))).1 (resP (closeS 3 (anyS b 3 m wd q.toNat))) (resR (closeS 3 (anyS b 3 m wd q.toNat))).2 r := by
  have hgood := head_facts hG
  obtain ⟨qn, rfl⟩ := Int.eq_ofNat_of_zero_le (show 0 ≤ q by omega)
  have hq : qn ≤ n := by have := h.blen; omega
  rw [Int.toNat_natCast]
  have hw0 : decide (wd < 0) = false := decide_eq_false (by omega)
  obtain ⟨mm, rfl⟩ := Int.eq_ofNat_of_zero_le hgood.2.2.2.2.1.1
  have HS := fun w1 hh hBB => s_l14Str A n c b qn mm 3 wd w1 B hh hBB hn hq (by omega)
  have hXb : ∀ c0, anyS b 3 mm wd qn = .bad c0 → c0 ≠ 0 := fun c0 hx => anyS_bad hx
  rw [show anyS b 3 mm wd qn = strR b 3 mm qn by unfold anyS; rw [if_neg hw]] at hXb ⊢
  obtain ⟨X, hX⟩ : ∃ X, strR b 3 (mm : Int) qn = X := ⟨_, rfl⟩
  rw [hX] at hXb HS ⊢
  clear hX
  have k2 := Below.two w (.cells #[.int .i64 0, .int .i64 0, .int .i64 0, .string ⟨#[]⟩, .slice none 0 0] 28) (.cells #[.int .i64 0, .int .i64 0, .int .i64 0, .string ⟨#[]⟩, .slice none 0 0] 28)
  have hR : Blk ((w.alloc (.cells #[.int .i64 0, .int .i64 0, .int .i64 0, .string ⟨#[]⟩, .slice none 0 0] 28)).alloc (.cells #[.int .i64 0, .int .i64 0, .int .i64 0, .string ⟨#[]⟩, .slice none 0 0] 28)) w.heap.size 28 #[.int .i64 0, .int .i64 0, .int .i64 0, .string ⟨#[]⟩, .slice none 0 0] := (Blk.new w _ _).alloc _
  have hN : Blk ((w.alloc (.cells #[.int .i64 0, .int .i64 0, .int .i64 0, .string ⟨#[]⟩, .slice none 0 0] 28)).alloc (.cells #[.int .i64 0, .int .i64 0, .int .i64 0, .string ⟨#[]⟩, .slice none 0 0] 28)) (w.heap.size + 1) 28 #[.int .i64 0, .int .i64 0, .int .i64 0, .string ⟨#[]⟩, .slice none 0 0] := by simpa using Blk.new (w.alloc (.cells #[.int .i64 0, .int .i64 0, .int .i64 0, .string ⟨#[]⟩, .slice none 0 0] 28)) 28 #[.int .i64 0, .int .i64 0, .int .i64 0, .string ⟨#[]⟩, .slice none 0 0]
  have hdd : decide (e < 1) = false := decide_eq_false (by omega)
  go_enter Tryz.func19, Tryz.ntmps19
  go_upto_region 2 with fail
  generalize (w.alloc (.cells #[.int .i64 0, .int .i64 0, .int .i64 0, .string ⟨#[]⟩, .slice none 0 0] 28)).alloc (.cells #[.int .i64 0, .int .i64 0, .int .i64 0, .string ⟨#[]⟩, .slice none 0 0] 28) = wa at k2 hR hN ⊢
  go_upto_if 23 with fail
  go_cut [2] (fun s2 w' => s2 = .int .i64 e ∧ w' = wa)
  case first =>
    by_cases hdc : 10000 < d
    · have e1 : e = 10000 := by rw [← he]; unfold capD; rw [if_pos hdc]
      go_wp2_with fail
      go_meet
      case rel => exact ⟨by rw [e1], rfl⟩
    · have e1 : e = d := by rw [← he]; unfold capD; rw [if_neg hdc]
      go_wp2_with fail
      go_meet
      case rel => exact ⟨by rw [e1], rfl⟩
  case rest =>
  obtain ⟨rfl, rfl⟩ := hcut
  go_upto_region 6 with fail
  have HM := s_GetHead A n c b i wc B (h.below (k2.mono hB)) (Nat.le_trans hB k2.size) hn hi
  rw [hG] at HM
  unfold ret5 headRet at HM
  go_upto_region 7 with (go_at_call 31; refine HM.mono ?_; rintro r w2 ⟨rfl, hb2⟩)
  have km := Below.one w2 (.cells #[.int .i64 3, .int .i64 mm, .int .i64 wd] 36)
  have R3 := (hR.below hb2 hR.lt).below km (hR.below hb2 hR.lt).lt
  have N3 := (hN.below hb2 hN.lt).below km (hN.below hb2 hN.lt).lt
  have M3 := Blk.new w2 36 #[.int .i64 3, .int .i64 mm, .int .i64 wd]
  have K3 := (k2.up hb2).up km
  generalize w2.heap.size = bm at M3 ⊢
  generalize w2.alloc (.cells #[.int .i64 3, .int .i64 mm, .int .i64 wd] 36) = wb at R3 N3 M3 K3 ⊢
  clear hR hN HM hb2 km k2
  have e0 := M3.cell 0
  have e1 := M3.cell 1
  have e2 := M3.cell 2
  simp only [List.getElem?_toArray, List.getElem?_cons_succ, List.getElem?_cons_zero] at e0 e1 e2
  go_upto_region 10 with fail
  have kv := Below.one wb (.cells #[.int .i64 0, .int .i64 0, .int .i64 0, .string ⟨#[]⟩, .slice none 0 0] 28)
  have R4 := R3.below kv R3.lt
  have N4 := N3.below kv N3.lt
  have M4 := M3.below kv M3.lt
  have V4 := Blk.new wb 28 #[.int .i64 0, .int .i64 0, .int .i64 0, .string ⟨#[]⟩, .slice none 0 0]
  have K4 := K3.up kv
  have zv : w.heap.size + 1 < wb.heap.size := N3.lt
  have zm : bm < wb.heap.size := M3.lt
  generalize wb.heap.size = bv at V4 zv zm ⊢
  generalize wb.alloc (.cells #[.int .i64 0, .int .i64 0, .int .i64 0, .string ⟨#[]⟩, .slice none 0 0] 28) = wd0 at R4 N4 M4 V4 K4 ⊢
  clear R3 N3 M3 K3 kv e0 e1 e2
  have e0 := M4.cell 0
  have e1 := M4.cell 1
  have e2 := M4.cell 2
  simp only [List.getElem?_toArray, List.getElem?_cons_succ, List.getElem?_cons_zero] at e0 e1 e2
  have f0 := V4.frozen 0
  have p0 := V4.cell 0
  simp only [List.getElem?_toArray, List.getElem?_cons_succ, List.getElem?_cons_zero] at p0
  go_upto_region 35 with fail
  have R5 := R4.far (p := ⟨bv, 0, none⟩) (by show w.heap.size ≠ bv; omega) (.int .i64 8)
  have N5 := N4.far (p := ⟨bv, 0, none⟩) (by show w.heap.size + 1 ≠ bv; omega) (.int .i64 8)
  have M5 := M4.far (p := ⟨bv, 0, none⟩) (by show bm ≠ bv; omega) (.int .i64 8)
  have V5 : Blk (wd0.setCell ⟨bv, 0, none⟩ (.int .i64 8)) bv 28 #[.int .i64 8, .int .i64 0, .int .i64 0, .string ⟨#[]⟩, .slice none 0 0] := by simpa using V4.set_ 0 (.int .i64 8)
  have K5 := K4.setCell (p := ⟨bv, 0, none⟩) (by show w.heap.size ≤ bv; omega) (.int .i64 8)
  generalize wd0.setCell ⟨bv, 0, none⟩ (.int .i64 8) = wd1 at R5 N5 M5 V5 K5 ⊢
  clear R4 N4 M4 V4 K4 f0 p0 e0 e1 e2
  have e0 := M5.cell 0
  have e1 := M5.cell 1
  have e2 := M5.cell 2
  simp only [List.getElem?_toArray, List.getElem?_cons_succ, List.getElem?_cons_zero] at e0 e1 e2
  have f0 := V5.frozen 0
  have p0 := V5.cell 0
  simp only [List.getElem?_toArray, List.getElem?_cons_succ, List.getElem?_cons_zero] at p0
  go_upto_region 37 with fail
  have R6 := R5.far (p := ⟨bv, 0, none⟩) (by show w.heap.size ≠ bv; omega) (.int .i64 7)
  have N6 := N5.far (p := ⟨bv, 0, none⟩) (by show w.heap.size + 1 ≠ bv; omega) (.int .i64 7)
  have M6 := M5.far (p := ⟨bv, 0, none⟩) (by show bm ≠ bv; omega) (.int .i64 7)
  have V6 : Blk (wd1.setCell ⟨bv, 0, none⟩ (.int .i64 7)) bv 28 #[.int .i64 7, .int .i64 0, .int .i64 0, .string ⟨#[]⟩, .slice none 0 0] := by simpa using V5.set_ 0 (.int .i64 7)
  have K6 := K5.setCell (p := ⟨bv, 0, none⟩) (by show w.heap.size ≤ bv; omega) (.int .i64 7)
  generalize wd1.setCell ⟨bv, 0, none⟩ (.int .i64 7) = wd2 at R6 N6 M6 V6 K6 ⊢
  clear R5 N5 M5 V5 K5 f0 p0 e0 e1 e2
  have e0 := M6.cell 0
  have e1 := M6.cell 1
  have e2 := M6.cell 2
  simp only [List.getElem?_toArray, List.getElem?_cons_succ, List.getElem?_cons_zero] at e0 e1 e2
  have R5 := R6
  have N5 := N6
  have M5 := M6
  have V5 := V6
  have K5 := K6
  clear R6 N6 M6 V6 K6
  have HS1 := HS wd2 (h.below (K5.mono hB)) (Nat.le_trans hB K5.size)
  clear HS
  cases X with
  | bad c0 =>
    unfold strV at HS1
    simp only at HS1
    have hc0 := hXb c0 rfl
    have hcb : (c0 != 0) = true := by simpa using hc0
    go_upto_region 46 with (go_at_call 33; refine HS1.mono ?_; rintro r w5 ⟨rfl, hb5⟩; have M7 := M5.below hb5 M5.lt; have g0 := M7.cell 0; have g2 := M7.cell 2; simp only [List.getElem?_toArray, List.getElem?_cons_succ, List.getElem?_cons_zero] at g0 g2; have V7 := V5.below hb5 V5.lt; have p3 := V7.cell 3; have f3 := V7.frozen 3; simp only [List.getElem?_toArray, List.getElem?_cons_succ, List.getElem?_cons_zero] at p3)
    have R8 := (R5.below hb5 R5.lt).far (p := ⟨bv, 3, none⟩) (by show w.heap.size ≠ bv; omega) (.string ⟨#[]⟩)
    have N8 := (N5.below hb5 N5.lt).far (p := ⟨bv, 3, none⟩) (by show w.heap.size + 1 ≠ bv; omega) (.string ⟨#[]⟩)
    have V8 : Blk (w5.setCell ⟨bv, 3, none⟩ (.string ⟨#[]⟩)) bv 28 #[.int .i64 7, .int .i64 0, .int .i64 0, .string ⟨#[]⟩, .slice none 0 0] := by simpa using V7.set_ 3 (.string ⟨#[]⟩)
    have K8 := (K5.up hb5).setCell (p := ⟨bv, 3, none⟩) (by show w.heap.size ≤ bv; omega) (.string ⟨#[]⟩)
    generalize w5.setCell ⟨bv, 3, none⟩ (.string ⟨#[]⟩) = w8 at R8 N8 V8 K8 ⊢
    clear R5 N5 M5 V5 K5 V7 p3 f3 HS1 
    have b0 := N8.cell 0
    have b1 := N8.cell 1
    have b2 := N8.cell 2
    have b3 := N8.cell 3
    have b4 := N8.cell 4
    simp only [List.getElem?_toArray, List.getElem?_cons_succ, List.getElem?_cons_zero] at b0 b1 b2 b3 b4
    obtain ⟨x0, x1, x2, x3, x4, ⟨s0, t0⟩, ⟨s1, t1⟩, ⟨s2, t2⟩, ⟨s3, t3⟩, s4, t4⟩ := R8.five (o := 0) (by simp) (.int .i64 0) (.int .i64 0) (.int .i64 0) (.string ⟨#[]⟩)
    go_wp2_with fail
    have hblk : Blk (set5 w8 w.heap.size 0 zeroT ⟨none, 0, 0, []⟩) w.heap.size 28 _ := Blk.five_ R8 zeroT ⟨none, 0, 0, []⟩
    have hbl : Below w.heap.size w (set5 w8 w.heap.size 0 zeroT ⟨none, 0, 0, []⟩) := below_set5 K8 (Nat.le_refl _)
    have hres := fun (tm : Array Value) (hp : tm.getD 6 undef = .pointer (some ⟨w.heap.size, 0, none⟩)) => results_blk3 (P := Tryz.prog) (tmps := tm) Tryz.results19 Tryz.isAgg28 (by exact Tryz.sizeOf28) hp hblk
    refine bodyPost_ret (hres _ rfl) rfl ?_
    exact ⟨⟨none, 0, 0, []⟩, rfl, LsAt.nil_ _ _, Own.nil_ _ _, hbl⟩
  | good s q' =>
    unfold strV at HS1
    simp only at HS1
    obtain ⟨SS, hSS⟩ : ∃ SS, (⟨s.toArray⟩ : ByteArray) = SS := ⟨_, rfl⟩
    rw [hSS] at HS1
    have HSS := Lib.hid hSS
    clear hSS
    go_upto_region 47 with (go_at_call 33; refine HS1.mono ?_; rintro r w5 ⟨rfl, hb5⟩; have M7 := M5.below hb5 M5.lt; have g0 := M7.cell 0; have g2 := M7.cell 2; simp only [List.getElem?_toArray, List.getElem?_cons_succ, List.getElem?_cons_zero] at g0 g2; have V7 := V5.below hb5 V5.lt; have p3 := V7.cell 3; have f3 := V7.frozen 3; simp only [List.getElem?_toArray, List.getElem?_cons_succ, List.getElem?_cons_zero] at p3)
    have R8 := (R5.below hb5 R5.lt).far (p := ⟨bv, 3, none⟩) (by show w.heap.size ≠ bv; omega) (.string SS)
    have N8 := (N5.below hb5 N5.lt).far (p := ⟨bv, 3, none⟩) (by show w.heap.size + 1 ≠ bv; omega) (.string SS)
    have V8 : Blk (w5.setCell ⟨bv, 3, none⟩ (.string SS)) bv 28 #[.int .i64 7, .int .i64 0, .int .i64 0, .string SS, .slice none 0 0] := by simpa using V7.set_ 3 (.string SS)
    have K8 := (K5.up hb5).setCell (p := ⟨bv, 3, none⟩) (by show w.heap.size ≤ bv; omega) (.string SS)
    generalize w5.setCell ⟨bv, 3, none⟩ (.string SS) = w8 at R8 N8 V8 K8 ⊢
    clear R5 N5 M5 V5 K5 V7 p3 f3 HS1 
    have V9 : Blk w8 bv 28 (valCells (leafTr 7 0 0 SS) ⟨none, 0, 0, []⟩) := V8
    obtain ⟨v0, v1, v2, v3, v4⟩ := V9.boxV
    obtain ⟨x0, x1, x2, x3, x4, ⟨s0, t0⟩, ⟨s1, t1⟩, ⟨s2, t2⟩, ⟨s3, t3⟩, s4, t4⟩ := R8.five (o := 0) (by simp) (.int .i64 (leafTr 7 0 0 SS).k) (.int .i64 (leafTr 7 0 0 SS).n) (.int .i64 (leafTr 7 0 0 SS).x) (.string (leafTr 7 0 0 SS).s)
    go_wp2_with fail
    have hblk : Blk (set5 w8 w.heap.size 0 (leafTr 7 0 0 SS) ⟨none, 0, 0, []⟩) w.heap.size 28 _ := Blk.five_ R8 (leafTr 7 0 0 SS) ⟨none, 0, 0, []⟩
    have hbl : Below w.heap.size w (set5 w8 w.heap.size 0 (leafTr 7 0 0 SS) ⟨none, 0, 0, []⟩) := below_set5 K8 (Nat.le_refl _)
    have hres := fun (tm : Array Value) (hp : tm.getD 6 undef = .pointer (some ⟨w.heap.size, 0, none⟩)) => results_blk3 (P := Tryz.prog) (tmps := tm) Tryz.results19 Tryz.isAgg28 (by exact Tryz.sizeOf28) hp hblk
    refine bodyPost_ret (hres _ rfl) rfl ?_
    have hss := HSS.out
    subst hss
    exact ⟨⟨none, 0, 0, []⟩, rfl, LsAt.nil_ _ _, Own.nil_ _ _, hbl⟩
set_option maxHeartbeats 4000000 in
theorem s_T_str3i (A : Option Addr) (n c : Nat) (b : List UInt8) (i d e : Int) (w : World) (B : Nat) (h : Sl w B 1 A n c (u8s b)) (hB : B ≤ w.heap.size) (hn : n ≤ 1048576) (hi : -9223372036854775808 ≤ i ∧ i ≤ 9223372036854775807) (he : capD d = e) (hd : 1 ≤ e) (q : Int) (hG : getHead b i = (3, 0, -1, q, 0)) :
    Calls Tryz.prog 19 #[.slice A n c, .int .i64 i, .int .i64 d] w fun r w' => GetRes w w' (resR (closeS 3 (anyS b 3 0 (-1) q.toNat))).1 (resP (closeS 3 (anyS b 3 0 (-1) q.toNat))) (resR (closeS 3 (anyS b 3 0 (-1) q.toNat))).2 r := by
  have hgood := head_facts hG
  obtain ⟨qn, rfl⟩ := Int.eq_ofNat_of_zero_le (show 0 ≤ q by omega)
  have hq : qn ≤ n := by have := h.blen; omega
  rw [Int.toNat_natCast]
  have HP := fun w1 hh hBB => s_l14Parts A n c b qn 3 w1 B hh hBB hn hq (by omega)
  have HS := fun w1 hh hBB => s_l14Str A n c b qn 0 3 (-1) w1 B hh hBB hn hq (by omega)
  obtain ⟨Y, hY⟩ : ∃ Y, strR b 3 (0 : Nat) qn = Y := ⟨_, rfl⟩
  rw [hY] at HS
  clear hY
  have hXb : ∀ c0, anyS b 3 0 (-1) qn = .bad c0 → c0 ≠ 0 := fun c0 hx => anyS_bad hx
  rw [show anyS b 3 0 (-1) qn = partsR b 3 (b.length + 1) qn [] by unfold anyS; rw [if_pos rfl]] at hXb ⊢
  obtain ⟨X, hX⟩ : ∃ X, partsR b 3 (b.length + 1) qn [] = X := ⟨_, rfl⟩
  rw [hX] at hXb HP ⊢
  clear hX
  have k2 := Below.two w (.cells #[.int .i64 0, .int .i64 0, .int .i64 0, .string ⟨#[]⟩, .slice none 0 0] 28) (.cells #[.int .i64 0, .int .i64 0, .int .i64 0, .string ⟨#[]⟩, .slice none 0 0] 28)
  have hR : Blk ((w.alloc (.cells #[.int .i64 0, .int .i64 0, .int .i64 0, .string ⟨#[]⟩, .slice none 0 0] 28)).alloc (.cells #[.int .i64 0, .int .i64 0, .int .i64 0, .string ⟨#[]⟩, .slice none 0 0] 28)) w.heap.size 28 #[.int .i64 0, .int .i64 0, .int .i64 0, .string ⟨#[]⟩, .slice none 0 0] := (Blk.new w _ _).alloc _
  have hN : Blk ((w.alloc (.cells #[.int .i64 0, .int .i64 0, .int .i64 0, .string ⟨#[]⟩, .slice none 0 0] 28)).alloc (.cells #[.int .i64 0, .int .i64 0, .int .i64 0, .string ⟨#[]⟩, .slice none 0 0] 28)) (w.heap.size + 1) 28 #[.int .i64 0, .int .i64 0, .int .i64 0, .string ⟨#[]⟩, .slice none 0 0] := by simpa using Blk.new (w.alloc (.cells #[.int .i64 0, .int .i64 0, .int .i64 0, .string ⟨#[]⟩, .slice none 0 0] 28)) 28 #[.int .i64 0, .int .i64 0, .int .i64 0, .string ⟨#[]⟩, .slice none 0 0]
  have hdd : decide (e < 1) = false := decide_eq_false (by omega)
  go_enter Tryz.func19, Tryz.ntmps19
  go_upto_region 2 with fail
  generalize (w.alloc (.cells #[.int .i64 0, .int .i64 0, .int .i64 0, .string ⟨#[]⟩, .slice none 0 0] 28)).alloc (.cells #[.int .i64 0, .int .i64 0, .int .i64 0, .string ⟨#[]⟩, .slice none 0 0] 28) = wa at k2 hR hN ⊢
  go_upto_if 23 with fail
  go_cut [2] (fun s2 w' => s2 = .int .i64 e ∧ w' = wa)
  case first =>
    by_cases hdc : 10000 < d
    · have e1 : e = 10000 := by rw [← he]; unfold capD; rw [if_pos hdc]
      go_wp2_with fail
      go_meet
      case rel => exact ⟨by rw [e1], rfl⟩
    · have e1 : e = d := by rw [← he]; unfold capD; rw [if_neg hdc]
      go_wp2_with fail
      go_meet
      case rel => exact ⟨by rw [e1], rfl⟩
  case rest =>
  obtain ⟨rfl, rfl⟩ := hcut
  go_upto_region 6 with fail
  have HM := s_GetHead A n c b i wc B (h.below (k2.mono hB)) (Nat.le_trans hB k2.size) hn hi
  rw [hG] at HM
  unfold ret5 headRet at HM
  go_upto_region 7 with (go_at_call 31; refine HM.mono ?_; rintro r w2 ⟨rfl, hb2⟩)
  have km := Below.one w2 (.cells #[.int .i64 3, .int .i64 0, .int .i64 (-1)] 36)
  have R3 := (hR.below hb2 hR.lt).below km (hR.below hb2 hR.lt).lt
  have N3 := (hN.below hb2 hN.lt).below km (hN.below hb2 hN.lt).lt
  have M3 := Blk.new w2 36 #[.int .i64 3, .int .i64 0, .int .i64 (-1)]
  have K3 := (k2.up hb2).up km
  generalize w2.heap.size = bm at M3 ⊢
  generalize w2.alloc (.cells #[.int .i64 3, .int .i64 0, .int .i64 (-1)] 36) = wb at R3 N3 M3 K3 ⊢
  clear hR hN HM hb2 km k2
  have e0 := M3.cell 0
  have e1 := M3.cell 1
  have e2 := M3.cell 2
  simp only [List.getElem?_toArray, List.getElem?_cons_succ, List.getElem?_cons_zero] at e0 e1 e2
  go_upto_region 10 with fail
  have kv := Below.one wb (.cells #[.int .i64 0, .int .i64 0, .int .i64 0, .string ⟨#[]⟩, .slice none 0 0] 28)
  have R4 := R3.below kv R3.lt
  have N4 := N3.below kv N3.lt
  have M4 := M3.below kv M3.lt
  have V4 := Blk.new wb 28 #[.int .i64 0, .int .i64 0, .int .i64 0, .string ⟨#[]⟩, .slice none 0 0]
  have K4 := K3.up kv
  have zv : w.heap.size + 1 < wb.heap.size := N3.lt
  have zm : bm < wb.heap.size := M3.lt
  generalize wb.heap.size = bv at V4 zv zm ⊢
  generalize wb.alloc (.cells #[.int .i64 0, .int .i64 0, .int .i64 0, .string ⟨#[]⟩, .slice none 0 0] 28) = wd0 at R4 N4 M4 V4 K4 ⊢
  clear R3 N3 M3 K3 kv e0 e1 e2
  have e0 := M4.cell 0
  have e1 := M4.cell 1
  have e2 := M4.cell 2
  simp only [List.getElem?_toArray, List.getElem?_cons_succ, List.getElem?_cons_zero] at e0 e1 e2
  have f0 := V4.frozen 0
  have p0 := V4.cell 0
  simp only [List.getElem?_toArray, List.getElem?_cons_succ, List.getElem?_cons_zero] at p0
  go_upto_region 35 with fail
  have R5 := R4.far (p := ⟨bv, 0, none⟩) (by show w.heap.size ≠ bv; omega) (.int .i64 8)
  have N5 := N4.far (p := ⟨bv, 0, none⟩) (by show w.heap.size + 1 ≠ bv; omega) (.int .i64 8)
  have M5 := M4.far (p := ⟨bv, 0, none⟩) (by show bm ≠ bv; omega) (.int .i64 8)
  have V5 : Blk (wd0.setCell ⟨bv, 0, none⟩ (.int .i64 8)) bv 28 #[.int .i64 8, .int .i64 0, .int .i64 0, .string ⟨#[]⟩, .slice none 0 0] := by simpa using V4.set_ 0 (.int .i64 8)
  have K5 := K4.setCell (p := ⟨bv, 0, none⟩) (by show w.heap.size ≤ bv; omega) (.int .i64 8)
  generalize wd0.setCell ⟨bv, 0, none⟩ (.int .i64 8) = wd1 at R5 N5 M5 V5 K5 ⊢
  clear R4 N4 M4 V4 K4 f0 p0 e0 e1 e2
  have e0 := M5.cell 0
  have e1 := M5.cell 1
  have e2 := M5.cell 2
  simp only [List.getElem?_toArray, List.getElem?_cons_succ, List.getElem?_cons_zero] at e0 e1 e2
  have f0 := V5.frozen 0
  have p0 := V5.cell 0
  simp only [List.getElem?_toArray, List.getElem?_cons_succ, List.getElem?_cons_zero] at p0
  go_upto_region 37 with fail
  have R6 := R5.far (p := ⟨bv, 0, none⟩) (by show w.heap.size ≠ bv; omega) (.int .i64 7)
  have N6 := N5.far (p := ⟨bv, 0, none⟩) (by show w.heap.size + 1 ≠ bv; omega) (.int .i64 7)
  have M6 := M5.far (p := ⟨bv, 0, none⟩) (by show bm ≠ bv; omega) (.int .i64 7)
  have V6 : Blk (wd1.setCell ⟨bv, 0, none⟩ (.int .i64 7)) bv 28 #[.int .i64 7, .int .i64 0, .int .i64 0, .string ⟨#[]⟩, .slice none 0 0] := by simpa using V5.set_ 0 (.int .i64 7)
  have K6 := K5.setCell (p := ⟨bv, 0, none⟩) (by show w.heap.size ≤ bv; omega) (.int .i64 7)
  generalize wd1.setCell ⟨bv, 0, none⟩ (.int .i64 7) = wd2 at R6 N6 M6 V6 K6 ⊢
  clear R5 N5 M5 V5 K5 f0 p0 e0 e1 e2
  have e0 := M6.cell 0
  have e1 := M6.cell 1
  have e2 := M6.cell 2
  simp only [List.getElem?_toArray, List.getElem?_cons_succ, List.getElem?_cons_zero] at e0 e1 e2
  have R5 := R6
  have N5 := N6
  have M5 := M6
  have V5 := V6
  have K5 := K6
  clear R6 N6 M6 V6 K6
  have HS1 := HS wd2 (h.below (K5.mono hB)) (Nat.le_trans hB K5.size)
  clear HS
  cases X with
  | bad c0 =>
    cases Y with
    | bad y0 =>
      unfold strV at HS1 HP
      simp only at HS1 HP
      have hc0 := hXb c0 rfl
      have hcb : (c0 != 0) = true := by simpa using hc0
      go_upto_region 46 with (first
          | (go_at_call 33; refine HS1.mono ?_; rintro r w5 ⟨rfl, hb5⟩; have M7 := M5.below hb5 M5.lt; have g0 := M7.cell 0; have g2 := M7.cell 2; simp only [List.getElem?_toArray, List.getElem?_cons_succ, List.getElem?_cons_zero] at g0 g2; have hP1 := HP w5 (h.below ((K5.up hb5).mono hB)) (Nat.le_trans hB (K5.up hb5).size))
          | (go_at_call 34; refine hP1.mono ?_; rintro r w6 ⟨rfl, hb6⟩; have kk := hb5.up hb6; have V7 := V5.below kk V5.lt; have p3 := V7.cell 3; have f3 := V7.frozen 3; simp only [List.getElem?_toArray, List.getElem?_cons_succ, List.getElem?_cons_zero] at p3))
      have R8 := (R5.below kk R5.lt).far (p := ⟨bv, 3, none⟩) (by show w.heap.size ≠ bv; omega) (.string ⟨#[]⟩)
      have N8 := (N5.below kk N5.lt).far (p := ⟨bv, 3, none⟩) (by show w.heap.size + 1 ≠ bv; omega) (.string ⟨#[]⟩)
      have V8 : Blk (w6.setCell ⟨bv, 3, none⟩ (.string ⟨#[]⟩)) bv 28 #[.int .i64 7, .int .i64 0, .int .i64 0, .string ⟨#[]⟩, .slice none 0 0] := by simpa using V7.set_ 3 (.string ⟨#[]⟩)
      have K8 := (K5.up kk).setCell (p := ⟨bv, 3, none⟩) (by show w.heap.size ≤ bv; omega) (.string ⟨#[]⟩)
      generalize w6.setCell ⟨bv, 3, none⟩ (.string ⟨#[]⟩) = w8 at R8 N8 V8 K8 ⊢
      clear R5 N5 M5 V5 K5 V7 p3 f3 HS1 HP hP1
      have b0 := N8.cell 0
      have b1 := N8.cell 1
      have b2 := N8.cell 2
      have b3 := N8.cell 3
      have b4 := N8.cell 4
      simp only [List.getElem?_toArray, List.getElem?_cons_succ, List.getElem?_cons_zero] at b0 b1 b2 b3 b4
      obtain ⟨x0, x1, x2, x3, x4, ⟨s0, t0⟩, ⟨s1, t1⟩, ⟨s2, t2⟩, ⟨s3, t3⟩, s4, t4⟩ := R8.five (o := 0) (by simp) (.int .i64 0) (.int .i64 0) (.int .i64 0) (.string ⟨#[]⟩)
      go_wp2_with fail
      have hblk : Blk (set5 w8 w.heap.size 0 zeroT ⟨none, 0, 0, []⟩) w.heap.size 28 _ := Blk.five_ R8 zeroT ⟨none, 0, 0, []⟩
      have hbl : Below w.heap.size w (set5 w8 w.heap.size 0 zeroT ⟨none, 0, 0, []⟩) := below_set5 K8 (Nat.le_refl _)
      have hres := fun (tm : Array Value) (hp : tm.getD 6 undef = .pointer (some ⟨w.heap.size, 0, none⟩)) => results_blk3 (P := Tryz.prog) (tmps := tm) Tryz.results19 Tryz.isAgg28 (by exact Tryz.sizeOf28) hp hblk
      refine bodyPost_ret (hres _ rfl) rfl ?_
      exact ⟨⟨none, 0, 0, []⟩, rfl, LsAt.nil_ _ _, Own.nil_ _ _, hbl⟩
    | good ys yq =>
      unfold strV at HS1 HP
      simp only at HS1 HP
      have hc0 := hXb c0 rfl
      have hcb : (c0 != 0) = true := by simpa using hc0
      go_upto_region 46 with (first
          | (go_at_call 33; refine HS1.mono ?_; rintro r w5 ⟨rfl, hb5⟩; have M7 := M5.below hb5 M5.lt; have g0 := M7.cell 0; have g2 := M7.cell 2; simp only [List.getElem?_toArray, List.getElem?_cons_succ, List.getElem?_cons_zero] at g0 g2; have hP1 := HP w5 (h.below ((K5.up hb5).mono hB)) (Nat.le_trans hB (K5.up hb5).size))
          | (go_at_call 34; refine hP1.mono ?_; rintro r w6 ⟨rfl, hb6⟩; have kk := hb5.up hb6; have V7 := V5.below kk V5.lt; have p3 := V7.cell 3; have f3 := V7.frozen 3; simp only [List.getElem?_toArray, List.getElem?_cons_succ, List.getElem?_cons_zero] at p3))
      have R8 := (R5.below kk R5.lt).far (p := ⟨bv, 3, none⟩) (by show w.heap.size ≠ bv; omega) (.string ⟨#[]⟩)
      have N8 := (N5.below kk N5.lt).far (p := ⟨bv, 3, none⟩) (by show w.heap.size + 1 ≠ bv; omega) (.string ⟨#[]⟩)
      have V8 : Blk (w6.setCell ⟨bv, 3, none⟩ (.string ⟨#[]⟩)) bv 28 #[.int .i64 7, .int .i64 0, .int .i64 0, .string ⟨#[]⟩, .slice none 0 0] := by simpa using V7.set_ 3 (.string ⟨#[]⟩)
      have K8 := (K5.up kk).setCell (p := ⟨bv, 3, none⟩) (by show w.heap.size ≤ bv; omega) (.string ⟨#[]⟩)
      generalize w6.setCell ⟨bv, 3, none⟩ (.string ⟨#[]⟩) = w8 at R8 N8 V8 K8 ⊢
      clear R5 N5 M5 V5 K5 V7 p3 f3 HS1 HP hP1
      have b0 := N8.cell 0
      have b1 := N8.cell 1
      have b2 := N8.cell 2
      have b3 := N8.cell 3
      have b4 := N8.cell 4
      simp only [List.getElem?_toArray, List.getElem?_cons_succ, List.getElem?_cons_zero] at b0 b1 b2 b3 b4
      obtain ⟨x0, x1, x2, x3, x4, ⟨s0, t0⟩, ⟨s1, t1⟩, ⟨s2, t2⟩, ⟨s3, t3⟩, s4, t4⟩ := R8.five (o := 0) (by simp) (.int .i64 0) (.int .i64 0) (.int .i64 0) (.string ⟨#[]⟩)
      go_wp2_with fail
      have hblk : Blk (set5 w8 w.heap.size 0 zeroT ⟨none, 0, 0, []⟩) w.heap.size 28 _ := Blk.five_ R8 zeroT ⟨none, 0, 0, []⟩
      have hbl : Below w.heap.size w (set5 w8 w.heap.size 0 zeroT ⟨none, 0, 0, []⟩) := below_set5 K8 (Nat.le_refl _)
      have hres := fun (tm : Array Value) (hp : tm.getD 6 undef = .pointer (some ⟨w.heap.size, 0, none⟩)) => results_blk3 (P := Tryz.prog) (tmps := tm) Tryz.results19 Tryz.isAgg28 (by exact Tryz.sizeOf28) hp hblk
      refine bodyPost_ret (hres _ rfl) rfl ?_
      exact ⟨⟨none, 0, 0, []⟩, rfl, LsAt.nil_ _ _, Own.nil_ _ _, hbl⟩
  | good s q' =>
    cases Y with
    | bad y0 =>
      unfold strV at HS1 HP
      simp only at HS1 HP
      obtain ⟨SS, hSS⟩ : ∃ SS, (⟨s.toArray⟩ : ByteArray) = SS := ⟨_, rfl⟩
      rw [hSS] at HP
      have HSS := Lib.hid hSS
      clear hSS
      go_upto_region 47 with (first
          | (go_at_call 33; refine HS1.mono ?_; rintro r w5 ⟨rfl, hb5⟩; have M7 := M5.below hb5 M5.lt; have g0 := M7.cell 0; have g2 := M7.cell 2; simp only [List.getElem?_toArray, List.getElem?_cons_succ, List.getElem?_cons_zero] at g0 g2; have hP1 := HP w5 (h.below ((K5.up hb5).mono hB)) (Nat.le_trans hB (K5.up hb5).size))
          | (go_at_call 34; refine hP1.mono ?_; rintro r w6 ⟨rfl, hb6⟩; have kk := hb5.up hb6; have V7 := V5.below kk V5.lt; have p3 := V7.cell 3; have f3 := V7.frozen 3; simp only [List.getElem?_toArray, List.getElem?_cons_succ, List.getElem?_cons_zero] at p3))
      have R8 := (R5.below kk R5.lt).far (p := ⟨bv, 3, none⟩) (by show w.heap.size ≠ bv; omega) (.string SS)
      have N8 := (N5.below kk N5.lt).far (p := ⟨bv, 3, none⟩) (by show w.heap.size + 1 ≠ bv; omega) (.string SS)
      have V8 : Blk (w6.setCell ⟨bv, 3, none⟩ (.string SS)) bv 28 #[.int .i64 7, .int .i64 0, .int .i64 0, .string SS, .slice none 0 0] := by simpa using V7.set_ 3 (.string SS)
      have K8 := (K5.up kk).setCell (p := ⟨bv, 3, none⟩) (by show w.heap.size ≤ bv; omega) (.string SS)
      generalize w6.setCell ⟨bv, 3, none⟩ (.string SS) = w8 at R8 N8 V8 K8 ⊢
      clear R5 N5 M5 V5 K5 V7 p3 f3 HS1 HP hP1
      have V9 : Blk w8 bv 28 (valCells (leafTr 7 0 0 SS) ⟨none, 0, 0, []⟩) := V8
      obtain ⟨v0, v1, v2, v3, v4⟩ := V9.boxV
      obtain ⟨x0, x1, x2, x3, x4, ⟨s0, t0⟩, ⟨s1, t1⟩, ⟨s2, t2⟩, ⟨s3, t3⟩, s4, t4⟩ := R8.five (o := 0) (by simp) (.int .i64 (leafTr 7 0 0 SS).k) (.int .i64 (leafTr 7 0 0 SS).n) (.int .i64 (leafTr 7 0 0 SS).x) (.string (leafTr 7 0 0 SS).s)
      go_wp2_with fail
      have hblk : Blk (set5 w8 w.heap.size 0 (leafTr 7 0 0 SS) ⟨none, 0, 0, []⟩) w.heap.size 28 _ := Blk.five_ R8 (leafTr 7 0 0 SS) ⟨none, 0, 0, []⟩
      have hbl : Below w.heap.size w (set5 w8 w.heap.size 0 (leafTr 7 0 0 SS) ⟨none, 0, 0, []⟩) := below_set5 K8 (Nat.le_refl _)
      have hres := fun (tm : Array Value) (hp : tm.getD 6 undef = .pointer (some ⟨w.heap.size, 0, none⟩)) => results_blk3 (P := Tryz.prog) (tmps := tm) Tryz.results19 Tryz.isAgg28 (by exact Tryz.sizeOf28) hp hblk
      refine bodyPost_ret (hres _ rfl) rfl ?_
      have hss := HSS.out
      subst hss
      exact ⟨⟨none, 0, 0, []⟩, rfl, LsAt.nil_ _ _, Own.nil_ _ _, hbl⟩
    | good ys yq =>
      unfold strV at HS1 HP
      simp only at HS1 HP
      obtain ⟨SS, hSS⟩ : ∃ SS, (⟨s.toArray⟩ : ByteArray) = SS := ⟨_, rfl⟩
      rw [hSS] at HP
      have HSS := Lib.hid hSS
      clear hSS
      go_upto_region 47 with (first
          | (go_at_call 33; refine HS1.mono ?_; rintro r w5 ⟨rfl, hb5⟩; have M7 := M5.below hb5 M5.lt; have g0 := M7.cell 0; have g2 := M7.cell 2; simp only [List.getElem?_toArray, List.getElem?_cons_succ, List.getElem?_cons_zero] at g0 g2; have hP1 := HP w5 (h.below ((K5.up hb5).mono hB)) (Nat.le_trans hB (K5.up hb5).size))
          | (go_at_call 34; refine hP1.mono ?_; rintro r w6 ⟨rfl, hb6⟩; have kk := hb5.up hb6; have V7 := V5.below kk V5.lt; have p3 := V7.cell 3; have f3 := V7.frozen 3; simp only [List.getElem?_toArray, List.getElem?_cons_succ, List.getElem?_cons_zero] at p3))
      have R8 := (R5.below kk R5.lt).far (p := ⟨bv, 3, none⟩) (by show w.heap.size ≠ bv; omega) (.string SS)
      have N8 := (N5.below kk N5.lt).far (p := ⟨bv, 3, none⟩) (by show w.heap.size + 1 ≠ bv; omega) (.string SS)
      have V8 : Blk (w6.setCell ⟨bv, 3, none⟩ (.string SS)) bv 28 #[.int .i64 7, .int .i64 0, .int .i64 0, .string SS, .slice none 0 0] := by simpa using V7.set_ 3 (.string SS)
      have K8 := (K5.up kk).setCell (p := ⟨bv, 3, none⟩) (by show w.heap.size ≤ bv; omega) (.string SS)
      generalize w6.setCell ⟨bv, 3, none⟩ (.string SS) = w8 at R8 N8 V8 K8 ⊢
      clear R5 N5 M5 V5 K5 V7 p3 f3 HS1 HP hP1
      have V9 : Blk w8 bv 28 (valCells (leafTr 7 0 0 SS) ⟨none, 0, 0, []⟩) := V8
      obtain ⟨v0, v1, v2, v3, v4⟩ := V9.boxV
      obtain ⟨x0, x1, x2, x3, x4, ⟨s0, t0⟩, ⟨s1, t1⟩, ⟨s2, t2⟩, ⟨s3, t3⟩, s4, t4⟩ := R8.five (o := 0) (by simp) (.int .i64 (leafTr 7 0 0 SS).k) (.int .i64 (leafTr 7 0 0 SS).n) (.int .i64 (leafTr 7 0 0 SS).x) (.string (leafTr 7 0 0 SS).s)
      go_wp2_with fail
      have hblk : Blk (set5 w8 w.heap.size 0 (leafTr 7 0 0 SS) ⟨none, 0, 0, []⟩) w.heap.size 28 _ := Blk.five_ R8 (leafTr 7 0 0 SS) ⟨none, 0, 0, []⟩
      have hbl : Below w.heap.size w (set5 w8 w.heap.size 0 (leafTr 7 0 0 SS) ⟨none, 0, 0, []⟩) := below_set5 K8 (Nat.le_refl _)
      have hres := fun (tm : Array Value) (hp : tm.getD 6 undef = .pointer (some ⟨w.heap.size, 0, none⟩)) => results_blk3 (P := Tryz.prog) (tmps := tm) Tryz.results19 Tryz.isAgg28 (by exact Tryz.sizeOf28) hp hblk
      refine bodyPost_ret (hres _ rfl) rfl ?_
      have hss := HSS.out
      subst hss
      exact ⟨⟨none, 0, 0, []⟩, rfl, LsAt.nil_ _ _, Own.nil_ _ _, hbl⟩
end Go.Proofs.YtmelnaidjgpclaaGreatDoor

namespace Go.Proofs.YtmelnaidjgpclaaGreatDoor
open Go.RowKit

set_option maxHeartbeats 4000000 in
theorem s_T_many4 (A : Option Addr) (n c : Nat) (b : List UInt8) (i d e : Int) (w : World) (B : Nat) (h : Sl w B 1 A n c (u8s b)) (hB : B ≤ w.heap.size) (hn : n ≤ 1048576) (hi : -9223372036854775808 ≤ i ∧ i ≤ 9223372036854775807) (he : capD d = e) (hd : 1 ≤ e) (m wd q : Int) (hG : getHead b i = (4, m, wd, q, 0)) (hw : wd ≠ -1) (f : Nat) (hf : 2 * (n - i.toNat) + 3 ≤ f + 2) (hV : ∀ g, g < f + 1 → TSays A n c b B g) :
    Calls Tryz.prog 19 #[.slice A n c, .int .i64 i, .int .i64 d] w fun r w' => GetRes w w' (resR (closeH 4 m (tM b (f + 1) e (manyH 4 m) q.toNat []))).1 (resP (closeH 4 m (tM b (f + 1) e (manyH 4 m) q.toNat []))) (resR (closeH 4 m (tM b (f + 1) e (manyH 4 m) q.toNat []))).2 r := by
  have hgood := head_facts hG
  obtain ⟨qn, rfl⟩ := Int.eq_ofNat_of_zero_le (show 0 ≤ q by omega)
  have hq : qn ≤ n := by have := h.blen; omega
  rw [Int.toNat_natCast]
  have he4 : e ≤ 10000 := by rw [← he]; unfold capD; split <;> omega
  have hw0 : decide (wd < 0) = false := decide_eq_false (by omega)
  obtain ⟨mm, rfl⟩ := Int.eq_ofNat_of_zero_le hgood.2.2.2.2.1.1
  have hmy : manyH 4 (mm : Int) = mm := by unfold manyH; simp
  rw [hmy]
  have HMM := fun w1 hh hBB => s_many_def A n c b qn e mm false w1 B hh hBB hn hq hd he4 (by omega) f (by omega) hV
  clear hmy
  obtain ⟨X, hX⟩ : ∃ X, tM b (f + 1) e mm qn [] = X := ⟨_, rfl⟩
  have hXb : ∀ c0, X = .bad c0 → c0 ≠ 0 := fun c0 he0 => (tVM_bad b (f + 1)).2.1 _ _ _ _ _ (hX.trans he0)
  rw [hX] at HMM ⊢
  clear hX hV
  have k2 := Below.two w (.cells #[.int .i64 0, .int .i64 0, .int .i64 0, .string ⟨#[]⟩, .slice none 0 0] 28) (.cells #[.int .i64 0, .int .i64 0, .int .i64 0, .string ⟨#[]⟩, .slice none 0 0] 28)
  have hR : Blk ((w.alloc (.cells #[.int .i64 0, .int .i64 0, .int .i64 0, .string ⟨#[]⟩, .slice none 0 0] 28)).alloc (.cells #[.int .i64 0, .int .i64 0, .int .i64 0, .string ⟨#[]⟩, .slice none 0 0] 28)) w.heap.size 28 #[.int .i64 0, .int .i64 0, .int .i64 0, .string ⟨#[]⟩, .slice none 0 0] := (Blk.new w _ _).alloc _
  have hN : Blk ((w.alloc (.cells #[.int .i64 0, .int .i64 0, .int .i64 0, .string ⟨#[]⟩, .slice none 0 0] 28)).alloc (.cells #[.int .i64 0, .int .i64 0, .int .i64 0, .string ⟨#[]⟩, .slice none 0 0] 28)) (w.heap.size + 1) 28 #[.int .i64 0, .int .i64 0, .int .i64 0, .string ⟨#[]⟩, .slice none 0 0] := by simpa using Blk.new (w.alloc (.cells #[.int .i64 0, .int .i64 0, .int .i64 0, .string ⟨#[]⟩, .slice none 0 0] 28)) 28 #[.int .i64 0, .int .i64 0, .int .i64 0, .string ⟨#[]⟩, .slice none 0 0]
  have hdd : decide (e < 1) = false := decide_eq_false (by omega)
  go_enter Tryz.func19, Tryz.ntmps19
  go_upto_region 2 with fail
  generalize (w.alloc (.cells #[.int .i64 0, .int .i64 0, .int .i64 0, .string ⟨#[]⟩, .slice none 0 0] 28)).alloc (.cells #[.int .i64 0, .int .i64 0, .int .i64 0, .string ⟨#[]⟩, .slice none 0 0] 28) = wa at k2 hR hN ⊢
  go_upto_if 23 with fail
  go_cut [2] (fun s2 w' => s2 = .int .i64 e ∧ w' = wa)
  case first =>
    by_cases hdc : 10000 < d
    · have e1 : e = 10000 := by rw [← he]; unfold capD; rw [if_pos hdc]
      go_wp2_with fail
      go_meet
      case rel => exact ⟨by rw [e1], rfl⟩
    · have e1 : e = d := by rw [← he]; unfold capD; rw [if_neg hdc]
      go_wp2_with fail
      go_meet
      case rel => exact ⟨by rw [e1], rfl⟩
  case rest =>
  obtain ⟨rfl, rfl⟩ := hcut
  go_upto_region 6 with fail
  have HM := s_GetHead A n c b i wc B (h.below (k2.mono hB)) (Nat.le_trans hB k2.size) hn hi
  rw [hG] at HM
  unfold ret5 headRet at HM
  go_upto_region 7 with (go_at_call 31; refine HM.mono ?_; rintro r w2 ⟨rfl, hb2⟩)
  have km := Below.one w2 (.cells #[.int .i64 4, .int .i64 mm, .int .i64 wd] 36)
  have R3 := (hR.below hb2 hR.lt).below km (hR.below hb2 hR.lt).lt
  have N3 := (hN.below hb2 hN.lt).below km (hN.below hb2 hN.lt).lt
  have M3 := Blk.new w2 36 #[.int .i64 4, .int .i64 mm, .int .i64 wd]
  have K3 := (k2.up hb2).up km
  generalize w2.heap.size = bm at M3 ⊢
  generalize w2.alloc (.cells #[.int .i64 4, .int .i64 mm, .int .i64 wd] 36) = wb at R3 N3 M3 K3 ⊢
  clear hR hN HM hb2 km k2
  have e0 := M3.cell 0
  have e1 := M3.cell 1
  have e2 := M3.cell 2
  simp only [List.getElem?_toArray, List.getElem?_cons_succ, List.getElem?_cons_zero] at e0 e1 e2
  go_upto_region 10 with fail
  have kv := Below.one wb (.cells #[.int .i64 0, .int .i64 0, .int .i64 0, .string ⟨#[]⟩, .slice none 0 0] 28)
  have R4 := R3.below kv R3.lt
  have N4 := N3.below kv N3.lt
  have M4 := M3.below kv M3.lt
  have V4 := Blk.new wb 28 #[.int .i64 0, .int .i64 0, .int .i64 0, .string ⟨#[]⟩, .slice none 0 0]
  have K4 := K3.up kv
  have zv : w.heap.size + 1 < wb.heap.size := N3.lt
  have zm : bm < wb.heap.size := M3.lt
  generalize wb.heap.size = bv at V4 zv zm ⊢
  generalize wb.alloc (.cells #[.int .i64 0, .int .i64 0, .int .i64 0, .string ⟨#[]⟩, .slice none 0 0] 28) = wd0 at R4 N4 M4 V4 K4 ⊢
  clear R3 N3 M3 K3 kv e0 e1 e2
  have e0 := M4.cell 0
  have e1 := M4.cell 1
  have e2 := M4.cell 2
  simp only [List.getElem?_toArray, List.getElem?_cons_succ, List.getElem?_cons_zero] at e0 e1 e2
  have f0 := V4.frozen 0
  have p0 := V4.cell 0
  simp only [List.getElem?_toArray, List.getElem?_cons_succ, List.getElem?_cons_zero] at p0
  go_upto_region 13 with fail
  have R5 := R4.far (p := ⟨bv, 0, none⟩) (by show w.heap.size ≠ bv; omega) (.int .i64 9)
  have N5 := N4.far (p := ⟨bv, 0, none⟩) (by show w.heap.size + 1 ≠ bv; omega) (.int .i64 9)
  have M5 := M4.far (p := ⟨bv, 0, none⟩) (by show bm ≠ bv; omega) (.int .i64 9)
  have V5 : Blk (wd0.setCell ⟨bv, 0, none⟩ (.int .i64 9)) bv 28 #[.int .i64 9, .int .i64 0, .int .i64 0, .string ⟨#[]⟩, .slice none 0 0] := by simpa using V4.set_ 0 (.int .i64 9)
  have K5 := K4.setCell (p := ⟨bv, 0, none⟩) (by show w.heap.size ≤ bv; omega) (.int .i64 9)
  generalize wd0.setCell ⟨bv, 0, none⟩ (.int .i64 9) = wd1 at R5 N5 M5 V5 K5 ⊢
  clear R4 N4 M4 V4 K4 f0 p0 e0 e1 e2
  have e0 := M5.cell 0
  have e1 := M5.cell 1
  have e2 := M5.cell 2
  simp only [List.getElem?_toArray, List.getElem?_cons_succ, List.getElem?_cons_zero] at e0 e1 e2
  have HM1 := HMM wd1 (h.below (K5.mono hB)) (Nat.le_trans hB K5.size)
  clear HMM
  have zbv : bv < wd1.heap.size := V5.lt
  cases X with
  | bad c0 =>
    have hc0 := hXb c0 rfl
    have hcb : (c0 != 0) = true := by simpa using hc0
    unfold ManyRes at HM1
    simp only at HM1
    go_upto_region 46 with (go_at_call 36; refine HM1.mono ?_; rintro r w5 ⟨rfl, hb5⟩; have V8 := V5.below hb5 V5.lt; have p4 := V8.cell 4; have f4 := V8.frozen 4; simp only [List.getElem?_toArray, List.getElem?_cons_succ, List.getElem?_cons_zero] at p4)
    have R9 := (R5.below hb5 R5.lt).far (p := ⟨bv, 4, none⟩) (by show w.heap.size ≠ bv; omega) (.slice none 0 0)
    have N9 := (N5.below hb5 N5.lt).far (p := ⟨bv, 4, none⟩) (by show w.heap.size + 1 ≠ bv; omega) (.slice none 0 0)
    have K9 := (K5.up hb5).setCell (p := ⟨bv, 4, none⟩) (by show w.heap.size ≤ bv; omega) (.slice none 0 0)
    generalize w5.setCell ⟨bv, 4, none⟩ (.slice none 0 0) = w8 at R9 N9 K9 ⊢
    clear R5 N5 M5 V5 K5 V8 p4 f4 HM1 hb5 e0 e1 e2
    have b0 := N9.cell 0
    have b1 := N9.cell 1
    have b2 := N9.cell 2
    have b3 := N9.cell 3
    have b4 := N9.cell 4
    simp only [List.getElem?_toArray, List.getElem?_cons_succ, List.getElem?_cons_zero] at b0 b1 b2 b3 b4
    obtain ⟨x0, x1, x2, x3, x4, ⟨s0, t0⟩, ⟨s1, t1⟩, ⟨s2, t2⟩, ⟨s3, t3⟩, s4, t4⟩ := R9.five (o := 0) (by simp) (.int .i64 0) (.int .i64 0) (.int .i64 0) (.string ⟨#[]⟩)
    go_wp2_with fail
    have hblk : Blk (set5 w8 w.heap.size 0 zeroT ⟨none, 0, 0, []⟩) w.heap.size 28 _ := Blk.five_ R9 zeroT ⟨none, 0, 0, []⟩
    have hbl : Below w.heap.size w (set5 w8 w.heap.size 0 zeroT ⟨none, 0, 0, []⟩) := below_set5 K9 (Nat.le_refl _)
    have hres := fun (tm : Array Value) (hp : tm.getD 6 undef = .pointer (some ⟨w.heap.size, 0, none⟩)) => results_blk3 (P := Tryz.prog) (tmps := tm) Tryz.results19 Tryz.isAgg28 (by exact Tryz.sizeOf28) hp hblk
    refine bodyPost_ret (hres _ rfl) rfl ?_
    exact ⟨⟨none, 0, 0, []⟩, rfl, LsAt.nil_ _ _, Own.nil_ _ _, hbl⟩
  | good l q' =>
    unfold ManyRes at HM1
    simp only at HM1
    go_upto_region 47 with (go_at_call 36; refine HM1.mono ?_; rintro r w5 ⟨A3, n3, c3, es, rfl, hrv, hb5⟩; have V8 := V5.below hb5 V5.lt; have p4 := V8.cell 4; have f4 := V8.frozen 4; simp only [List.getElem?_toArray, List.getElem?_cons_succ, List.getElem?_cons_zero] at p4)
    have R9 := (R5.below hb5 R5.lt).far (p := ⟨bv, 4, none⟩) (by show w.heap.size ≠ bv; omega) (.slice A3 n3 c3)
    have N9 := (N5.below hb5 N5.lt).far (p := ⟨bv, 4, none⟩) (by show w.heap.size + 1 ≠ bv; omega) (.slice A3 n3 c3)
    have K9 := (K5.up hb5).setCell (p := ⟨bv, 4, none⟩) (by show w.heap.size ≤ bv; omega) (.slice A3 n3 c3)
    have V9 : Blk (w5.setCell ⟨bv, 4, none⟩ (.slice A3 n3 c3)) bv 28 #[.int .i64 9, .int .i64 0, .int .i64 0, .string ⟨#[]⟩, .slice A3 n3 c3] := by simpa using V8.set_ 4 (.slice A3 n3 c3)
    have hrv9 := hrv.frg (g := bv) ((Fr.refl [bv] w5).setCell (p := ⟨bv, 4, none⟩) (by simp) (.slice A3 n3 c3)) zbv
    generalize w5.setCell ⟨bv, 4, none⟩ (.slice A3 n3 c3) = w8 at R9 N9 V9 K9 hrv9 ⊢
    clear R5 N5 M5 V5 K5 V8 p4 f4 HM1 hb5 hrv e0 e1 e2
    obtain ⟨fp, hls, hown, _⟩ := hrv9.list hrv9.cap.1 hrv9.cap.2
    have hn0 : w.heap.size ∉ fp := fun hx => by have := (hown.2 _ hx).1; omega
    have hlo : w.heap.size ≤ wd1.heap.size := by omega
    obtain ⟨v0, v1, v2, v3, v4⟩ := (show Blk w8 bv 28 (valCells ⟨9, 0, 0, ⟨#[]⟩, l⟩ ⟨A3, n3, c3, fp⟩) from V9).boxV
    obtain ⟨x0, x1, x2, x3, x4, ⟨s0, t0⟩, ⟨s1, t1⟩, ⟨s2, t2⟩, ⟨s3, t3⟩, s4, t4⟩ := R9.five (o := 0) (by simp) (.int .i64 (⟨9, 0, 0, ⟨#[]⟩, l⟩ : Tr).k) (.int .i64 (⟨9, 0, 0, ⟨#[]⟩, l⟩ : Tr).n) (.int .i64 (⟨9, 0, 0, ⟨#[]⟩, l⟩ : Tr).x) (.string (⟨9, 0, 0, ⟨#[]⟩, l⟩ : Tr).s)
    go_wp2_with fail
    have hblk : Blk (set5 w8 w.heap.size 0 ⟨9, 0, 0, ⟨#[]⟩, l⟩ ⟨A3, n3, c3, fp⟩) w.heap.size 28 _ := Blk.five_ R9 ⟨9, 0, 0, ⟨#[]⟩, l⟩ ⟨A3, n3, c3, fp⟩
    have hbl : Below w.heap.size w (set5 w8 w.heap.size 0 ⟨9, 0, 0, ⟨#[]⟩, l⟩ ⟨A3, n3, c3, fp⟩) := below_set5 K9 (Nat.le_refl _)
    have hres := fun (tm : Array Value) (hp : tm.getD 6 undef = .pointer (some ⟨w.heap.size, 0, none⟩)) => results_blk3 (P := Tryz.prog) (tmps := tm) Tryz.results19 Tryz.isAgg28 (by exact Tryz.sizeOf28) hp hblk
    refine bodyPost_ret (hres _ rfl) rfl ?_
    have hls5 := hls.set5_ (e2 := ⟨A3, n3, c3, fp⟩) (g := w.heap.size) (o := 0) (t := ⟨9, 0, 0, ⟨#[]⟩, l⟩) hn0
    have how5 := (hown.mono (lo2 := w.heap.size) hlo).set5_ (g := w.heap.size) (o := 0) (t := ⟨9, 0, 0, ⟨#[]⟩, l⟩) (e := ⟨A3, n3, c3, fp⟩) hn0
    exact ⟨⟨A3, n3, c3, fp⟩, rfl, hls5, how5, hbl⟩
set_option maxHeartbeats 4000000 in
theorem s_T_many4i (A : Option Addr) (n c : Nat) (b : List UInt8) (i d e : Int) (w : World) (B : Nat) (h : Sl w B 1 A n c (u8s b)) (hB : B ≤ w.heap.size) (hn : n ≤ 1048576) (hi : -9223372036854775808 ≤ i ∧ i ≤ 9223372036854775807) (he : capD d = e) (hd : 1 ≤ e) (q : Int) (hG : getHead b i = (4, 0, -1, q, 0)) (f : Nat) (hf : 2 * (n - i.toNat) + 3 ≤ f + 2) (hV : ∀ g, g < f + 1 → TSays A n c b B g) :
    Calls Tryz.prog 19 #[.slice A n c, .int .i64 i, .int .i64 d] w fun r w' => GetRes w w' (resR (closeH 4 0 (tI b (f + 1) e false false q.toNat []))).1 (resP (closeH 4 0 (tI b (f + 1) e false false q.toNat []))) (resR (closeH 4 0 (tI b (f + 1) e false false q.toNat []))).2 r := by
  have hgood := head_facts hG
  obtain ⟨qn, rfl⟩ := Int.eq_ofNat_of_zero_le (show 0 ≤ q by omega)
  have hq : qn ≤ n := by have := h.blen; omega
  rw [Int.toNat_natCast]
  have he4 : e ≤ 10000 := by rw [← he]; unfold capD; split <;> omega
  have HMM := fun w1 hh hBB => s_many_ind A n c b qn e false w1 B hh hBB hn hq hd he4 f (by omega) hV
  obtain ⟨X, hX⟩ : ∃ X, tI b (f + 1) e false false qn [] = X := ⟨_, rfl⟩
  have hXb : ∀ c0, X = .bad c0 → c0 ≠ 0 := fun c0 he0 => (tVM_bad b (f + 1)).2.2 _ _ _ _ _ _ (hX.trans he0)
  rw [hX] at HMM ⊢
  clear hX hV
  have k2 := Below.two w (.cells #[.int .i64 0, .int .i64 0, .int .i64 0, .string ⟨#[]⟩, .slice none 0 0] 28) (.cells #[.int .i64 0, .int .i64 0, .int .i64 0, .string ⟨#[]⟩, .slice none 0 0] 28)
  have hR : Blk ((w.alloc (.cells #[.int .i64 0, .int .i64 0, .int .i64 0, .string ⟨#[]⟩, .slice none 0 0] 28)).alloc (.cells #[.int .i64 0, .int .i64 0, .int .i64 0, .string ⟨#[]⟩, .slice none 0 0] 28)) w.heap.size 28 #[.int .i64 0, .int .i64 0, .int .i64 0, .string ⟨#[]⟩, .slice none 0 0] := (Blk.new w _ _).alloc _
  have hN : Blk ((w.alloc (.cells #[.int .i64 0, .int .i64 0, .int .i64 0, .string ⟨#[]⟩, .slice none 0 0] 28)).alloc (.cells #[.int .i64 0, .int .i64 0, .int .i64 0, .string ⟨#[]⟩, .slice none 0 0] 28)) (w.heap.size + 1) 28 #[.int .i64 0, .int .i64 0, .int .i64 0, .string ⟨#[]⟩, .slice none 0 0] := by simpa using Blk.new (w.alloc (.cells #[.int .i64 0, .int .i64 0, .int .i64 0, .string ⟨#[]⟩, .slice none 0 0] 28)) 28 #[.int .i64 0, .int .i64 0, .int .i64 0, .string ⟨#[]⟩, .slice none 0 0]
  have hdd : decide (e < 1) = false := decide_eq_false (by omega)
  go_enter Tryz.func19, Tryz.ntmps19
  go_upto_region 2 with fail
  generalize (w.alloc (.cells #[.int .i64 0, .int .i64 0, .int .i64 0, .string ⟨#[]⟩, .slice none 0 0] 28)).alloc (.cells #[.int .i64 0, .int .i64 0, .int .i64 0, .string ⟨#[]⟩, .slice none 0 0] 28) = wa at k2 hR hN ⊢
  go_upto_if 23 with fail
  go_cut [2] (fun s2 w' => s2 = .int .i64 e ∧ w' = wa)
  case first =>
    by_cases hdc : 10000 < d
    · have e1 : e = 10000 := by rw [← he]; unfold capD; rw [if_pos hdc]
      go_wp2_with fail
      go_meet
      case rel => exact ⟨by rw [e1], rfl⟩
    · have e1 : e = d := by rw [← he]; unfold capD; rw [if_neg hdc]
      go_wp2_with fail
      go_meet
      case rel => exact ⟨by rw [e1], rfl⟩
  case rest =>
  obtain ⟨rfl, rfl⟩ := hcut
  go_upto_region 6 with fail
  have HM := s_GetHead A n c b i wc B (h.below (k2.mono hB)) (Nat.le_trans hB k2.size) hn hi
  rw [hG] at HM
  unfold ret5 headRet at HM
  go_upto_region 7 with (go_at_call 31; refine HM.mono ?_; rintro r w2 ⟨rfl, hb2⟩)
  have km := Below.one w2 (.cells #[.int .i64 4, .int .i64 0, .int .i64 (-1)] 36)
  have R3 := (hR.below hb2 hR.lt).below km (hR.below hb2 hR.lt).lt
  have N3 := (hN.below hb2 hN.lt).below km (hN.below hb2 hN.lt).lt
  have M3 := Blk.new w2 36 #[.int .i64 4, .int .i64 0, .int .i64 (-1)]
  have K3 := (k2.up hb2).up km
  generalize w2.heap.size = bm at M3 ⊢
  generalize w2.alloc (.cells #[.int .i64 4, .int .i64 0, .int .i64 (-1)] 36) = wb at R3 N3 M3 K3 ⊢
  clear hR hN HM hb2 km k2
  have e0 := M3.cell 0
  have e1 := M3.cell 1
  have e2 := M3.cell 2
  simp only [List.getElem?_toArray, List.getElem?_cons_succ, List.getElem?_cons_zero] at e0 e1 e2
  go_upto_region 10 with fail
  have kv := Below.one wb (.cells #[.int .i64 0, .int .i64 0, .int .i64 0, .string ⟨#[]⟩, .slice none 0 0] 28)
  have R4 := R3.below kv R3.lt
  have N4 := N3.below kv N3.lt
  have M4 := M3.below kv M3.lt
  have V4 := Blk.new wb 28 #[.int .i64 0, .int .i64 0, .int .i64 0, .string ⟨#[]⟩, .slice none 0 0]
  have K4 := K3.up kv
  have zv : w.heap.size + 1 < wb.heap.size := N3.lt
  have zm : bm < wb.heap.size := M3.lt
  generalize wb.heap.size = bv at V4 zv zm ⊢
  generalize wb.alloc (.cells #[.int .i64 0, .int .i64 0, .int .i64 0, .string ⟨#[]⟩, .slice none 0 0] 28) = wd0 at R4 N4 M4 V4 K4 ⊢
  clear R3 N3 M3 K3 kv e0 e1 e2
  have e0 := M4.cell 0
  have e1 := M4.cell 1
  have e2 := M4.cell 2
  simp only [List.getElem?_toArray, List.getElem?_cons_succ, List.getElem?_cons_zero] at e0 e1 e2
  have f0 := V4.frozen 0
  have p0 := V4.cell 0
  simp only [List.getElem?_toArray, List.getElem?_cons_succ, List.getElem?_cons_zero] at p0
  go_upto_region 13 with fail
  have R5 := R4.far (p := ⟨bv, 0, none⟩) (by show w.heap.size ≠ bv; omega) (.int .i64 9)
  have N5 := N4.far (p := ⟨bv, 0, none⟩) (by show w.heap.size + 1 ≠ bv; omega) (.int .i64 9)
  have M5 := M4.far (p := ⟨bv, 0, none⟩) (by show bm ≠ bv; omega) (.int .i64 9)
  have V5 : Blk (wd0.setCell ⟨bv, 0, none⟩ (.int .i64 9)) bv 28 #[.int .i64 9, .int .i64 0, .int .i64 0, .string ⟨#[]⟩, .slice none 0 0] := by simpa using V4.set_ 0 (.int .i64 9)
  have K5 := K4.setCell (p := ⟨bv, 0, none⟩) (by show w.heap.size ≤ bv; omega) (.int .i64 9)
  generalize wd0.setCell ⟨bv, 0, none⟩ (.int .i64 9) = wd1 at R5 N5 M5 V5 K5 ⊢
  clear R4 N4 M4 V4 K4 f0 p0 e0 e1 e2
  have e0 := M5.cell 0
  have e1 := M5.cell 1
  have e2 := M5.cell 2
  simp only [List.getElem?_toArray, List.getElem?_cons_succ, List.getElem?_cons_zero] at e0 e1 e2
  have HM1 := HMM wd1 (h.below (K5.mono hB)) (Nat.le_trans hB K5.size)
  clear HMM
  have zbv : bv < wd1.heap.size := V5.lt
  cases X with
  | bad c0 =>
    have hc0 := hXb c0 rfl
    have hcb : (c0 != 0) = true := by simpa using hc0
    unfold ManyRes at HM1
    simp only at HM1
    go_upto_region 46 with (go_at_call 36; refine HM1.mono ?_; rintro r w5 ⟨rfl, hb5⟩; have V8 := V5.below hb5 V5.lt; have p4 := V8.cell 4; have f4 := V8.frozen 4; simp only [List.getElem?_toArray, List.getElem?_cons_succ, List.getElem?_cons_zero] at p4)
    have R9 := (R5.below hb5 R5.lt).far (p := ⟨bv, 4, none⟩) (by show w.heap.size ≠ bv; omega) (.slice none 0 0)
    have N9 := (N5.below hb5 N5.lt).far (p := ⟨bv, 4, none⟩) (by show w.heap.size + 1 ≠ bv; omega) (.slice none 0 0)
    have K9 := (K5.up hb5).setCell (p := ⟨bv, 4, none⟩) (by show w.heap.size ≤ bv; omega) (.slice none 0 0)
    generalize w5.setCell ⟨bv, 4, none⟩ (.slice none 0 0) = w8 at R9 N9 K9 ⊢
    clear R5 N5 M5 V5 K5 V8 p4 f4 HM1 hb5 e0 e1 e2
    have b0 := N9.cell 0
    have b1 := N9.cell 1
    have b2 := N9.cell 2
    have b3 := N9.cell 3
    have b4 := N9.cell 4
    simp only [List.getElem?_toArray, List.getElem?_cons_succ, List.getElem?_cons_zero] at b0 b1 b2 b3 b4
    obtain ⟨x0, x1, x2, x3, x4, ⟨s0, t0⟩, ⟨s1, t1⟩, ⟨s2, t2⟩, ⟨s3, t3⟩, s4, t4⟩ := R9.five (o := 0) (by simp) (.int .i64 0) (.int .i64 0) (.int .i64 0) (.string ⟨#[]⟩)
    go_wp2_with fail
    have hblk : Blk (set5 w8 w.heap.size 0 zeroT ⟨none, 0, 0, []⟩) w.heap.size 28 _ := Blk.five_ R9 zeroT ⟨none, 0, 0, []⟩
    have hbl : Below w.heap.size w (set5 w8 w.heap.size 0 zeroT ⟨none, 0, 0, []⟩) := below_set5 K9 (Nat.le_refl _)
    have hres := fun (tm : Array Value) (hp : tm.getD 6 undef = .pointer (some ⟨w.heap.size, 0, none⟩)) => results_blk3 (P := Tryz.prog) (tmps := tm) Tryz.results19 Tryz.isAgg28 (by exact Tryz.sizeOf28) hp hblk
    refine bodyPost_ret (hres _ rfl) rfl ?_
    exact ⟨⟨none, 0, 0, []⟩, rfl, LsAt.nil_ _ _, Own.nil_ _ _, hbl⟩
  | good l q' =>
    unfold ManyRes at HM1
    simp only at HM1
    go_upto_region 47 with (go_at_call 36; refine HM1.mono ?_; rintro r w5 ⟨A3, n3, c3, es, rfl, hrv, hb5⟩; have V8 := V5.below hb5 V5.lt; have p4 := V8.cell 4; have f4 := V8.frozen 4; simp only [List.getElem?_toArray, List.getElem?_cons_succ, List.getElem?_cons_zero] at p4)
    have R9 := (R5.below hb5 R5.lt).far (p := ⟨bv, 4, none⟩) (by show w.heap.size ≠ bv; omega) (.slice A3 n3 c3)
    have N9 := (N5.below hb5 N5.lt).far (p := ⟨bv, 4, none⟩) (by show w.heap.size + 1 ≠ bv; omega) (.slice A3 n3 c3)
    have K9 := (K5.up hb5).setCell (p := ⟨bv, 4, none⟩) (by show w.heap.size ≤ bv; omega) (.slice A3 n3 c3)
    have V9 : Blk (w5.setCell ⟨bv, 4, none⟩ (.slice A3 n3 c3)) bv 28 #[.int .i64 9, .int .i64 0, .int .i64 0, .string ⟨#[]⟩, .slice A3 n3 c3] := by simpa using V8.set_ 4 (.slice A3 n3 c3)
    have hrv9 := hrv.frg (g := bv) ((Fr.refl [bv] w5).setCell (p := ⟨bv, 4, none⟩) (by simp) (.slice A3 n3 c3)) zbv
    generalize w5.setCell ⟨bv, 4, none⟩ (.slice A3 n3 c3) = w8 at R9 N9 V9 K9 hrv9 ⊢
    clear R5 N5 M5 V5 K5 V8 p4 f4 HM1 hb5 hrv e0 e1 e2
    obtain ⟨fp, hls, hown, _⟩ := hrv9.list hrv9.cap.1 hrv9.cap.2
    have hn0 : w.heap.size ∉ fp := fun hx => by have := (hown.2 _ hx).1; omega
    have hlo : w.heap.size ≤ wd1.heap.size := by omega
    obtain ⟨v0, v1, v2, v3, v4⟩ := (show Blk w8 bv 28 (valCells ⟨9, 0, 0, ⟨#[]⟩, l⟩ ⟨A3, n3, c3, fp⟩) from V9).boxV
    obtain ⟨x0, x1, x2, x3, x4, ⟨s0, t0⟩, ⟨s1, t1⟩, ⟨s2, t2⟩, ⟨s3, t3⟩, s4, t4⟩ := R9.five (o := 0) (by simp) (.int .i64 (⟨9, 0, 0, ⟨#[]⟩, l⟩ : Tr).k) (.int .i64 (⟨9, 0, 0, ⟨#[]⟩, l⟩ : Tr).n) (.int .i64 (⟨9, 0, 0, ⟨#[]⟩, l⟩ : Tr).x) (.string (⟨9, 0, 0, ⟨#[]⟩, l⟩ : Tr).s)
    go_wp2_with fail
    have hblk : Blk (set5 w8 w.heap.size 0 ⟨9, 0, 0, ⟨#[]⟩, l⟩ ⟨A3, n3, c3, fp⟩) w.heap.size 28 _ := Blk.five_ R9 ⟨9, 0, 0, ⟨#[]⟩, l⟩ ⟨A3, n3, c3, fp⟩
    have hbl : Below w.heap.size w (set5 w8 w.heap.size 0 ⟨9, 0, 0, ⟨#[]⟩, l⟩ ⟨A3, n3, c3, fp⟩) := below_set5 K9 (Nat.le_refl _)
    have hres := fun (tm : Array Value) (hp : tm.getD 6 undef = .pointer (some ⟨w.heap.size, 0, none⟩)) => results_blk3 (P := Tryz.prog) (tmps := tm) Tryz.results19 Tryz.isAgg28 (by exact Tryz.sizeOf28) hp hblk
    refine bodyPost_ret (hres _ rfl) rfl ?_
    have hls5 := hls.set5_ (e2 := ⟨A3, n3, c3, fp⟩) (g := w.heap.size) (o := 0) (t := ⟨9, 0, 0, ⟨#[]⟩, l⟩) hn0
    have how5 := (hown.mono (lo2 := w.heap.size) hlo).set5_ (g := w.heap.size) (o := 0) (t := ⟨9, 0, 0, ⟨#[]⟩, l⟩) (e := ⟨A3, n3, c3, fp⟩) hn0
    exact ⟨⟨A3, n3, c3, fp⟩, rfl, hls5, how5, hbl⟩
set_option maxHeartbeats 4000000 in
theorem s_T_many5 (A : Option Addr) (n c : Nat) (b : List UInt8) (i d e : Int) (w : World) (B : Nat) (h : Sl w B 1 A n c (u8s b)) (hB : B ≤ w.heap.size) (hn : n ≤ 1048576) (hi : -9223372036854775808 ≤ i ∧ i ≤ 9223372036854775807) (he : capD d = e) (hd : 1 ≤ e) (m wd q : Int) (hG : getHead b i = (5, m, wd, q, 0)) (hw : wd ≠ -1) (f : Nat) (hf : 2 * (n - i.toNat) + 3 ≤ f + 2) (hV : ∀ g, g < f + 1 → TSays A n c b B g) :
    Calls Tryz.prog 19 #[.slice A n c, .int .i64 i, .int .i64 d] w fun r w' => GetRes w w' (resR (closeH 5 m (tM b (f + 1) e (manyH 5 m) q.toNat []))).1 (resP (closeH 5 m (tM b (f + 1) e (manyH 5 m) q.toNat []))) (resR (closeH 5 m (tM b (f + 1) e (manyH 5 m) q.toNat []))).2 r := by
  have hgood := head_facts hG
  obtain ⟨qn, rfl⟩ := Int.eq_ofNat_of_zero_le (show 0 ≤ q by omega)
  have hq : qn ≤ n := by have := h.blen; omega
  rw [Int.toNat_natCast]
  have he4 : e ≤ 10000 := by rw [← he]; unfold capD; split <;> omega
  have hw0 : decide (wd < 0) = false := decide_eq_false (by omega)
  obtain ⟨mm, rfl⟩ := Int.eq_ofNat_of_zero_le hgood.2.2.2.2.1.1
  have hmy : manyH 5 (mm : Int) = (2 * mm) := by unfold manyH; simp
  rw [hmy]
  have HMM := fun w1 hh hBB => s_many_def A n c b qn e (2 * mm) true w1 B hh hBB hn hq hd he4 (by omega) f (by omega) hV
  have e5 : (((2 * mm : Nat)) : Int) = 2 * (mm : Int) := by omega
  rw [e5] at HMM
  have hw2 : IntKind.i64.wrap (2 * (mm : Int)) = 2 * (mm : Int) := by rw [IntKind.wrap_i64]; omega
  clear e5
  clear hmy
  obtain ⟨X, hX⟩ : ∃ X, tM b (f + 1) e (2 * mm) qn [] = X := ⟨_, rfl⟩
  have hXb : ∀ c0, X = .bad c0 → c0 ≠ 0 := fun c0 he0 => (tVM_bad b (f + 1)).2.1 _ _ _ _ _ (hX.trans he0)
  rw [hX] at HMM ⊢
  clear hX hV
  have k2 := Below.two w (.cells #[.int .i64 0, .int .i64 0, .int .i64 0, .string ⟨#[]⟩, .slice none 0 0] 28) (.cells #[.int .i64 0, .int .i64 0, .int .i64 0, .string ⟨#[]⟩, .slice none 0 0] 28)
  have hR : Blk ((w.alloc (.cells #[.int .i64 0, .int .i64 0, .int .i64 0, .string ⟨#[]⟩, .slice none 0 0] 28)).alloc (.cells #[.int .i64 0, .int .i64 0, .int .i64 0, .string ⟨#[]⟩, .slice none 0 0] 28)) w.heap.size 28 #[.int .i64 0, .int .i64 0, .int .i64 0, .string ⟨#[]⟩, .slice none 0 0] := (Blk.new w _ _).alloc _
  have hN : Blk ((w.alloc (.cells #[.int .i64 0, .int .i64 0, .int .i64 0, .string ⟨#[]⟩, .slice none 0 0] 28)).alloc (.cells #[.int .i64 0, .int .i64 0, .int .i64 0, .string ⟨#[]⟩, .slice none 0 0] 28)) (w.heap.size + 1) 28 #[.int .i64 0, .int .i64 0, .int .i64 0, .string ⟨#[]⟩, .slice none 0 0] := by simpa using Blk.new (w.alloc (.cells #[.int .i64 0, .int .i64 0, .int .i64 0, .string ⟨#[]⟩, .slice none 0 0] 28)) 28 #[.int .i64 0, .int .i64 0, .int .i64 0, .string ⟨#[]⟩, .slice none 0 0]
  have hdd : decide (e < 1) = false := decide_eq_false (by omega)
  go_enter Tryz.func19, Tryz.ntmps19
  go_upto_region 2 with fail
  generalize (w.alloc (.cells #[.int .i64 0, .int .i64 0, .int .i64 0, .string ⟨#[]⟩, .slice none 0 0] 28)).alloc (.cells #[.int .i64 0, .int .i64 0, .int .i64 0, .string ⟨#[]⟩, .slice none 0 0] 28) = wa at k2 hR hN ⊢
  go_upto_if 23 with fail
  go_cut [2] (fun s2 w' => s2 = .int .i64 e ∧ w' = wa)
  case first =>
    by_cases hdc : 10000 < d
    · have e1 : e = 10000 := by rw [← he]; unfold capD; rw [if_pos hdc]
      go_wp2_with fail
      go_meet
      case rel => exact ⟨by rw [e1], rfl⟩
    · have e1 : e = d := by rw [← he]; unfold capD; rw [if_neg hdc]
      go_wp2_with fail
      go_meet
      case rel => exact ⟨by rw [e1], rfl⟩
  case rest =>
  obtain ⟨rfl, rfl⟩ := hcut
  go_upto_region 6 with fail
  have HM := s_GetHead A n c b i wc B (h.below (k2.mono hB)) (Nat.le_trans hB k2.size) hn hi
  rw [hG] at HM
  unfold ret5 headRet at HM
  go_upto_region 7 with (go_at_call 31; refine HM.mono ?_; rintro r w2 ⟨rfl, hb2⟩)
  have km := Below.one w2 (.cells #[.int .i64 5, .int .i64 mm, .int .i64 wd] 36)
  have R3 := (hR.below hb2 hR.lt).below km (hR.below hb2 hR.lt).lt
  have N3 := (hN.below hb2 hN.lt).below km (hN.below hb2 hN.lt).lt
  have M3 := Blk.new w2 36 #[.int .i64 5, .int .i64 mm, .int .i64 wd]
  have K3 := (k2.up hb2).up km
  generalize w2.heap.size = bm at M3 ⊢
  generalize w2.alloc (.cells #[.int .i64 5, .int .i64 mm, .int .i64 wd] 36) = wb at R3 N3 M3 K3 ⊢
  clear hR hN HM hb2 km k2
  have e0 := M3.cell 0
  have e1 := M3.cell 1
  have e2 := M3.cell 2
  simp only [List.getElem?_toArray, List.getElem?_cons_succ, List.getElem?_cons_zero] at e0 e1 e2
  go_upto_region 10 with fail
  have kv := Below.one wb (.cells #[.int .i64 0, .int .i64 0, .int .i64 0, .string ⟨#[]⟩, .slice none 0 0] 28)
  have R4 := R3.below kv R3.lt
  have N4 := N3.below kv N3.lt
  have M4 := M3.below kv M3.lt
  have V4 := Blk.new wb 28 #[.int .i64 0, .int .i64 0, .int .i64 0, .string ⟨#[]⟩, .slice none 0 0]
  have K4 := K3.up kv
  have zv : w.heap.size + 1 < wb.heap.size := N3.lt
  have zm : bm < wb.heap.size := M3.lt
  generalize wb.heap.size = bv at V4 zv zm ⊢
  generalize wb.alloc (.cells #[.int .i64 0, .int .i64 0, .int .i64 0, .string ⟨#[]⟩, .slice none 0 0] 28) = wd0 at R4 N4 M4 V4 K4 ⊢
  clear R3 N3 M3 K3 kv e0 e1 e2
  have e0 := M4.cell 0
  have e1 := M4.cell 1
  have e2 := M4.cell 2
  simp only [List.getElem?_toArray, List.getElem?_cons_succ, List.getElem?_cons_zero] at e0 e1 e2
  have f0 := V4.frozen 0
  have p0 := V4.cell 0
  simp only [List.getElem?_toArray, List.getElem?_cons_succ, List.getElem?_cons_zero] at p0
  go_upto_region 13 with fail
  have R5 := R4.far (p := ⟨bv, 0, none⟩) (by show w.heap.size ≠ bv; omega) (.int .i64 9)
  have N5 := N4.far (p := ⟨bv, 0, none⟩) (by show w.heap.size + 1 ≠ bv; omega) (.int .i64 9)
  have M5 := M4.far (p := ⟨bv, 0, none⟩) (by show bm ≠ bv; omega) (.int .i64 9)
  have V5 : Blk (wd0.setCell ⟨bv, 0, none⟩ (.int .i64 9)) bv 28 #[.int .i64 9, .int .i64 0, .int .i64 0, .string ⟨#[]⟩, .slice none 0 0] := by simpa using V4.set_ 0 (.int .i64 9)
  have K5 := K4.setCell (p := ⟨bv, 0, none⟩) (by show w.heap.size ≤ bv; omega) (.int .i64 9)
  generalize wd0.setCell ⟨bv, 0, none⟩ (.int .i64 9) = wd1 at R5 N5 M5 V5 K5 ⊢
  clear R4 N4 M4 V4 K4 f0 p0 e0 e1 e2
  have e0 := M5.cell 0
  have e1 := M5.cell 1
  have e2 := M5.cell 2
  simp only [List.getElem?_toArray, List.getElem?_cons_succ, List.getElem?_cons_zero] at e0 e1 e2
  have f0 := V5.frozen 0
  have p0 := V5.cell 0
  simp only [List.getElem?_toArray, List.getElem?_cons_succ, List.getElem?_cons_zero] at p0
  go_upto_region 15 with fail
  have R6 := R5.far (p := ⟨bv, 0, none⟩) (by show w.heap.size ≠ bv; omega) (.int .i64 10)
  have N6 := N5.far (p := ⟨bv, 0, none⟩) (by show w.heap.size + 1 ≠ bv; omega) (.int .i64 10)
  have M6 := M5.far (p := ⟨bv, 0, none⟩) (by show bm ≠ bv; omega) (.int .i64 10)
  have V6 : Blk (wd1.setCell ⟨bv, 0, none⟩ (.int .i64 10)) bv 28 #[.int .i64 10, .int .i64 0, .int .i64 0, .string ⟨#[]⟩, .slice none 0 0] := by simpa using V5.set_ 0 (.int .i64 10)
  have K6 := K5.setCell (p := ⟨bv, 0, none⟩) (by show w.heap.size ≤ bv; omega) (.int .i64 10)
  generalize wd1.setCell ⟨bv, 0, none⟩ (.int .i64 10) = wd2 at R6 N6 M6 V6 K6 ⊢
  clear R5 N5 M5 V5 K5 f0 p0 e0 e1 e2
  have e0 := M6.cell 0
  have e1 := M6.cell 1
  have e2 := M6.cell 2
  simp only [List.getElem?_toArray, List.getElem?_cons_succ, List.getElem?_cons_zero] at e0 e1 e2
  have HM1 := HMM wd2 (h.below (K6.mono hB)) (Nat.le_trans hB K6.size)
  clear HMM
  have zbv : bv < wd2.heap.size := V6.lt
  cases X with
  | bad c0 =>
    have hc0 := hXb c0 rfl
    have hcb : (c0 != 0) = true := by simpa using hc0
    unfold ManyRes at HM1
    simp only at HM1
    go_upto_region 46 with (go_at_call 36; refine HM1.mono ?_; rintro r w5 ⟨rfl, hb5⟩; have V8 := V6.below hb5 V6.lt; have p4 := V8.cell 4; have f4 := V8.frozen 4; simp only [List.getElem?_toArray, List.getElem?_cons_succ, List.getElem?_cons_zero] at p4)
    have R9 := (R6.below hb5 R6.lt).far (p := ⟨bv, 4, none⟩) (by show w.heap.size ≠ bv; omega) (.slice none 0 0)
    have N9 := (N6.below hb5 N6.lt).far (p := ⟨bv, 4, none⟩) (by show w.heap.size + 1 ≠ bv; omega) (.slice none 0 0)
    have K9 := (K6.up hb5).setCell (p := ⟨bv, 4, none⟩) (by show w.heap.size ≤ bv; omega) (.slice none 0 0)
    generalize w5.setCell ⟨bv, 4, none⟩ (.slice none 0 0) = w8 at R9 N9 K9 ⊢
    clear R6 N6 M6 V6 K6 V8 p4 f4 HM1 hb5 e0 e1 e2
    have b0 := N9.cell 0
    have b1 := N9.cell 1
    have b2 := N9.cell 2
    have b3 := N9.cell 3
    have b4 := N9.cell 4
    simp only [List.getElem?_toArray, List.getElem?_cons_succ, List.getElem?_cons_zero] at b0 b1 b2 b3 b4
    obtain ⟨x0, x1, x2, x3, x4, ⟨s0, t0⟩, ⟨s1, t1⟩, ⟨s2, t2⟩, ⟨s3, t3⟩, s4, t4⟩ := R9.five (o := 0) (by simp) (.int .i64 0) (.int .i64 0) (.int .i64 0) (.string ⟨#[]⟩)
    go_wp2_with fail
    have hblk : Blk (set5 w8 w.heap.size 0 zeroT ⟨none, 0, 0, []⟩) w.heap.size 28 _ := Blk.five_ R9 zeroT ⟨none, 0, 0, []⟩
    have hbl : Below w.heap.size w (set5 w8 w.heap.size 0 zeroT ⟨none, 0, 0, []⟩) := below_set5 K9 (Nat.le_refl _)
    have hres := fun (tm : Array Value) (hp : tm.getD 6 undef = .pointer (some ⟨w.heap.size, 0, none⟩)) => results_blk3 (P := Tryz.prog) (tmps := tm) Tryz.results19 Tryz.isAgg28 (by exact Tryz.sizeOf28) hp hblk
    refine bodyPost_ret (hres _ rfl) rfl ?_
    exact ⟨⟨none, 0, 0, []⟩, rfl, LsAt.nil_ _ _, Own.nil_ _ _, hbl⟩
  | good l q' =>
    unfold ManyRes at HM1
    simp only at HM1
    go_upto_region 47 with (go_at_call 36; refine HM1.mono ?_; rintro r w5 ⟨A3, n3, c3, es, rfl, hrv, hb5⟩; have V8 := V6.below hb5 V6.lt; have p4 := V8.cell 4; have f4 := V8.frozen 4; simp only [List.getElem?_toArray, List.getElem?_cons_succ, List.getElem?_cons_zero] at p4)
    have R9 := (R6.below hb5 R6.lt).far (p := ⟨bv, 4, none⟩) (by show w.heap.size ≠ bv; omega) (.slice A3 n3 c3)
    have N9 := (N6.below hb5 N6.lt).far (p := ⟨bv, 4, none⟩) (by show w.heap.size + 1 ≠ bv; omega) (.slice A3 n3 c3)
    have K9 := (K6.up hb5).setCell (p := ⟨bv, 4, none⟩) (by show w.heap.size ≤ bv; omega) (.slice A3 n3 c3)
    have V9 : Blk (w5.setCell ⟨bv, 4, none⟩ (.slice A3 n3 c3)) bv 28 #[.int .i64 10, .int .i64 0, .int .i64 0, .string ⟨#[]⟩, .slice A3 n3 c3] := by simpa using V8.set_ 4 (.slice A3 n3 c3)
    have hrv9 := hrv.frg (g := bv) ((Fr.refl [bv] w5).setCell (p := ⟨bv, 4, none⟩) (by simp) (.slice A3 n3 c3)) zbv
    generalize w5.setCell ⟨bv, 4, none⟩ (.slice A3 n3 c3) = w8 at R9 N9 V9 K9 hrv9 ⊢
    clear R6 N6 M6 V6 K6 V8 p4 f4 HM1 hb5 hrv e0 e1 e2
    obtain ⟨fp, hls, hown, _⟩ := hrv9.list hrv9.cap.1 hrv9.cap.2
    have hn0 : w.heap.size ∉ fp := fun hx => by have := (hown.2 _ hx).1; omega
    have hlo : w.heap.size ≤ wd2.heap.size := by omega
    obtain ⟨v0, v1, v2, v3, v4⟩ := (show Blk w8 bv 28 (valCells ⟨10, 0, 0, ⟨#[]⟩, l⟩ ⟨A3, n3, c3, fp⟩) from V9).boxV
    obtain ⟨x0, x1, x2, x3, x4, ⟨s0, t0⟩, ⟨s1, t1⟩, ⟨s2, t2⟩, ⟨s3, t3⟩, s4, t4⟩ := R9.five (o := 0) (by simp) (.int .i64 (⟨10, 0, 0, ⟨#[]⟩, l⟩ : Tr).k) (.int .i64 (⟨10, 0, 0, ⟨#[]⟩, l⟩ : Tr).n) (.int .i64 (⟨10, 0, 0, ⟨#[]⟩, l⟩ : Tr).x) (.string (⟨10, 0, 0, ⟨#[]⟩, l⟩ : Tr).s)
    go_wp2_with fail
    have hblk : Blk (set5 w8 w.heap.size 0 ⟨10, 0, 0, ⟨#[]⟩, l⟩ ⟨A3, n3, c3, fp⟩) w.heap.size 28 _ := Blk.five_ R9 ⟨10, 0, 0, ⟨#[]⟩, l⟩ ⟨A3, n3, c3, fp⟩
    have hbl : Below w.heap.size w (set5 w8 w.heap.size 0 ⟨10, 0, 0, ⟨#[]⟩, l⟩ ⟨A3, n3, c3, fp⟩) := below_set5 K9 (Nat.le_refl _)
    have hres := fun (tm : Array Value) (hp : tm.getD 6 undef = .pointer (some ⟨w.heap.size, 0, none⟩)) => results_blk3 (P := Tryz.prog) (tmps := tm) Tryz.results19 Tryz.isAgg28 (by exact Tryz.sizeOf28) hp hblk
    refine bodyPost_ret (hres _ rfl) rfl ?_
    have hls5 := hls.set5_ (e2 := ⟨A3, n3, c3, fp⟩) (g := w.heap.size) (o := 0) (t := ⟨10, 0, 0, ⟨#[]⟩, l⟩) hn0
    have how5 := (hown.mono (lo2 := w.heap.size) hlo).set5_ (g := w.heap.size) (o := 0) (t := ⟨10, 0, 0, ⟨#[]⟩, l⟩) (e := ⟨A3, n3, c3, fp⟩) hn0
    exact ⟨⟨A3, n3, c3, fp⟩, rfl, hls5, how5, hbl⟩
set_option maxHeartbeats 4000000 in
theorem s_T_many5i (A : Option Addr) (n c : Nat) (b : List UInt8) (i d e : Int) (w : World) (B : Nat) (h : Sl w B 1 A n c (u8s b)) (hB : B ≤ w.heap.size) (hn : n ≤ 1048576) (hi : -9223372036854775808 ≤ i ∧ i ≤ 9223372036854775807) (he : capD d = e) (hd : 1 ≤ e) (q : Int) (hG : getHead b i = (5, 0, -1, q, 0)) (f : Nat) (hf : 2 * (n - i.toNat) + 3 ≤ f + 2) (hV : ∀ g, g < f + 1 → TSays A n c b B g) :
    Calls Tryz.prog 19 #[.slice A n c, .int .i64 i, .int .i64 d] w fun r w' => GetRes w w' (resR (closeH 5 0 (tI b (f + 1) e true false q.toNat []))).1 (resP (closeH 5 0 (tI b (f + 1) e true false q.toNat []))) (resR (closeH 5 0 (tI b (f + 1) e true false q.toNat []))).2 r := by
  have hgood := head_facts hG
  obtain ⟨qn, rfl⟩ := Int.eq_ofNat_of_zero_le (show 0 ≤ q by omega)
  have hq : qn ≤ n := by have := h.blen; omega
  rw [Int.toNat_natCast]
  have he4 : e ≤ 10000 := by rw [← he]; unfold capD; split <;> omega
  have HMM := fun w1 hh hBB => s_many_ind A n c b qn e true w1 B hh hBB hn hq hd he4 f (by omega) hV
  obtain ⟨X, hX⟩ : ∃ X, tI b (f + 1) e true false qn [] = X := ⟨_, rfl⟩
  have hXb : ∀ c0, X = .bad c0 → c0 ≠ 0 := fun c0 he0 => (tVM_bad b (f + 1)).2.2 _ _ _ _ _ _ (hX.trans he0)
  rw [hX] at HMM ⊢
  clear hX hV
  have k2 := Below.two w (.cells #[.int .i64 0, .int .i64 0, .int .i64 0, .string ⟨#[]⟩, .slice none 0 0] 28) (.cells #[.int .i64 0, .int .i64 0, .int .i64 0, .string ⟨#[]⟩, .slice none 0 0] 28)
  have hR : Blk ((w.alloc (.cells #[.int .i64 0, .int .i64 0, .int .i64 0, .string ⟨#[]⟩, .slice none 0 0] 28)).alloc (.cells #[.int .i64 0, .int .i64 0, .int .i64 0, .string ⟨#[]⟩, .slice none 0 0] 28)) w.heap.size 28 #[.int .i64 0, .int .i64 0, .int .i64 0, .string ⟨#[]⟩, .slice none 0 0] := (Blk.new w _ _).alloc _
  have hN : Blk ((w.alloc (.cells #[.int .i64 0, .int .i64 0, .int .i64 0, .string ⟨#[]⟩, .slice none 0 0] 28)).alloc (.cells #[.int .i64 0, .int .i64 0, .int .i64 0, .string ⟨#[]⟩, .slice none 0 0] 28)) (w.heap.size + 1) 28 #[.int .i64 0, .int .i64 0, .int .i64 0, .string ⟨#[]⟩, .slice none 0 0] := by simpa using Blk.new (w.alloc (.cells #[.int .i64 0, .int .i64 0, .int .i64 0, .string ⟨#[]⟩, .slice none 0 0] 28)) 28 #[.int .i64 0, .int .i64 0, .int .i64 0, .string ⟨#[]⟩, .slice none 0 0]
  have hdd : decide (e < 1) = false := decide_eq_false (by omega)
  go_enter Tryz.func19, Tryz.ntmps19
  go_upto_region 2 with fail
  generalize (w.alloc (.cells #[.int .i64 0, .int .i64 0, .int .i64 0, .string ⟨#[]⟩, .slice none 0 0] 28)).alloc (.cells #[.int .i64 0, .int .i64 0, .int .i64 0, .string ⟨#[]⟩, .slice none 0 0] 28) = wa at k2 hR hN ⊢
  go_upto_if 23 with fail
  go_cut [2] (fun s2 w' => s2 = .int .i64 e ∧ w' = wa)
  case first =>
    by_cases hdc : 10000 < d
    · have e1 : e = 10000 := by rw [← he]; unfold capD; rw [if_pos hdc]
      go_wp2_with fail
      go_meet
      case rel => exact ⟨by rw [e1], rfl⟩
    · have e1 : e = d := by rw [← he]; unfold capD; rw [if_neg hdc]
      go_wp2_with fail
      go_meet
      case rel => exact ⟨by rw [e1], rfl⟩
  case rest =>
  obtain ⟨rfl, rfl⟩ := hcut
  go_upto_region 6 with fail
  have HM := s_GetHead A n c b i wc B (h.below (k2.mono hB)) (Nat.le_trans hB k2.size) hn hi
  rw [hG] at HM
  unfold ret5 headRet at HM
  go_upto_region 7 with (go_at_call 31; refine HM.mono ?_; rintro r w2 ⟨rfl, hb2⟩)
  have km := Below.one w2 (.cells #[.int .i64 5, .int .i64 0, .int .i64 (-1)] 36)
  have R3 := (hR.below hb2 hR.lt).below km (hR.below hb2 hR.lt).lt
  have N3 := (hN.below hb2 hN.lt).below km (hN.below hb2 hN.lt).lt
  have M3 := Blk.new w2 36 #[.int .i64 5, .int .i64 0, .int .i64 (-1)]
  have K3 := (k2.up hb2).up km
  generalize w2.heap.size = bm at M3 ⊢
  generalize w2.alloc (.cells #[.int .i64 5, .int .i64 0, .int .i64 (-1)] 36) = wb at R3 N3 M3 K3 ⊢
  clear hR hN HM hb2 km k2
  have e0 := M3.cell 0
  have e1 := M3.cell 1
  have e2 := M3.cell 2
  simp only [List.getElem?_toArray, List.getElem?_cons_succ, List.getElem?_cons_zero] at e0 e1 e2
  go_upto_region 10 with fail
  have kv := Below.one wb (.cells #[.int .i64 0, .int .i64 0, .int .i64 0, .string ⟨#[]⟩, .slice none 0 0] 28)
  have R4 := R3.below kv R3.lt
  have N4 := N3.below kv N3.lt
  have M4 := M3.below kv M3.lt
  have V4 := Blk.new wb 28 #[.int .i64 0, .int .i64 0, .int .i64 0, .string ⟨#[]⟩, .slice none 0 0]
  have K4 := K3.up kv
  have zv : w.heap.size + 1 < wb.heap.size := N3.lt
  have zm : bm < wb.heap.size := M3.lt
  generalize wb.heap.size = bv at V4 zv zm ⊢
  generalize wb.alloc (.cells #[.int .i64 0, .int .i64 0, .int .i64 0, .string ⟨#[]⟩, .slice none 0 0] 28) = wd0 at R4 N4 M4 V4 K4 ⊢
  clear R3 N3 M3 K3 kv e0 e1 e2
  have e0 := M4.cell 0
  have e1 := M4.cell 1
  have e2 := M4.cell 2
  simp only [List.getElem?_toArray, List.getElem?_cons_succ, List.getElem?_cons_zero] at e0 e1 e2
  have f0 := V4.frozen 0
  have p0 := V4.cell 0
  simp only [List.getElem?_toArray, List.getElem?_cons_succ, List.getElem?_cons_zero] at p0
  go_upto_region 13 with fail
  have R5 := R4.far (p := ⟨bv, 0, none⟩) (by show w.heap.size ≠ bv; omega) (.int .i64 9)
  have N5 := N4.far (p := ⟨bv, 0, none⟩) (by show w.heap.size + 1 ≠ bv; omega) (.int .i64 9)
  have M5 := M4.far (p := ⟨bv, 0, none⟩) (by show bm ≠ bv; omega) (.int .i64 9)
  have V5 : Blk (wd0.setCell ⟨bv, 0, none⟩ (.int .i64 9)) bv 28 #[.int .i64 9, .int .i64 0, .int .i64 0, .string ⟨#[]⟩, .slice none 0 0] := by simpa using V4.set_ 0 (.int .i64 9)
  have K5 := K4.setCell (p := ⟨bv, 0, none⟩) (by show w.heap.size ≤ bv; omega) (.int .i64 9)
  generalize wd0.setCell ⟨bv, 0, none⟩ (.int .i64 9) = wd1 at R5 N5 M5 V5 K5 ⊢
  clear R4 N4 M4 V4 K4 f0 p0 e0 e1 e2
  have e0 := M5.cell 0
  have e1 := M5.cell 1
  have e2 := M5.cell 2
  simp only [List.getElem?_toArray, List.getElem?_cons_succ, List.getElem?_cons_zero] at e0 e1 e2
  have f0 := V5.frozen 0
  have p0 := V5.cell 0
  simp only [List.getElem?_toArray, List.getElem?_cons_succ, List.getElem?_cons_zero] at p0
  go_upto_region 15 with fail
  have R6 := R5.far (p := ⟨bv, 0, none⟩) (by show w.heap.size ≠ bv; omega) (.int .i64 10)
  have N6 := N5.far (p := ⟨bv, 0, none⟩) (by show w.heap.size + 1 ≠ bv; omega) (.int .i64 10)
  have M6 := M5.far (p := ⟨bv, 0, none⟩) (by show bm ≠ bv; omega) (.int .i64 10)
  have V6 : Blk (wd1.setCell ⟨bv, 0, none⟩ (.int .i64 10)) bv 28 #[.int .i64 10, .int .i64 0, .int .i64 0, .string ⟨#[]⟩, .slice none 0 0] := by simpa using V5.set_ 0 (.int .i64 10)
  have K6 := K5.setCell (p := ⟨bv, 0, none⟩) (by show w.heap.size ≤ bv; omega) (.int .i64 10)
  generalize wd1.setCell ⟨bv, 0, none⟩ (.int .i64 10) = wd2 at R6 N6 M6 V6 K6 ⊢
  clear R5 N5 M5 V5 K5 f0 p0 e0 e1 e2
  have e0 := M6.cell 0
  have e1 := M6.cell 1
  have e2 := M6.cell 2
  simp only [List.getElem?_toArray, List.getElem?_cons_succ, List.getElem?_cons_zero] at e0 e1 e2
  have HM1 := HMM wd2 (h.below (K6.mono hB)) (Nat.le_trans hB K6.size)
  clear HMM
  have zbv : bv < wd2.heap.size := V6.lt
  cases X with
  | bad c0 =>
    have hc0 := hXb c0 rfl
    have hcb : (c0 != 0) = true := by simpa using hc0
    unfold ManyRes at HM1
    simp only at HM1
    go_upto_region 46 with (go_at_call 36; refine HM1.mono ?_; rintro r w5 ⟨rfl, hb5⟩; have V8 := V6.below hb5 V6.lt; have p4 := V8.cell 4; have f4 := V8.frozen 4; simp only [List.getElem?_toArray, List.getElem?_cons_succ, List.getElem?_cons_zero] at p4)
    have R9 := (R6.below hb5 R6.lt).far (p := ⟨bv, 4, none⟩) (by show w.heap.size ≠ bv; omega) (.slice none 0 0)
    have N9 := (N6.below hb5 N6.lt).far (p := ⟨bv, 4, none⟩) (by show w.heap.size + 1 ≠ bv; omega) (.slice none 0 0)
    have K9 := (K6.up hb5).setCell (p := ⟨bv, 4, none⟩) (by show w.heap.size ≤ bv; omega) (.slice none 0 0)
    generalize w5.setCell ⟨bv, 4, none⟩ (.slice none 0 0) = w8 at R9 N9 K9 ⊢
    clear R6 N6 M6 V6 K6 V8 p4 f4 HM1 hb5 e0 e1 e2
    have b0 := N9.cell 0
    have b1 := N9.cell 1
    have b2 := N9.cell 2
    have b3 := N9.cell 3
    have b4 := N9.cell 4
    simp only [List.getElem?_toArray, List.getElem?_cons_succ, List.getElem?_cons_zero] at b0 b1 b2 b3 b4
    obtain ⟨x0, x1, x2, x3, x4, ⟨s0, t0⟩, ⟨s1, t1⟩, ⟨s2, t2⟩, ⟨s3, t3⟩, s4, t4⟩ := R9.five (o := 0) (by simp) (.int .i64 0) (.int .i64 0) (.int .i64 0) (.string ⟨#[]⟩)
    go_wp2_with fail
    have hblk : Blk (set5 w8 w.heap.size 0 zeroT ⟨none, 0, 0, []⟩) w.heap.size 28 _ := Blk.five_ R9 zeroT ⟨none, 0, 0, []⟩
    have hbl : Below w.heap.size w (set5 w8 w.heap.size 0 zeroT ⟨none, 0, 0, []⟩) := below_set5 K9 (Nat.le_refl _)
    have hres := fun (tm : Array Value) (hp : tm.getD 6 undef = .pointer (some ⟨w.heap.size, 0, none⟩)) => results_blk3 (P := Tryz.prog) (tmps := tm) Tryz.results19 Tryz.isAgg28 (by exact Tryz.sizeOf28) hp hblk
    refine bodyPost_ret (hres _ rfl) rfl ?_
    exact ⟨⟨none, 0, 0, []⟩, rfl, LsAt.nil_ _ _, Own.nil_ _ _, hbl⟩
  | good l q' =>
    unfold ManyRes at HM1
    simp only at HM1
    go_upto_region 47 with (go_at_call 36; refine HM1.mono ?_; rintro r w5 ⟨A3, n3, c3, es, rfl, hrv, hb5⟩; have V8 := V6.below hb5 V6.lt; have p4 := V8.cell 4; have f4 := V8.frozen 4; simp only [List.getElem?_toArray, List.getElem?_cons_succ, List.getElem?_cons_zero] at p4)
    have R9 := (R6.below hb5 R6.lt).far (p := ⟨bv, 4, none⟩) (by show w.heap.size ≠ bv; omega) (.slice A3 n3 c3)
    have N9 := (N6.below hb5 N6.lt).far (p := ⟨bv, 4, none⟩) (by show w.heap.size + 1 ≠ bv; omega) (.slice A3 n3 c3)
    have K9 := (K6.up hb5).setCell (p := ⟨bv, 4, none⟩) (by show w.heap.size ≤ bv; omega) (.slice A3 n3 c3)
    have V9 : Blk (w5.setCell ⟨bv, 4, none⟩ (.slice A3 n3 c3)) bv 28 #[.int .i64 10, .int .i64 0, .int .i64 0, .string ⟨#[]⟩, .slice A3 n3 c3] := by simpa using V8.set_ 4 (.slice A3 n3 c3)
    have hrv9 := hrv.frg (g := bv) ((Fr.refl [bv] w5).setCell (p := ⟨bv, 4, none⟩) (by simp) (.slice A3 n3 c3)) zbv
    generalize w5.setCell ⟨bv, 4, none⟩ (.slice A3 n3 c3) = w8 at R9 N9 V9 K9 hrv9 ⊢
    clear R6 N6 M6 V6 K6 V8 p4 f4 HM1 hb5 hrv e0 e1 e2
    obtain ⟨fp, hls, hown, _⟩ := hrv9.list hrv9.cap.1 hrv9.cap.2
    have hn0 : w.heap.size ∉ fp := fun hx => by have := (hown.2 _ hx).1; omega
    have hlo : w.heap.size ≤ wd2.heap.size := by omega
    obtain ⟨v0, v1, v2, v3, v4⟩ := (show Blk w8 bv 28 (valCells ⟨10, 0, 0, ⟨#[]⟩, l⟩ ⟨A3, n3, c3, fp⟩) from V9).boxV
    obtain ⟨x0, x1, x2, x3, x4, ⟨s0, t0⟩, ⟨s1, t1⟩, ⟨s2, t2⟩, ⟨s3, t3⟩, s4, t4⟩ := R9.five (o := 0) (by simp) (.int .i64 (⟨10, 0, 0, ⟨#[]⟩, l⟩ : Tr).k) (.int .i64 (⟨10, 0, 0, ⟨#[]⟩, l⟩ : Tr).n) (.int .i64 (⟨10, 0, 0, ⟨#[]⟩, l⟩ : Tr).x) (.string (⟨10, 0, 0, ⟨#[]⟩, l⟩ : Tr).s)
    go_wp2_with fail
    have hblk : Blk (set5 w8 w.heap.size 0 ⟨10, 0, 0, ⟨#[]⟩, l⟩ ⟨A3, n3, c3, fp⟩) w.heap.size 28 _ := Blk.five_ R9 ⟨10, 0, 0, ⟨#[]⟩, l⟩ ⟨A3, n3, c3, fp⟩
    have hbl : Below w.heap.size w (set5 w8 w.heap.size 0 ⟨10, 0, 0, ⟨#[]⟩, l⟩ ⟨A3, n3, c3, fp⟩) := below_set5 K9 (Nat.le_refl _)
    have hres := fun (tm : Array Value) (hp : tm.getD 6 undef = .pointer (some ⟨w.heap.size, 0, none⟩)) => results_blk3 (P := Tryz.prog) (tmps := tm) Tryz.results19 Tryz.isAgg28 (by exact Tryz.sizeOf28) hp hblk
    refine bodyPost_ret (hres _ rfl) rfl ?_
    have hls5 := hls.set5_ (e2 := ⟨A3, n3, c3, fp⟩) (g := w.heap.size) (o := 0) (t := ⟨10, 0, 0, ⟨#[]⟩, l⟩) hn0
    have how5 := (hown.mono (lo2 := w.heap.size) hlo).set5_ (g := w.heap.size) (o := 0) (t := ⟨10, 0, 0, ⟨#[]⟩, l⟩) (e := ⟨A3, n3, c3, fp⟩) hn0
    exact ⟨⟨A3, n3, c3, fp⟩, rfl, hls5, how5, hbl⟩
set_option maxHeartbeats 4000000 in
theorem s_T_many6 (A : Option Addr) (n c : Nat) (b : List UInt8) (i d e : Int) (w : World) (B : Nat) (h : Sl w B 1 A n c (u8s b)) (hB : B ≤ w.heap.size) (hn : n ≤ 1048576) (hi : -9223372036854775808 ≤ i ∧ i ≤ 9223372036854775807) (he : capD d = e) (hd : 1 ≤ e) (m wd q : Int) (hG : getHead b i = (6, m, wd, q, 0)) (hw : wd ≠ -1) (f : Nat) (hf : 2 * (n - i.toNat) + 3 ≤ f + 2) (hV : ∀ g, g < f + 1 → TSays A n c b B g) :
    Calls Tryz.prog 19 #[.slice A n c, .int .i64 i, .int .i64 d] w fun r w' => GetRes w w' (resR (closeH 6 m (tM b (f + 1) e (manyH 6 m) q.toNat []))).1 (resP (closeH 6 m (tM b (f + 1) e (manyH 6 m) q.toNat []))) (resR (closeH 6 m (tM b (f + 1) e (manyH 6 m) q.toNat []))).2 r := by
  have hgood := head_facts hG
  obtain ⟨qn, rfl⟩ := Int.eq_ofNat_of_zero_le (show 0 ≤ q by omega)
  have hq : qn ≤ n := by have := h.blen; omega
  rw [Int.toNat_natCast]
  have he4 : e ≤ 10000 := by rw [← he]; unfold capD; split <;> omega
  have hw0 : decide (wd < 0) = false := decide_eq_false (by omega)
  obtain ⟨mm, rfl⟩ := Int.eq_ofNat_of_zero_le hgood.2.2.2.2.1.1
  have hmy : manyH 6 (mm : Int) = 1 := by unfold manyH; simp
  rw [hmy]
  have HMM := fun w1 hh hBB => s_many_def A n c b qn e 1 false w1 B hh hBB hn hq hd he4 (by omega) f (by omega) hV
  rw [show ((1 : Nat) : Int) = 1 from rfl] at HMM
  clear hmy
  obtain ⟨X, hX⟩ : ∃ X, tM b (f + 1) e 1 qn [] = X := ⟨_, rfl⟩
  have hXb : ∀ c0, X = .bad c0 → c0 ≠ 0 := fun c0 he0 => (tVM_bad b (f + 1)).2.1 _ _ _ _ _ (hX.trans he0)
  rw [hX] at HMM ⊢
  clear hX hV
  have k2 := Below.two w (.cells #[.int .i64 0, .int .i64 0, .int .i64 0, .string ⟨#[]⟩, .slice none 0 0] 28) (.cells #[.int .i64 0, .int .i64 0, .int .i64 0, .string ⟨#[]⟩, .slice none 0 0] 28)
  have hR : Blk ((w.alloc (.cells #[.int .i64 0, .int .i64 0, .int .i64 0, .string ⟨#[]⟩, .slice none 0 0] 28)).alloc (.cells #[.int .i64 0, .int .i64 0, .int .i64 0, .string ⟨#[]⟩, .slice none 0 0] 28)) w.heap.size 28 #[.int .i64 0, .int .i64 0, .int .i64 0, .string ⟨#[]⟩, .slice none 0 0] := (Blk.new w _ _).alloc _
  have hN : Blk ((w.alloc (.cells #[.int .i64 0, .int .i64 0, .int .i64 0, .string ⟨#[]⟩, .slice none 0 0] 28)).alloc (.cells #[.int .i64 0, .int .i64 0, .int .i64 0, .string ⟨#[]⟩, .slice none 0 0] 28)) (w.heap.size + 1) 28 #[.int .i64 0, .int .i64 0, .int .i64 0, .string ⟨#[]⟩, .slice none 0 0] := by simpa using Blk.new (w.alloc (.cells #[.int .i64 0, .int .i64 0, .int .i64 0, .string ⟨#[]⟩, .slice none 0 0] 28)) 28 #[.int .i64 0, .int .i64 0, .int .i64 0, .string ⟨#[]⟩, .slice none 0 0]
  have hdd : decide (e < 1) = false := decide_eq_false (by omega)
  go_enter Tryz.func19, Tryz.ntmps19
  go_upto_region 2 with fail
  generalize (w.alloc (.cells #[.int .i64 0, .int .i64 0, .int .i64 0, .string ⟨#[]⟩, .slice none 0 0] 28)).alloc (.cells #[.int .i64 0, .int .i64 0, .int .i64 0, .string ⟨#[]⟩, .slice none 0 0] 28) = wa at k2 hR hN ⊢
  go_upto_if 23 with fail
  go_cut [2] (fun s2 w' => s2 = .int .i64 e ∧ w' = wa)
  case first =>
    by_cases hdc : 10000 < d
    · have e1 : e = 10000 := by rw [← he]; unfold capD; rw [if_pos hdc]
      go_wp2_with fail
      go_meet
      case rel => exact ⟨by rw [e1], rfl⟩
    · have e1 : e = d := by rw [← he]; unfold capD; rw [if_neg hdc]
      go_wp2_with fail
      go_meet
      case rel => exact ⟨by rw [e1], rfl⟩
  case rest =>
  obtain ⟨rfl, rfl⟩ := hcut
  go_upto_region 6 with fail
  have HM := s_GetHead A n c b i wc B (h.below (k2.mono hB)) (Nat.le_trans hB k2.size) hn hi
  rw [hG] at HM
  unfold ret5 headRet at HM
  go_upto_region 7 with (go_at_call 31; refine HM.mono ?_; rintro r w2 ⟨rfl, hb2⟩)
  have km := Below.one w2 (.cells #[.int .i64 6, .int .i64 mm, .int .i64 wd] 36)
  have R3 := (hR.below hb2 hR.lt).below km (hR.below hb2 hR.lt).lt
  have N3 := (hN.below hb2 hN.lt).below km (hN.below hb2 hN.lt).lt
  have M3 := Blk.new w2 36 #[.int .i64 6, .int .i64 mm, .int .i64 wd]
  have K3 := (k2.up hb2).up km
  generalize w2.heap.size = bm at M3 ⊢
  generalize w2.alloc (.cells #[.int .i64 6, .int .i64 mm, .int .i64 wd] 36) = wb at R3 N3 M3 K3 ⊢
  clear hR hN HM hb2 km k2
  have e0 := M3.cell 0
  have e1 := M3.cell 1
  have e2 := M3.cell 2
  simp only [List.getElem?_toArray, List.getElem?_cons_succ, List.getElem?_cons_zero] at e0 e1 e2
  go_upto_region 10 with fail
  have kv := Below.one wb (.cells #[.int .i64 0, .int .i64 0, .int .i64 0, .string ⟨#[]⟩, .slice none 0 0] 28)
  have R4 := R3.below kv R3.lt
  have N4 := N3.below kv N3.lt
  have M4 := M3.below kv M3.lt
  have V4 := Blk.new wb 28 #[.int .i64 0, .int .i64 0, .int .i64 0, .string ⟨#[]⟩, .slice none 0 0]
  have K4 := K3.up kv
  have zv : w.heap.size + 1 < wb.heap.size := N3.lt
  have zm : bm < wb.heap.size := M3.lt
  generalize wb.heap.size = bv at V4 zv zm ⊢
  generalize wb.alloc (.cells #[.int .i64 0, .int .i64 0, .int .i64 0, .string ⟨#[]⟩, .slice none 0 0] 28) = wd0 at R4 N4 M4 V4 K4 ⊢
  clear R3 N3 M3 K3 kv e0 e1 e2
  have e0 := M4.cell 0
  have e1 := M4.cell 1
  have e2 := M4.cell 2
  simp only [List.getElem?_toArray, List.getElem?_cons_succ, List.getElem?_cons_zero] at e0 e1 e2
  have f0 := V4.frozen 0
  have p0 := V4.cell 0
  simp only [List.getElem?_toArray, List.getElem?_cons_succ, List.getElem?_cons_zero] at p0
  go_upto_region 13 with fail
  have R5 := R4.far (p := ⟨bv, 0, none⟩) (by show w.heap.size ≠ bv; omega) (.int .i64 9)
  have N5 := N4.far (p := ⟨bv, 0, none⟩) (by show w.heap.size + 1 ≠ bv; omega) (.int .i64 9)
  have M5 := M4.far (p := ⟨bv, 0, none⟩) (by show bm ≠ bv; omega) (.int .i64 9)
  have V5 : Blk (wd0.setCell ⟨bv, 0, none⟩ (.int .i64 9)) bv 28 #[.int .i64 9, .int .i64 0, .int .i64 0, .string ⟨#[]⟩, .slice none 0 0] := by simpa using V4.set_ 0 (.int .i64 9)
  have K5 := K4.setCell (p := ⟨bv, 0, none⟩) (by show w.heap.size ≤ bv; omega) (.int .i64 9)
  generalize wd0.setCell ⟨bv, 0, none⟩ (.int .i64 9) = wd1 at R5 N5 M5 V5 K5 ⊢
  clear R4 N4 M4 V4 K4 f0 p0 e0 e1 e2
  have e0 := M5.cell 0
  have e1 := M5.cell 1
  have e2 := M5.cell 2
  simp only [List.getElem?_toArray, List.getElem?_cons_succ, List.getElem?_cons_zero] at e0 e1 e2
  have f0 := V5.frozen 0
  have p0 := V5.cell 0
  simp only [List.getElem?_toArray, List.getElem?_cons_succ, List.getElem?_cons_zero] at p0
  go_upto_region 18 with fail
  have R6 := R5.far (p := ⟨bv, 0, none⟩) (by show w.heap.size ≠ bv; omega) (.int .i64 11)
  have N6 := N5.far (p := ⟨bv, 0, none⟩) (by show w.heap.size + 1 ≠ bv; omega) (.int .i64 11)
  have M6 := M5.far (p := ⟨bv, 0, none⟩) (by show bm ≠ bv; omega) (.int .i64 11)
  have V6 : Blk (wd1.setCell ⟨bv, 0, none⟩ (.int .i64 11)) bv 28 #[.int .i64 11, .int .i64 0, .int .i64 0, .string ⟨#[]⟩, .slice none 0 0] := by simpa using V5.set_ 0 (.int .i64 11)
  have K6 := K5.setCell (p := ⟨bv, 0, none⟩) (by show w.heap.size ≤ bv; omega) (.int .i64 11)
  generalize wd1.setCell ⟨bv, 0, none⟩ (.int .i64 11) = wd2 at R6 N6 M6 V6 K6 ⊢
  clear R5 N5 M5 V5 K5 f0 p0 e0 e1 e2
  have e0 := M6.cell 0
  have e1 := M6.cell 1
  have e2 := M6.cell 2
  simp only [List.getElem?_toArray, List.getElem?_cons_succ, List.getElem?_cons_zero] at e0 e1 e2
  have f1 := V6.frozen 1
  have p1 := V6.cell 1
  simp only [List.getElem?_toArray, List.getElem?_cons_succ, List.getElem?_cons_zero] at p1
  go_upto_region 19 with fail
  have R7 := R6.far (p := ⟨bv, 1, none⟩) (by show w.heap.size ≠ bv; omega) (.int .i64 mm)
  have N7 := N6.far (p := ⟨bv, 1, none⟩) (by show w.heap.size + 1 ≠ bv; omega) (.int .i64 mm)
  have M7 := M6.far (p := ⟨bv, 1, none⟩) (by show bm ≠ bv; omega) (.int .i64 mm)
  have V7 : Blk (wd2.setCell ⟨bv, 1, none⟩ (.int .i64 mm)) bv 28 #[.int .i64 11, .int .i64 mm, .int .i64 0, .string ⟨#[]⟩, .slice none 0 0] := by simpa using V6.set_ 1 (.int .i64 mm)
  have K7 := K6.setCell (p := ⟨bv, 1, none⟩) (by show w.heap.size ≤ bv; omega) (.int .i64 mm)
  generalize wd2.setCell ⟨bv, 1, none⟩ (.int .i64 mm) = wd3 at R7 N7 M7 V7 K7 ⊢
  clear R6 N6 M6 V6 K6 f1 p1 e0 e1 e2
  have e0 := M7.cell 0
  have e1 := M7.cell 1
  have e2 := M7.cell 2
  simp only [List.getElem?_toArray, List.getElem?_cons_succ, List.getElem?_cons_zero] at e0 e1 e2
  have HM1 := HMM wd3 (h.below (K7.mono hB)) (Nat.le_trans hB K7.size)
  clear HMM
  have zbv : bv < wd3.heap.size := V7.lt
  cases X with
  | bad c0 =>
    have hc0 := hXb c0 rfl
    have hcb : (c0 != 0) = true := by simpa using hc0
    unfold ManyRes at HM1
    simp only at HM1
    go_upto_region 46 with (go_at_call 36; refine HM1.mono ?_; rintro r w5 ⟨rfl, hb5⟩; have V8 := V7.below hb5 V7.lt; have p4 := V8.cell 4; have f4 := V8.frozen 4; simp only [List.getElem?_toArray, List.getElem?_cons_succ, List.getElem?_cons_zero] at p4)
    have R9 := (R7.below hb5 R7.lt).far (p := ⟨bv, 4, none⟩) (by show w.heap.size ≠ bv; omega) (.slice none 0 0)
    have N9 := (N7.below hb5 N7.lt).far (p := ⟨bv, 4, none⟩) (by show w.heap.size + 1 ≠ bv; omega) (.slice none 0 0)
    have K9 := (K7.up hb5).setCell (p := ⟨bv, 4, none⟩) (by show w.heap.size ≤ bv; omega) (.slice none 0 0)
    generalize w5.setCell ⟨bv, 4, none⟩ (.slice none 0 0) = w8 at R9 N9 K9 ⊢
    clear R7 N7 M7 V7 K7 V8 p4 f4 HM1 hb5 e0 e1 e2
    have b0 := N9.cell 0
    have b1 := N9.cell 1
    have b2 := N9.cell 2
    have b3 := N9.cell 3
    have b4 := N9.cell 4
    simp only [List.getElem?_toArray, List.getElem?_cons_succ, List.getElem?_cons_zero] at b0 b1 b2 b3 b4
    obtain ⟨x0, x1, x2, x3, x4, ⟨s0, t0⟩, ⟨s1, t1⟩, ⟨s2, t2⟩, ⟨s3, t3⟩, s4, t4⟩ := R9.five (o := 0) (by simp) (.int .i64 0) (.int .i64 0) (.int .i64 0) (.string ⟨#[]⟩)
    go_wp2_with fail
    have hblk : Blk (set5 w8 w.heap.size 0 zeroT ⟨none, 0, 0, []⟩) w.heap.size 28 _ := Blk.five_ R9 zeroT ⟨none, 0, 0, []⟩
    have hbl : Below w.heap.size w (set5 w8 w.heap.size 0 zeroT ⟨none, 0, 0, []⟩) := below_set5 K9 (Nat.le_refl _)
    have hres := fun (tm : Array Value) (hp : tm.getD 6 undef = .pointer (some ⟨w.heap.size, 0, none⟩)) => results_blk3 (P := Tryz.prog) (tmps := tm) Tryz.results19 Tryz.isAgg28 (by exact Tryz.sizeOf28) hp hblk
    refine bodyPost_ret (hres _ rfl) rfl ?_
    exact ⟨⟨none, 0, 0, []⟩, rfl, LsAt.nil_ _ _, Own.nil_ _ _, hbl⟩
  | good l q' =>
    unfold ManyRes at HM1
    simp only at HM1
    go_upto_region 47 with (go_at_call 36; refine HM1.mono ?_; rintro r w5 ⟨A3, n3, c3, es, rfl, hrv, hb5⟩; have V8 := V7.below hb5 V7.lt; have p4 := V8.cell 4; have f4 := V8.frozen 4; simp only [List.getElem?_toArray, List.getElem?_cons_succ, List.getElem?_cons_zero] at p4)
    have R9 := (R7.below hb5 R7.lt).far (p := ⟨bv, 4, none⟩) (by show w.heap.size ≠ bv; omega) (.slice A3 n3 c3)
    have N9 := (N7.below hb5 N7.lt).far (p := ⟨bv, 4, none⟩) (by show w.heap.size + 1 ≠ bv; omega) (.slice A3 n3 c3)
    have K9 := (K7.up hb5).setCell (p := ⟨bv, 4, none⟩) (by show w.heap.size ≤ bv; omega) (.slice A3 n3 c3)
    have V9 : Blk (w5.setCell ⟨bv, 4, none⟩ (.slice A3 n3 c3)) bv 28 #[.int .i64 11, .int .i64 mm, .int .i64 0, .string ⟨#[]⟩, .slice A3 n3 c3] := by simpa using V8.set_ 4 (.slice A3 n3 c3)
    have hrv9 := hrv.frg (g := bv) ((Fr.refl [bv] w5).setCell (p := ⟨bv, 4, none⟩) (by simp) (.slice A3 n3 c3)) zbv
    generalize w5.setCell ⟨bv, 4, none⟩ (.slice A3 n3 c3) = w8 at R9 N9 V9 K9 hrv9 ⊢
    clear R7 N7 M7 V7 K7 V8 p4 f4 HM1 hb5 hrv e0 e1 e2
    obtain ⟨fp, hls, hown, _⟩ := hrv9.list hrv9.cap.1 hrv9.cap.2
    have hn0 : w.heap.size ∉ fp := fun hx => by have := (hown.2 _ hx).1; omega
    have hlo : w.heap.size ≤ wd3.heap.size := by omega
    obtain ⟨v0, v1, v2, v3, v4⟩ := (show Blk w8 bv 28 (valCells ⟨11, mm, 0, ⟨#[]⟩, l⟩ ⟨A3, n3, c3, fp⟩) from V9).boxV
    obtain ⟨x0, x1, x2, x3, x4, ⟨s0, t0⟩, ⟨s1, t1⟩, ⟨s2, t2⟩, ⟨s3, t3⟩, s4, t4⟩ := R9.five (o := 0) (by simp) (.int .i64 (⟨11, mm, 0, ⟨#[]⟩, l⟩ : Tr).k) (.int .i64 (⟨11, mm, 0, ⟨#[]⟩, l⟩ : Tr).n) (.int .i64 (⟨11, mm, 0, ⟨#[]⟩, l⟩ : Tr).x) (.string (⟨11, mm, 0, ⟨#[]⟩, l⟩ : Tr).s)
    go_wp2_with fail
    have hblk : Blk (set5 w8 w.heap.size 0 ⟨11, mm, 0, ⟨#[]⟩, l⟩ ⟨A3, n3, c3, fp⟩) w.heap.size 28 _ := Blk.five_ R9 ⟨11, mm, 0, ⟨#[]⟩, l⟩ ⟨A3, n3, c3, fp⟩
    have hbl : Below w.heap.size w (set5 w8 w.heap.size 0 ⟨11, mm, 0, ⟨#[]⟩, l⟩ ⟨A3, n3, c3, fp⟩) := below_set5 K9 (Nat.le_refl _)
    have hres := fun (tm : Array Value) (hp : tm.getD 6 undef = .pointer (some ⟨w.heap.size, 0, none⟩)) => results_blk3 (P := Tryz.prog) (tmps := tm) Tryz.results19 Tryz.isAgg28 (by exact Tryz.sizeOf28) hp hblk
    refine bodyPost_ret (hres _ rfl) rfl ?_
    have hls5 := hls.set5_ (e2 := ⟨A3, n3, c3, fp⟩) (g := w.heap.size) (o := 0) (t := ⟨11, mm, 0, ⟨#[]⟩, l⟩) hn0
    have how5 := (hown.mono (lo2 := w.heap.size) hlo).set5_ (g := w.heap.size) (o := 0) (t := ⟨11, mm, 0, ⟨#[]⟩, l⟩) (e := ⟨A3, n3, c3, fp⟩) hn0
    exact ⟨⟨A3, n3, c3, fp⟩, rfl, hls5, how5, hbl⟩
end Go.Proofs.YtmelnaidjgpclaaGreatDoor

namespace Go.Proofs.YtmelnaidjgpclaaGreatDoor
open Go.RowKit

theorem tV_head {b : List UInt8} {f : Nat} {d i mj m wd q : Int} (hd : 1 ≤ d) (hG : getHead b i = (mj, m, wd, q, 0)) :
    tV b (f + 2) d i = (if mj = 4 ∨ mj = 5 ∨ mj = 6 then closeH mj m (if wd = -1 then tI b (f + 1) d (decide (mj = 5)) false q.toNat [] else tM b (f + 1) d (manyH mj m) q.toNat []) else leafH b mj m wd q.toNat) := by
  rw [tV, if_neg (by omega), hG]
  simp only [ne_eq, not_true_eq_false, if_false]
theorem s_getT {A : Option Addr} {n c : Nat} {b : List UInt8} {B : Nat} (hn : n ≤ 1048576) (f : Nat) : TSays A n c b B f := by
  induction f using Nat.strongRecOn with
  | _ f ih =>
    intro i d w h hB hf hi hd
    have hbl := h.blen
    obtain ⟨f, rfl⟩ : ∃ z, f = z + 2 := ⟨f - 2, by omega⟩
    obtain ⟨e, he⟩ : ∃ e, capD d = e := ⟨_, rfl⟩
    rw [he]
    by_cases hd1 : e < 1
    · have e : tV b (f + 2) e i = .bad 2 := by rw [tV, if_pos hd1]
      rw [e]
      exact s_T_deep A n c b i d _ w B h hB hn hi he hd1
    have hd2 : 1 ≤ e := by omega
    obtain ⟨⟨mj, m, wd, q, cd⟩, hG⟩ : ∃ x, getHead b i = x := ⟨_, rfl⟩
    by_cases hcd : cd = 0
    rotate_left
    · have e : tV b (f + 2) e i = .bad cd := by rw [tV, if_neg hd1, hG]; simp only; rw [if_pos hcd]
      rw [e]
      exact s_T_head A n c b i d _ w B h hB hn hi he hd2 mj m wd q cd hG hcd
    subst hcd
    have hg := head_facts hG
    have hV : ∀ g, g < f + 1 → TSays A n c b B g := fun g hg => ih g (by omega)
    have hmj : mj = 0 ∨ mj = 1 ∨ mj = 2 ∨ mj = 3 ∨ mj = 4 ∨ mj = 5 ∨ mj = 6 ∨ mj = 7 := by omega
    have hq : ((q.toNat : Nat) : Int) = q := by omega
    rw [tV_head hd2 hG]
    rcases hmj with rfl | rfl | rfl | rfl | rfl | rfl | rfl | rfl
    · rw [if_neg (by decide)]
      unfold leafH
      rw [if_pos rfl]
      have := s_T_int A n c b i d e w B h hB hn hi he hd2 m wd q hG
      simp only [resR, resP]
      rw [hq]
      exact this
    · rw [if_neg (by decide)]
      unfold leafH
      rw [if_neg (by decide), if_pos rfl]
      by_cases hm : 1000000000000000 ≤ m
      · rw [if_pos hm]
        exact s_T_low A n c b i d e w B h hB hn hi he hd2 m wd q hG hm
      · rw [if_neg hm]
        have := s_T_neg A n c b i d e w B h hB hn hi he hd2 m wd q hG (by omega)
        simp only [resR, resP]
        rw [hq]
        exact this
    · rw [if_neg (by decide)]
      unfold leafH
      rw [if_neg (by decide), if_neg (by decide), if_pos (by decide)]
      by_cases hw : wd = -1
      · obtain rfl : m = 0 := by omega
        subst hw
        exact s_T_str2i A n c b i d e w B h hB hn hi he hd2 q hG
      · exact s_T_str2 A n c b i d e w B h hB hn hi he hd2 m wd q hG hw
    · rw [if_neg (by decide)]
      unfold leafH
      rw [if_neg (by decide), if_neg (by decide), if_pos (by decide)]
      by_cases hw : wd = -1
      · obtain rfl : m = 0 := by omega
        subst hw
        exact s_T_str3i A n c b i d e w B h hB hn hi he hd2 q hG
      · exact s_T_str3 A n c b i d e w B h hB hn hi he hd2 m wd q hG hw
    · rw [if_pos (by decide)]
      by_cases hw : wd = -1
      · obtain rfl : m = 0 := by omega
        subst hw
        rw [if_pos rfl, decide_eq_false (by decide)]
        exact s_T_many4i A n c b i d e w B h hB hn hi he hd2 q hG f hf hV
      · rw [if_neg hw]
        exact s_T_many4 A n c b i d e w B h hB hn hi he hd2 m wd q hG hw f hf hV
    · rw [if_pos (by decide)]
      by_cases hw : wd = -1
      · obtain rfl : m = 0 := by omega
        subst hw
        rw [if_pos rfl, decide_eq_true rfl]
        exact s_T_many5i A n c b i d e w B h hB hn hi he hd2 q hG f hf hV
      · rw [if_neg hw]
        exact s_T_many5 A n c b i d e w B h hB hn hi he hd2 m wd q hG hw f hf hV
    · rw [if_pos (by decide)]
      have hw : wd ≠ -1 := by omega
      rw [if_neg hw]
      exact s_T_many6 A n c b i d e w B h hB hn hi he hd2 m wd q hG hw f hf hV
    · rw [if_neg (by decide)]
      unfold leafH
      rw [if_neg (by decide), if_neg (by decide), if_neg (by decide)]
      exact s_T_simp A n c b i d e w B h hB hn hi he hd2 m wd q hG
end Go.Proofs.YtmelnaidjgpclaaGreatDoor
