/- Numbers read from text: spec.ReadNumber. -/
import Derived.Test.YtceijgaocjghcaaGreatDoorTnM44
set_option linter.unusedVariables false
set_option maxRecDepth 100000
set_option linter.unusedSimpArgs false
namespace Go.Proofs.YtceijgaocjghcaaGreatDoor
open Go.RowKit

theorem ba_dataS (W : List UInt8) : (⟨W.toArray⟩ : ByteArray).data.toList = W := by simp
theorem getD_cases (s : ByteArray) (q : Nat) (y : UInt8) (h : s.data.toList.getD q 0 = y) : (∃ h : q < s.size, s[q] = y) ∨ (¬ q < s.size ∧ y = 0) := by
  by_cases hq : q < s.size
  · exact .inl ⟨hq, by rw [← getD_size hq]; exact h⟩
  · exact .inr ⟨hq, by rw [← h]; exact getD_out hq⟩
theorem results_tmp4s {fn : Func} {t u v x : Tmp} (h : fn.results = #[.tmp t, .tmp u, .tmp v, .tmp x]) (tmps : Array Value) (P : Program) (w : World) :
    (results fn tmps).run P w = .ok (.tuple #[tmps.getD t undef, tmps.getD u undef, tmps.getD v undef, tmps.getD x undef]) w := by
  simp [results, h]
theorem extract_dataL (s : ByteArray) (a b : Nat) : (s.extract a b).data.toList = (s.data.toList.drop a).take (b - a) := by
  rw [extractL]
theorem dg_pos {l : List UInt8} {p : Nat} (h : dgl l p ≠ []) : ¬ dgEnd l p = p := by have := dgn_pos h; omega
theorem eqb (y : UInt8) (n : Nat) (hn : n < 256) : ((y.toNat : Int) == (n : Int)) = decide (y = UInt8.ofNat n) := by
  by_cases h : y = UInt8.ofNat n
  · rw [decide_eq_true h, h, ofNat_toNat' hn]; simp
  · rw [decide_eq_false h]; exact u8_ne n hn h
set_option maxHeartbeats 4000000 in
theorem s_ReadNumber (s : ByteArray) (i : Int) (w : World) (hs : s.size ≤ 1073741824) (hi : 0 ≤ i ∧ i ≤ s.size) :
    Calls Tryz.prog 48 #[.string s, .int .i64 i] w fun e w' => e = retN (numbP s.data.toList i.toNat) ∧ w = w' := by
  obtain ⟨p, rfl⟩ : ∃ p : Nat, i = p := ⟨i.toNat, by omega⟩
  have hp : p ≤ s.size := by omega
  rw [Int.toNat_natCast]
  obtain ⟨R, hR⟩ : ∃ R, numbP s.data.toList p = R := ⟨_, rfl⟩
  rw [hR]
  have HR := Lib.hid hR
  have hp0 : ¬ (p : Int) < 0 := by omega
  have hp1 : ¬ (s.size : Int) < (p : Int) := by omega
  have hGC := fun q y h => getD_cases s q y h
  have hdF := fun (q : Nat) (hq : q ≤ s.size) w1 => s_l4Digits s q w1 (by omega) hq
  have hXD := fun a b => extract_dataL s a b
  have hXE := fun p => dgl_extract s p
  obtain ⟨l, hl⟩ : ∃ l, s.data.toList = l := ⟨_, rfl⟩
  have hll := blen_of s
  rw [hl] at HR hll
  simp only [hl] at hdF hGC hXD hXE
  obtain ⟨y, hy⟩ : ∃ y, l.getD p 0 = y := ⟨_, rfl⟩
  have hc0 := Lib.hid (hGC p y hy)
  have Hy := Lib.hid hy
  have HGC := Lib.hid hGC
  have HXD := Lib.hid hXD
  have HXE := Lib.hid hXE
  clear hR hi hl hy hGC hXD hXE
  go_enter Tryz.func48, Tryz.ntmps48
  go_upto_region 4 with fail
  go_cut [38] from 20 (fun s38 w' => s38 = .bool (decide (y = 45)) ∧ w' = w)
  case first =>
    clear HR HGC HXD HXE hdF Hy
    rcases hc0.out with ⟨hlt, hsq⟩ | ⟨hlt, rfl⟩
    · have hqi : (p : Int) < (s.size : Int) := by omega
      have x5 := eqb y 45 (by decide)
      clear hc0
      go_wp2_with fail
      go_meet
      case rel => exact ⟨by first | rfl | exact congrArg Value.bool x5, rfl⟩
    · have hqi : ¬ (p : Int) < (s.size : Int) := by omega
      clear hc0
      go_wp2_with fail
      go_meet
      case rel => exact ⟨rfl, rfl⟩
  case rest =>
  obtain ⟨rfl, rfl⟩ := hcut
  as_aux_lemma =>
  go_upto_if 38 with fail
  go_cut [1, 8] from 20 (fun s1 s8 w' => ∃ (neg : Bool) (q : Nat) (sg : Int), s1 = .int .i64 q ∧ s8 = .int .i64 sg ∧ (-1 ≤ sg ∧ sg ≤ 1) ∧ Hid (sg = if neg = true then -1 else 1) ∧ q ≤ s.size ∧ Hid (numW l neg q = R) ∧ w' = wc)
  case first =>
    by_cases h45 : y = 45
    · have hlt : p < s.size := by
        rcases hc0.out with ⟨h, _⟩ | ⟨_, h⟩
        · exact h
        · rw [h45] at h; exact absurd h (by decide)
      have HH : Hid (numW l true (p + 1) = R) := Lib.hid (by rw [← HR.out]; unfold numbP; rw [if_pos (Hy.out.trans h45)])
      have hdt : decide (y = 45) = true := decide_eq_true h45
      rw [hdt]
      clear HR HGC HXD HXE hdF Hy hc0 h45 hdt
      go_wp2_with fail
      go_meet
      case rel => exact ⟨true, p + 1, -1, by go_num, rfl, by decide, Lib.hid rfl, by omega, HH, rfl⟩
    · have HH : Hid (numW l false p = R) := Lib.hid (by rw [← HR.out]; unfold numbP; rw [if_neg (by rw [Hy.out]; exact h45)])
      have hdt : decide (y = 45) = false := decide_eq_false h45
      rw [hdt]
      clear HR HGC HXD HXE hdF Hy hc0 h45 hdt
      go_wp2_with fail
      go_meet
      case rel => exact ⟨false, p, 1, rfl, rfl, by decide, Lib.hid rfl, hp, HH, rfl⟩
  case rest =>
  obtain ⟨neg, q, sg, rfl, rfl, hsg, Hsg, hq, HW, rfl⟩ := hcut
  as_aux_lemma =>
  have hd0 := hdF q hq
  by_cases hd : dgl l q = []
  · have hR : R = badN q := by rw [← HW.out]; unfold numW; rw [if_pos hd]
    subst hR
    have e0 : dgEnd l q = q := by unfold dgEnd dgn; rw [hd]; rfl
    rw [e0] at hd0
    clear HW HR hdF hd e0 HGC HXD HXE Hy hc0
    go_wp2_with (go_at_call 85; refine (hd0 _).mono ?_; rintro e w' ⟨rfl, rfl⟩)
    refine bodyPost_ret (results_tmp4s rfl _ _ _) rfl ?_
    exact ⟨retN_eq rfl rfl rfl rfl, rfl⟩
  have hEq := dgEnd_le (l := l) (p := q) (by omega)
  have hpos := dgn_pos hd
  obtain ⟨qe, hqe⟩ : ∃ qe, dgEnd l q = qe := ⟨_, rfl⟩
  rw [hqe] at hd0 hEq hpos
  have hne : ((qe : Int) == (q : Int)) = false := by simp; omega
  obtain ⟨y0, hy0⟩ : ∃ y, l.getD q 0 = y := ⟨_, rfl⟩
  have hc1 := HGC.out q y0 hy0
  have Hy0 := Lib.hid hy0
  have Hqe := Lib.hid hqe
  obtain ⟨hql, hsq⟩ : ∃ h : q < s.size, s[q] = y0 := by
    rcases hc1 with h | ⟨h, _⟩
    · exact h
    · omega
  clear hc1 hy0 hqe hc0 Hy HR
  have hqi : (q : Int) < (s.size : Int) := by omega
  go_upto_if 52 with (go_at_call 85; refine (hd0 _).mono ?_; rintro e w' ⟨rfl, rfl⟩)
  go_cut [1] from 20 (fun s1 w' => ∃ (W : List UInt8) (r : Nat), s1 = .int .i64 r ∧ (s.extract q r).data.toList = W ∧ (∀ c ∈ W, isDg c = true) ∧ q < r ∧ r ≤ s.size ∧ Hid (numF l neg W r = R) ∧ w' = wc)
  case first =>
    by_cases h48 : y0 = 48
    · have HH : Hid (numF l neg [48] (q + 1) = R) := Lib.hid (by rw [← HW.out]; unfold numW; rw [if_neg hd, if_pos (Hy0.out.trans h48)])
      have hX : (s.extract q (q + 1)).data.toList = [48] := by
        rw [HXD.out, show q + 1 - q = 1 by omega, List.drop_eq_getElem_cons (by omega), ← getD_in (by omega), Hy0.out, h48]; rfl
      subst h48
      clear HW HGC HXD HXE hdF Hy0 hd0 Hqe hd
      go_wp2_with fail
      go_meet
      case rel => exact ⟨[48], q + 1, by go_num, hX, fun c hc => by (rw [List.mem_singleton] at hc; subst hc; decide), by omega, by omega, HH, rfl⟩
    · have HH : Hid (numF l neg (dgl l q) qe = R) := Lib.hid (by rw [← HW.out]; unfold numW; rw [if_neg hd, if_neg (by rw [Hy0.out]; exact h48), Hqe.out])
      have hX : (s.extract q qe).data.toList = dgl l q := by rw [← Hqe.out, HXE.out, ba_dataS]
      have x5 : ((y0.toNat : Int) == 48) = false := u8_ne 48 (by decide) h48
      clear HW HGC HXD HXE hdF Hy0 hd0 Hqe h48
      go_wp2_with fail
      go_meet
      case rel => exact ⟨dgl l q, qe, rfl, hX, fun c hc => dgl_all c hc, hpos, by omega, HH, rfl⟩
  case rest =>
  obtain ⟨W, r, rfl, hWB, hWd, hqr, hrs, HF, rfl⟩ := hcut
  as_aux_lemma =>
  have hqri : (q : Int) ≤ (r : Int) := by omega
  have hrsi : (r : Int) ≤ (s.size : Int) := by omega
  obtain ⟨WB, hWBe⟩ : ∃ b, s.extract q r = b := ⟨_, rfl⟩
  rw [hWBe] at hWB
  have hWz : WB.size ≤ 1073741824 := by rw [← blen_of, hWB, ← hWB, ← hWBe, HXD.out, List.length_take, List.length_drop]; omega
  obtain ⟨y1, hy1⟩ : ∃ y, l.getD r 0 = y := ⟨_, rfl⟩
  have hc1 := Lib.hid (HGC.out r y1 hy1)
  have Hy1 := Lib.hid hy1
  clear hy1 HW hd0 hd Hy0 Hqe hsq hne
  go_upto_region 15 with fail
  go_cut [68] from 20 (fun s68 w' => s68 = .bool (decide (y1 = 46)) ∧ w' = wc)
  case first =>
    have x5 := eqb y1 46 (by decide)
    have hcc := hc1.out
    clear HF HGC HXD HXE hdF Hy1 hc1
    rcases hcc with ⟨hlt, hsq⟩ | ⟨hlt, rfl⟩
    · have hqi2 : (r : Int) < (s.size : Int) := by omega
      go_wp2_with fail
      go_meet
      case rel => exact ⟨by first | rfl | exact congrArg Value.bool x5, rfl⟩
    · have hqi2 : ¬ (r : Int) < (s.size : Int) := by omega
      go_wp2_with fail
      go_meet
      case rel => exact ⟨rfl, rfl⟩
  case rest =>
  obtain ⟨rfl, rfl⟩ := hcut
  as_aux_lemma =>
  go_upto_if 68 with fail
  go_cut [1, 10, 11] from 20 (fun s1 s10 s11 w' => ∃ (DB : ByteArray) (D : List UInt8) (q2 f : Nat), s1 = .int .i64 q2 ∧ s10 = .string DB ∧ s11 = .int .i64 f ∧ DB.data.toList = D ∧ (∀ c ∈ D, isDg c = true) ∧ DB.size ≤ 2147483648 ∧ f ≤ s.size ∧ q2 ≤ s.size ∧ Hid (numE l neg D f q2 = R) ∧ w' = wc)
  case first =>
    by_cases h46 : y1 = 46
    · have hrl : r < s.size := by
        rcases hc1.out with ⟨h, _⟩ | ⟨_, h⟩
        · exact h
        · rw [h46] at h; exact absurd h (by decide)
      have hdt : decide (y1 = 46) = true := decide_eq_true h46
      rw [hdt]
      have hdF2 : ∀ w1, Calls Tryz.prog 85 #[.string s, .int .i64 ((r : Int) + 1)] w1 fun e w' => e = .returned (.int .i64 (dgEnd l (r + 1) : Nat)) ∧ w1 = w' := hdF (r + 1) (by omega)
      have hEq2 := dgEnd_le (l := l) (p := r + 1) (by omega)
      have hge : r + 1 ≤ dgEnd l (r + 1) := by unfold dgEnd; omega
      obtain ⟨q2, hq2⟩ : ∃ q2, dgEnd l (r + 1) = q2 := ⟨_, rfl⟩
      rw [hq2] at hdF2 hEq2 hge
      by_cases hd1 : dgl l (r + 1) = []
      · have hR : R = badN (r + 1) := by rw [← HF.out]; unfold numF; rw [if_pos (Hy1.out.trans h46), if_pos hd1]
        subst hR
        obtain rfl : q2 = r + 1 := by rw [← hq2]; unfold dgEnd dgn; rw [hd1]; rfl
        clear HF hdF hd1 HGC HXD HXE Hy1 hc1 hdt hq2
        have hee : (((r + 1 : Nat) : Int) == (r : Int) + 1) = true := by simp
        go_wp2_with (go_at_call 85; refine (hdF2 _).mono ?_; rintro e w' ⟨rfl, rfl⟩)
        refine bodyPost_ret (results_tmp4s rfl _ _ _) rfl ?_
        exact ⟨retN_eq rfl rfl rfl rfl, rfl⟩
      · have hpos1 := dgn_pos hd1
        rw [hq2] at hpos1
        have hq2f : q2 = r + 1 + dgn l (r + 1) := by rw [← hq2]; rfl
        have HH : Hid (numE l neg (W ++ dgl l (r + 1)) (dgn l (r + 1)) q2 = R) := Lib.hid (by rw [← HF.out]; unfold numF; rw [if_pos (Hy1.out.trans h46), if_neg hd1, hq2])
        have hee : (((q2 : Nat) : Int) == (r : Int) + 1) = false := by simp; omega
        obtain ⟨FB, hFB⟩ : ∃ b, s.extract (r + 1) q2 = b := ⟨_, rfl⟩
        have hFd : FB.data.toList = dgl l (r + 1) := by rw [← hFB, ← hq2, HXE.out, ba_dataS]
        have hFz : FB.size = dgn l (r + 1) := by rw [← blen_of, hFd]; rfl
        have hDd : (WB ++ FB).data.toList = W ++ dgl l (r + 1) := by rw [ByteArray.data_append, Array.toList_append, hWB, hFd]
        have hDa : ∀ c ∈ W ++ dgl l (r + 1), isDg c = true := fun c hc => by
          rcases List.mem_append.1 hc with hc | hc
          · exact hWd c hc
          · exact dgl_all c hc
        have hri1 : (r : Int) + 1 ≤ (q2 : Int) := by omega
        have hri2 : (q2 : Int) ≤ (s.size : Int) := by omega
        obtain ⟨f, hf⟩ : ∃ f, dgn l (r + 1) = f := ⟨_, rfl⟩
        rw [hf] at HH hq2f hFz
        have hFz2 : FB.size ≤ 1073741824 := by omega
        have hff : (q2 : Int) - (r : Int) - 1 = (f : Int) := by omega
        clear HF hdF hd1 HGC HXD HXE Hy1 hc1 hdt hq2 h46 hFd hWB hWd hf hq2f
        go_wp2_with (go_at_call 85; refine (hdF2 _).mono ?_; rintro e w' ⟨rfl, rfl⟩)
        go_meet
        case rel => exact ⟨WB ++ FB, _, q2, f, rfl, by first | rfl | (rw [hFB]), by first | rfl | go_num, hDd, hDa, by rw [ByteArray.size_append]; omega, by omega, by omega, HH, rfl⟩
    · have HH : Hid (numE l neg W 0 r = R) := Lib.hid (by rw [← HF.out]; unfold numF; rw [if_neg (by rw [Hy1.out]; exact h46)])
      have hdt : decide (y1 = 46) = false := decide_eq_false h46
      rw [hdt]
      clear HF hdF HGC HXD HXE Hy1 hc1 hdt h46
      go_wp2_with fail
      go_meet
      case rel => exact ⟨WB, W, r, 0, rfl, rfl, rfl, hWB, hWd, by omega, Nat.zero_le _, hrs, HH, rfl⟩
  case rest =>
  obtain ⟨DB, D, q2, f, rfl, rfl, rfl, hDB, hDd, hDz, hff, hq2, HE, rfl⟩ := hcut
  as_aux_lemma =>
  obtain ⟨y2, hy2⟩ : ∃ y, l.getD q2 0 = y := ⟨_, rfl⟩
  have hc2 := Lib.hid (HGC.out q2 y2 hy2)
  have Hy2 := Lib.hid hy2
  obtain ⟨y3, hy3⟩ : ∃ y, l.getD (q2 + 1) 0 = y := ⟨_, rfl⟩
  have hc3 := Lib.hid (HGC.out (q2 + 1) y3 hy3)
  have Hy3 := Lib.hid hy3
  clear hy2 hy3 HF hc1 Hy1 hWB hWd hWBe hqri hrsi hqi hpos hEq
  go_upto_region 24 with fail
  go_cut [105] from 20 (fun s105 w' => s105 = .bool (decide (y2 = 101 ∨ y2 = 69)) ∧ w' = wc)
  case first =>
    have hcc := hc2.out
    have hx : y2 = 101 ∨ (((y2.toNat : Int) == 101) = false ∧ y2 = 69) ∨ (((y2.toNat : Int) == 101) = false ∧ ((y2.toNat : Int) == 69) = false ∧ decide (y2 = 101 ∨ y2 = 69) = false) := by
      by_cases h1 : y2 = 101
      · exact .inl h1
      · by_cases h2 : y2 = 69
        · exact .inr (.inl ⟨u8_ne 101 (by decide) h1, h2⟩)
        · exact .inr (.inr ⟨u8_ne 101 (by decide) h1, u8_ne 69 (by decide) h2, decide_eq_false (fun h => by rcases h with h | h; exact h1 h; exact h2 h)⟩)
    clear HE HGC HXD HXE hdF Hy2 Hy3 hc2 hc3 hDB hDd
    rcases hcc with ⟨hlt, hsq⟩ | ⟨hlt, rfl⟩
    · have hqi2 : (q2 : Int) < (s.size : Int) := by omega
      rcases hx with rfl | ⟨x7, rfl⟩ | ⟨x7, x8, x9⟩
      all_goals
        go_wp2_with fail
        go_meet
        case rel => first | exact ⟨rfl, rfl⟩ | exact ⟨congrArg Value.bool (x8.trans x9.symm), rfl⟩ | exact ⟨congrArg Value.bool x9.symm, rfl⟩
    · have hqi2 : ¬ (q2 : Int) < (s.size : Int) := by omega
      clear hx
      go_wp2_with fail
      go_meet
      case rel => exact ⟨rfl, rfl⟩
  case rest =>
  obtain ⟨rfl, rfl⟩ := hcut
  as_aux_lemma =>
  go_upto_if 105 with fail
  go_cut [1, 13, 14] from 20 (fun s1 s13 s14 w' => ∃ (E : List UInt8) (q3 : Nat) (down fits : Bool) (x : Int), s1 = .int .i64 q3 ∧ s13 = .int .i64 x ∧ s14 = .bool fits ∧ Hid (fits = decide (E.length ≤ 3)) ∧ (-1000 < x ∧ x < 1000) ∧ Hid (fits = true → x = sgn down (valD E)) ∧ q3 ≤ s.size ∧ Hid (numZ neg D f down E q3 = R) ∧ w' = wc)
  case first =>
    as_aux_lemma =>
    by_cases h2 : y2 = 101 ∨ y2 = 69
    · have hlt2 : q2 < s.size := by
        rcases hc2.out with ⟨h, _⟩ | ⟨_, h⟩
        · exact h
        · rw [h] at h2; exact absurd h2 (by decide)
      have hdt : decide (y2 = 101 ∨ y2 = 69) = true := decide_eq_true h2
      rw [hdt]
      have hH2 : Hid ((if dgl l (expAt l q2) = [] then badN (expAt l q2) else numZ neg D f (y3 == 45) (dgl l (expAt l q2)) (dgEnd l (expAt l q2))) = R) := by
        have e1 := HE.out
        unfold numE at e1
        rw [if_pos (by rw [Hy2.out]; exact h2), Hy3.out] at e1
        exact Lib.hid e1
      have hEat : expAt l q2 = if y3 = 43 ∨ y3 = 45 then q2 + 2 else q2 + 1 := by unfold expAt; rw [Hy3.out]
      obtain ⟨ea, hea⟩ : ∃ ea, expAt l q2 = ea := ⟨_, rfl⟩
      rw [hea] at hEat hH2
      have hle : ea ≤ s.size := by
        rw [hEat]
        split
        · rename_i h3
          rcases hc3.out with ⟨h, _⟩ | ⟨_, h⟩
          · omega
          · rw [h] at h3; exact absurd h3 (by decide)
        · omega
      have Hea := Lib.hid hEat
      clear hdt HE hea hEat h2 Hy2 Hy3 hDB hDd
      go_upto_region 26 with fail
      go_cut [16] from 20 (fun s16 w' => s16 = .bool (decide (y3 = 45)) ∧ w' = wc)
      case first =>
        have x5 := eqb y3 45 (by decide)
        have hcc := hc3.out
        clear HGC HXD HXE hdF hc2 hc3 hH2 Hea
        rcases hcc with ⟨hlt, hsq⟩ | ⟨hlt, rfl⟩
        · have hqi2 : (q2 : Int) + 1 < (s.size : Int) := by omega
          go_wp2_with fail
          go_meet
          case rel => exact ⟨by first | rfl | exact congrArg Value.bool x5, rfl⟩
        · have hqi2 : ¬ (q2 : Int) + 1 < (s.size : Int) := by omega
          go_wp2_with fail
          go_meet
          case rel => exact ⟨rfl, rfl⟩
      case rest =>
      obtain ⟨rfl, rfl⟩ := hcut
      as_aux_lemma =>
      go_upto_region 27 with fail
      go_cut [133] from 20 (fun s133 w' => s133 = .bool (decide (y3 = 43 ∨ y3 = 45)) ∧ w' = wc)
      case first =>
        have hcc := hc3.out
        have hx : y3 = 45 ∨ (((y3.toNat : Int) == 45) = false ∧ y3 = 43) ∨ (((y3.toNat : Int) == 45) = false ∧ ((y3.toNat : Int) == 43) = false ∧ decide (y3 = 43 ∨ y3 = 45) = false) := by
          by_cases h1 : y3 = 45
          · exact .inl h1
          · by_cases h2 : y3 = 43
            · exact .inr (.inl ⟨u8_ne 45 (by decide) h1, h2⟩)
            · exact .inr (.inr ⟨u8_ne 45 (by decide) h1, u8_ne 43 (by decide) h2, decide_eq_false (fun h => by rcases h with h | h; exact h2 h; exact h1 h)⟩)
        clear HGC HXD HXE hdF hc2 hc3 hH2 Hea
        rcases hcc with ⟨hlt, hsq⟩ | ⟨hlt, rfl⟩
        · have hqi2 : (q2 : Int) + 1 < (s.size : Int) := by omega
          rcases hx with rfl | ⟨x7, rfl⟩ | ⟨x7, x8, x9⟩
          all_goals
            go_wp2_with fail
            go_meet
            case rel => first | exact ⟨rfl, rfl⟩ | exact ⟨congrArg Value.bool (x8.trans x9.symm), rfl⟩ | exact ⟨congrArg Value.bool x9.symm, rfl⟩
        · have hqi2 : ¬ (q2 : Int) + 1 < (s.size : Int) := by omega
          clear hx
          go_wp2_with fail
          go_meet
          case rel => exact ⟨rfl, rfl⟩
      case rest =>
      obtain ⟨rfl, rfl⟩ := hcut
      as_aux_lemma =>
      go_upto_if 133 with fail
      go_cut [15] from 20 (fun s15 w' => s15 = .int .i64 ea ∧ w' = wc)
      case first =>
        have he := Hea.out
        clear HGC HXD HXE hdF hc2 hc3 hH2 Hea
        by_cases h3 : y3 = 43 ∨ y3 = 45
        · rw [if_pos h3] at he
          have hdt : decide (y3 = 43 ∨ y3 = 45) = true := decide_eq_true h3
          rw [hdt]
          clear h3 hdt
          go_wp2_with fail
          go_meet
          case rel => exact ⟨by rw [he]; exact congrArg (Value.int .i64) (by omega), rfl⟩
        · rw [if_neg h3] at he
          have hdt : decide (y3 = 43 ∨ y3 = 45) = false := decide_eq_false h3
          rw [hdt]
          clear h3 hdt
          go_wp2_with fail
          go_meet
          case rel => exact ⟨by rw [he]; exact congrArg (Value.int .i64) (by omega), rfl⟩
      case rest =>
      obtain ⟨rfl, rfl⟩ := hcut
      as_aux_lemma =>
      have hdF2 := hdF ea hle
      have hEq2 := dgEnd_le (l := l) (p := ea) (by omega)
      have hge : ea ≤ dgEnd l ea := by unfold dgEnd; omega
      by_cases hd1 : dgl l ea = []
      · have hR := hH2.out
        rw [if_pos hd1] at hR
        subst hR
        have e0 : dgEnd l ea = ea := by unfold dgEnd dgn; rw [hd1]; rfl
        rw [e0] at hdF2
        clear HGC HXD HXE hdF hc2 hc3 hH2 Hea hd1 e0 hEq2 hge
        go_wp2_with (go_at_call 85; refine (hdF2 _).mono ?_; rintro e w' ⟨rfl, rfl⟩)
        refine bodyPost_ret (results_tmp4s rfl _ _ _) rfl ?_
        exact ⟨retN_eq rfl rfl rfl rfl, rfl⟩
      · have hpos1 := dgn_pos hd1
        have hh := hH2.out
        rw [if_neg hd1] at hh
        have hXX := HXE.out ea
        have hlen : (dgl l ea).length = dgEnd l ea - ea := by unfold dgEnd dgn; omega
        obtain ⟨q3, hq3⟩ : ∃ q3, dgEnd l ea = q3 := ⟨_, rfl⟩
        rw [hq3] at hdF2 hEq2 hge hh hXX hlen hpos1
        have HH := Lib.hid hh
        have hEa : ∀ c ∈ dgl l ea, isDg c = true := fun c hc => dgl_all c hc
        obtain ⟨E, hEE⟩ : ∃ E, dgl l ea = E := ⟨_, rfl⟩
        rw [hEE] at HH hEa hlen hXX
        have hne : ((q3 : Int) == (ea : Int)) = false := by simp; omega
        obtain ⟨EB, hEB⟩ : ∃ b, s.extract ea q3 = b := ⟨_, rfl⟩
        rw [hEB] at hXX
        have hEBd : EB.data.toList = E := by rw [hXX, ba_dataS]
        have hEs : EB.size = q3 - ea := by rw [← blen_of, hEBd, hlen]
        have hri1 : (ea : Int) ≤ (q3 : Int) := by omega
        have hri2 : (q3 : Int) ≤ (s.size : Int) := by omega
        have hdd : (y3 == 45) = decide (y3 = 45) := by rw [Bool.eq_iff_iff]; simp
        rw [hdd] at HH
        obtain ⟨down, hdn⟩ : ∃ b, decide (y3 = 45) = b := ⟨_, rfl⟩
        rw [hdn] at HH ⊢
        by_cases hf3 : E.length ≤ 3
        · have hsN := sigN_len E
          have hv := valD_small hEa (by omega)
          have hcall := fun w1 => s_l4Value E EB hEBd hEa 3 (by decide) (by omega) w1
          rw [if_pos (by omega), decide_eq_true (by omega)] at hcall
          obtain ⟨v, hvv⟩ : ∃ v, valD E = v := ⟨_, rfl⟩
          rw [hvv] at hcall hv
          have hlt3 : (q3 : Int) - (ea : Int) ≤ 3 := by omega
          have hfit : decide ((q3 : Int) - (ea : Int) ≤ 3) = true := decide_eq_true hlt3
          have hX1 : Hid (true = decide (E.length ≤ 3)) := Lib.hid (decide_eq_true hf3).symm
          have hX2 : Hid (∀ d, sgn d (valD E) = if d = true then -(v : Int) else (v : Int)) := Lib.hid (fun d => by rw [hvv]; rfl)
          clear HGC HXD HXE hdF hc2 hc3 hH2 Hea hd1 hq3 hdd hh hlen hf3 hXX hEE hsN hvv hdn
          cases down
          all_goals
            go_wp2_with (first
              | (go_at_call 85; refine (hdF2 _).mono ?_; rintro e w' ⟨rfl, rfl⟩)
              | (go_at_call 86; refine (hcall _).mono ?_; rintro e w' ⟨rfl, rfl⟩))
            go_meet
            case rel => exact ⟨E, q3, _, true, _, rfl, rfl, by first | rfl | exact congrArg Value.bool hfit, hX1, by omega, Lib.hid (fun _ => by rw [hX2.out]; simp), by omega, HH, rfl⟩
        · have hlt3 : ¬ (q3 : Int) - (ea : Int) ≤ 3 := by omega
          have hfit : decide ((q3 : Int) - (ea : Int) ≤ 3) = false := decide_eq_false hlt3
          have hX1 : Hid (false = decide (E.length ≤ 3)) := Lib.hid (decide_eq_false hf3).symm
          clear HGC HXD HXE hdF hc2 hc3 hH2 Hea hd1 hq3 hdd hh hlen hf3 hXX hEE hdn
          cases down
          all_goals
            go_wp2_with (go_at_call 85; refine (hdF2 _).mono ?_; rintro e w' ⟨rfl, rfl⟩)
            go_meet
            case rel => exact ⟨E, q3, _, false, 0, rfl, rfl, by first | rfl | exact congrArg Value.bool hfit, hX1, by decide, Lib.hid (fun h => by cases h), by omega, HH, rfl⟩
    · have HH : Hid (numZ neg D f false [] q2 = R) := Lib.hid (by rw [← HE.out]; unfold numE; rw [if_neg (by rw [Hy2.out]; exact h2)])
      have hdt : decide (y2 = 101 ∨ y2 = 69) = false := decide_eq_false h2
      rw [hdt]
      clear HE HGC HXD HXE hdF Hy2 Hy3 hc2 hc3 hDB hDd hdt h2
      go_wp2_with fail
      go_meet
      case rel => exact ⟨[], q2, false, true, 0, rfl, rfl, rfl, Lib.hid rfl, by decide, Lib.hid (fun _ => rfl), hq2, HH, rfl⟩
  case rest =>
  obtain ⟨E, q3, down, fits, x, rfl, rfl, rfl, Hf, hx, Hx, hq3, HZ, rfl⟩ := hcut
  as_aux_lemma =>
  have hcall := fun w1 => s_l4Value D DB hDB hDd 17 (by decide) (by omega) w1
  obtain ⟨ok, hok⟩ : ∃ b, decide (sigN D ≤ 17) = b := ⟨_, rfl⟩
  obtain ⟨v, hv⟩ : ∃ v : Int, (if sigN D ≤ 17 then (valD D : Int) else 0) = v := ⟨_, rfl⟩
  have hvb : -100000000000000000 < v ∧ v < 100000000000000000 := by
    rw [← hv]
    split
    · have := valD_big hDd (by assumption); omega
    · omega
  rw [hok, hv] at hcall
  have Hv := Lib.hid hv
  have Hok := Lib.hid hok
  clear hv hok hc2 hc3 Hy2 Hy3 HE HGC HXD HXE hdF hDB
  by_cases hgood : ok = true ∧ fits = true
  · obtain ⟨rfl, rfl⟩ := hgood
    have h17 := of_decide_eq_true Hok.out
    have h3 := of_decide_eq_true Hf.out.symm
    have hR : R = (sgn neg (valD D), sgn down (valD E) - (f : Int), (q3 : Int), 0) := by rw [← HZ.out]; unfold numZ; rw [if_neg (by omega)]
    have hvv := Hv.out
    rw [if_pos h17] at hvv
    rw [← Hx.out rfl] at hR
    have hm : sgn neg (valD D) = sg * v := by
      rw [Hsg.out, ← hvv]
      unfold sgn
      cases neg
      · rw [if_neg (by decide), if_neg (by decide)]; omega
      · rw [if_pos rfl, if_pos rfl]; omega
    rw [hm] at hR
    have hsv : -100000000000000000 < sg * v ∧ sg * v < 100000000000000000 := by
      have : sg = -1 ∨ sg = 1 := by rw [Hsg.out]; cases neg <;> simp
      rcases this with h | h <;> rw [h] <;> omega
    subst hR
    clear HZ Hv Hok Hf Hx hm h17 h3 hvv Hsg hDd
    go_wp2_with (go_at_call 86; refine (hcall _).mono ?_; rintro e w' ⟨rfl, rfl⟩)
    refine bodyPost_ret (results_tmp4s rfl _ _ _) rfl ?_
    exact ⟨retN_eq (by first | rfl | (unfold wrap64; omega)) (by first | rfl | omega) rfl rfl, rfl⟩
  · have hR : R = (0, 0, (q3 : Int), 2) := by
      rw [← HZ.out]
      unfold numZ
      rw [if_pos]
      cases ok with
      | false => have := of_decide_eq_false Hok.out; omega
      | true =>
        cases fits with
        | true => exact absurd ⟨rfl, rfl⟩ hgood
        | false => have := of_decide_eq_false Hf.out.symm; omega
    subst hR
    have hcs : ok = false ∨ (ok = true ∧ fits = false) := by cases ok <;> cases fits <;> simp_all
    clear HZ Hv Hok Hf Hx Hsg hDd hgood
    rcases hcs with rfl | ⟨rfl, rfl⟩
    all_goals
      go_wp2_with (go_at_call 86; refine (hcall _).mono ?_; rintro e w' ⟨rfl, rfl⟩)
      refine bodyPost_ret (results_tmp4s rfl _ _ _) rfl ?_
      exact ⟨retN_eq rfl rfl rfl rfl, rfl⟩
end Go.Proofs.YtceijgaocjghcaaGreatDoor
