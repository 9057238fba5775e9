/- LessVal on names that have no trees below them (2): compareVals, LessVal. Written by gen/lessval2.py. -/
import Derived.Test.YtmnlkedacnemcaaGreatDoorTwLessVal
set_option linter.unusedVariables false
set_option maxRecDepth 100000
set_option linter.unusedSimpArgs false
namespace Go.Proofs.YtmnlkedacnemcaaGreatDoor
open Go.RowKit

set_option maxHeartbeats 4000000 in
theorem i_compareVals (a b : Tr) (ea eb : El) (w : World) (ha : NmOk a) (hna : ea.n = 0) (hnb : eb.n = 0) :
    Calls Tryz.prog 47 #[trV a ea, trV b eb] w fun r w' => r = .returned (.int .i64 (cmpV a b)) ∧ Below w.heap.size w w' := by
  obtain ⟨eA, en, ec, efp⟩ := ea
  obtain ⟨fA, fn, fc, ffp⟩ := eb
  simp only at hna hnb
  subst hna hnb
  by_cases hk : a.k = b.k
  · obtain ⟨dv, hdv⟩ : ∃ d, or2 (or2 (Lib.compareInt a.n b.n) (Lib.compareInt a.x b.x)) (Lib.compareBytes a.s.data.toList b.s.data.toList) = d := ⟨_, rfl⟩
    have hcm : cmpV a b = dv := by unfold cmpV; rw [if_pos hk]; exact hdv
    rw [hcm]
    have q1 : (a.k != b.k) = false := by simp [hk]
    have HDV := Lib.hid hdv
    clear hk hcm hdv
    have k2 := Below.two w (.cells (valCells a ⟨eA, 0, ec, efp⟩) 26) (.cells (valCells b ⟨fA, 0, fc, ffp⟩) 26)
    have B1 : Blk ((w.alloc (.cells (valCells a ⟨eA, 0, ec, efp⟩) 26)).alloc (.cells (valCells b ⟨fA, 0, fc, ffp⟩) 26)) w.heap.size 26 (valCells a ⟨eA, 0, ec, efp⟩) := (Blk.new w _ _).alloc _
    have B2 : Blk ((w.alloc (.cells (valCells a ⟨eA, 0, ec, efp⟩) 26)).alloc (.cells (valCells b ⟨fA, 0, fc, ffp⟩) 26)) (w.heap.size + 1) 26 (valCells b ⟨fA, 0, fc, ffp⟩) := by
      simpa using Blk.new (w.alloc (.cells (valCells a ⟨eA, 0, ec, efp⟩) 26)) 26 (valCells b ⟨fA, 0, fc, ffp⟩)
    go_enter Tryz.func47, Tryz.ntmps47
    go_upto_region 1 with fail
    refine gen_world (fun w' => (BoxV w' w.heap.size a ⟨eA, 0, ec, efp⟩ ∧ BoxV w' (w.heap.size + 1) b ⟨fA, 0, fc, ffp⟩) ∧ Below w.heap.size w w') ⟨⟨B1.boxV, B2.boxV⟩, k2⟩ (fun wg hg => ?_)
    clear B1 B2 k2
    obtain ⟨⟨⟨p0, p1, p2, p3, p4⟩, r0, r1, r2, r3, r4⟩, kg⟩ := hg
    go_upto_region 3 with fail
    have hg : (BoxV wg w.heap.size a ⟨eA, 0, ec, efp⟩ ∧ BoxV wg (w.heap.size + 1) b ⟨fA, 0, fc, ffp⟩) ∧ Below w.heap.size w wg := ⟨⟨⟨p0, p1, p2, p3, p4⟩, r0, r1, r2, r3, r4⟩, kg⟩
    clear p0 p1 p2 p3 p4 r0 r1 r2 r3 r4 kg
    have hS2 := fun (w' w'' : World) (h : (BoxV w' w.heap.size a ⟨eA, 0, ec, efp⟩ ∧ BoxV w' (w.heap.size + 1) b ⟨fA, 0, fc, ffp⟩) ∧ Below w.heap.size w w') (hb : Below w'.heap.size w' w'') => (show (BoxV w'' w.heap.size a ⟨eA, 0, ec, efp⟩ ∧ BoxV w'' (w.heap.size + 1) b ⟨fA, 0, fc, ffp⟩) ∧ Below w.heap.size w w'' from ⟨⟨boxV_bel h.1.1 hb, boxV_bel h.1.2 hb⟩, h.2.up hb⟩)
    refine wp_region_noPanic ?_
    refine wp_region_held_drew (S := fun w' => (BoxV w' w.heap.size a ⟨eA, 0, ec, efp⟩ ∧ BoxV w' (w.heap.size + 1) b ⟨fA, 0, fc, ffp⟩) ∧ Below w.heap.size w w') (by kernel_rfl) (hS2 _ _ hg (Below.refl _ _).drew) (fun hHeld => ?_)
    generalize wg.drew = wv at hHeld ⊢
    clear hg
    refine wpAnyH_take (i := 0) (oi := ?oi0x1) (v := ?vv0x1) ?hi0x1 (by kernel_rfl) (by kernel_rfl) (by kernel_rfl) ?hQ0x1 (Or.inl ⟨?hw0x1, ?hy0x1⟩) hHeld ?rest0x1
    case hi0x1 => (simp only [List.getElem?_toArray, List.getElem?_cons_succ, List.getElem?_cons_zero]; exact rfl)
    case hQ0x1 => exact fun _ _ _ h => h
    case hw0x1 => rfl
    case hy0x1 => ((intro w hSw; (try dsimp only at hSw); go_simp) <;> (with_reducible rfl))
    try simp only [Act.put, List.setIfInBounds_toArray, List.set_cons_zero, List.set_cons_succ]
    refine wpAnyH_take (i := 1) (oi := ?oi1x2) (v := ?vv1x2) ?hi1x2 (by kernel_rfl) (by kernel_rfl) (by kernel_rfl) ?hQ1x2 (Or.inl ⟨?hw1x2, ?hy1x2⟩) hHeld ?rest1x2
    case hi1x2 => (simp only [List.getElem?_toArray, List.getElem?_cons_succ, List.getElem?_cons_zero]; exact rfl)
    case hQ1x2 => exact fun _ _ _ h => h
    case hw1x2 => rfl
    case hy1x2 => ((intro w hSw; (try dsimp only at hSw); go_simp) <;> (with_reducible rfl))
    try simp only [Act.put, List.setIfInBounds_toArray, List.set_cons_zero, List.set_cons_succ]
    refine wpAnyH_take (i := 3) (oi := ?oi3x3) (v := ?vv3x3) ?hi3x3 (by kernel_rfl) (by kernel_rfl) (by kernel_rfl) ?hQ3x3 (Or.inl ⟨?hw3x3, ?hy3x3⟩) hHeld ?rest3x3
    case hi3x3 => (simp only [List.getElem?_toArray, List.getElem?_cons_succ, List.getElem?_cons_zero]; exact rfl)
    case hQ3x3 => exact fun _ _ _ h => h
    case hw3x3 => rfl
    case hy3x3 => ((intro w hSw; (try dsimp only at hSw); go_simp) <;> (with_reducible rfl))
    try simp only [Act.put, List.setIfInBounds_toArray, List.set_cons_zero, List.set_cons_succ]
    refine wpAnyH_take (i := 4) (oi := ?oi4x4) (v := ?vv4x4) ?hi4x4 (by kernel_rfl) (by kernel_rfl) (by kernel_rfl) ?hQ4x4 (Or.inl ⟨?hw4x4, ?hy4x4⟩) hHeld ?rest4x4
    case hi4x4 => (simp only [List.getElem?_toArray, List.getElem?_cons_succ, List.getElem?_cons_zero]; exact rfl)
    case hQ4x4 => exact fun _ _ _ h => h
    case hw4x4 => rfl
    case hy4x4 => ((intro w hSw; (try dsimp only at hSw); go_simp) <;> (with_reducible rfl))
    try simp only [Act.put, List.setIfInBounds_toArray, List.set_cons_zero, List.set_cons_succ]
    refine wpAnyH_take (i := 5) (oi := ?oi5x5) (v := ?vv5x5) ?hi5x5 (by kernel_rfl) (by kernel_rfl) (by kernel_rfl) ?hQ5x5 (Or.inl ⟨?hw5x5, ?hy5x5⟩) hHeld ?rest5x5
    case hi5x5 => (simp only [List.getElem?_toArray, List.getElem?_cons_succ, List.getElem?_cons_zero]; exact rfl)
    case hQ5x5 => exact fun _ _ _ h => h
    case hw5x5 => rfl
    case hy5x5 => ((intro w hSw; (try dsimp only at hSw); go_simp) <;> (with_reducible rfl))
    try simp only [Act.put, List.setIfInBounds_toArray, List.set_cons_zero, List.set_cons_succ]
    refine wpAnyH_take (i := 6) (oi := ?oi6x6) (v := ?vv6x6) ?hi6x6 (by kernel_rfl) (by kernel_rfl) (by kernel_rfl) ?hQ6x6 (Or.inl ⟨?hw6x6, ?hy6x6⟩) hHeld ?rest6x6
    case hi6x6 => (simp only [List.getElem?_toArray, List.getElem?_cons_succ, List.getElem?_cons_zero]; exact rfl)
    case hQ6x6 => exact fun _ _ _ h => h
    case hw6x6 => rfl
    case hy6x6 => ((intro w hSw; (try dsimp only at hSw); go_simp) <;> (with_reducible rfl))
    try simp only [Act.put, List.setIfInBounds_toArray, List.set_cons_zero, List.set_cons_succ]
    refine wpAnyH_ready (rs := [2]) (by kernel_rfl) (by simp) ?_
    refine AllReadyH.cons (o := ?o2y11) ?ho2y11 (fun KK hKK => ?st2y11) (AllReadyH.nil)
    case ho2y11 => (simp only [List.getElem?_toArray, List.getElem?_cons_succ, List.getElem?_cons_zero]; exact rfl)
    rw [if_pos (by rfl)]
    go_simp
    go_at_call 69
    refine (i_compareNumbers a b ⟨eA, 0, ec, efp⟩ ⟨fA, 0, fc, ffp⟩ _ ha.2).mono ?_; rintro r wa ⟨rfl, hba⟩
    have hz2 := hS2 _ _ hHeld hba
    refine hKK.out _ _ hz2 (fun hHeld => ?_)
    clear hKK KK
    try simp only [Act.put, List.setIfInBounds_toArray, List.set_cons_zero, List.set_cons_succ]
    refine wpAnyH_ready (rs := [7]) (by kernel_rfl) (by simp) ?_
    refine AllReadyH.cons (o := ?o7y10) ?ho7y10 (fun KK hKK => ?st7y10) (AllReadyH.nil)
    case ho7y10 => (simp only [List.getElem?_toArray, List.getElem?_cons_succ, List.getElem?_cons_zero]; exact rfl)
    rw [if_pos (by rfl)]
    go_simp
    go_at_call 70
    refine (Tryz.strings_Compare _ _ _).mono ?_; rintro r wb ⟨rfl, rfl⟩
    refine hKK.out _ _ hHeld (fun hHeld => ?_)
    clear hKK KK
    try simp only [Act.put, List.setIfInBounds_toArray, List.set_cons_zero, List.set_cons_succ]
    refine wpAnyH_ready (rs := [8]) (by kernel_rfl) (by simp) ?_
    refine AllReadyH.cons (o := ?o8y9) ?ho8y9 (fun KK hKK => ?st8y9) (AllReadyH.nil)
    case ho8y9 => (simp only [List.getElem?_toArray, List.getElem?_cons_succ, List.getElem?_cons_zero]; exact rfl)
    refine step_bI2 (p := or2 (Lib.compareInt a.n b.n) (Lib.compareInt a.x b.x)) (q := Lib.compareBytes a.s.data.toList b.s.data.toList) (by simp only [List.getElem?_toArray, List.getElem?_cons_succ, List.getElem?_cons_zero, Option.getD_some]) (by simp only [List.getElem?_toArray, List.getElem?_cons_succ, List.getElem?_cons_zero, Option.getD_some]) ?_
    have hz := hS2 _ _ hHeld (Below.one _ (.cells #[.int .i64 (or2 (Lib.compareInt a.n b.n) (Lib.compareInt a.x b.x)), .int .i64 (Lib.compareBytes a.s.data.toList b.s.data.toList)] 3))
    refine hKK.out _ _ hz (fun hHeld => ?_)
    clear hKK KK
    try simp only [Act.put, List.setIfInBounds_toArray, List.set_cons_zero, List.set_cons_succ]
    refine wpAnyH_ready (rs := [9]) (by kernel_rfl) (by simp) ?_
    refine AllReadyH.cons (o := ?o9y8) ?ho9y8 (fun KK hKK => ?st9y8) (AllReadyH.nil)
    case ho9y8 => (simp only [List.getElem?_toArray, List.getElem?_cons_succ, List.getElem?_cons_zero]; exact rfl)
    rw [if_pos (by rfl)]
    go_simp
    go_at_call 68
    refine (g_Or2 _ _ _ _ _ (Blk.new _ _ _)).mono ?_; rintro r wb ⟨rfl, rfl⟩
    refine hKK.out _ _ hHeld (fun hHeld => ?_)
    clear hKK KK
    try simp only [Act.put, List.setIfInBounds_toArray, List.set_cons_zero, List.set_cons_succ]
    refine wpAnyH_take (i := 10) (oi := ?oi10x7) (v := ?vv10x7) ?hi10x7 (by kernel_rfl) (by kernel_rfl) (by kernel_rfl) ?hQ10x7 (Or.inl ⟨?hw10x7, ?hy10x7⟩) hHeld ?rest10x7
    case hi10x7 => (simp only [List.getElem?_toArray, List.getElem?_cons_succ, List.getElem?_cons_zero]; exact rfl)
    case hQ10x7 => exact fun _ _ _ h => h
    case hw10x7 => rfl
    case hy10x7 => ((intro w hSw; (try dsimp only at hSw); go_simp) <;> (with_reducible rfl))
    try simp only [Act.put, List.setIfInBounds_toArray, List.set_cons_zero, List.set_cons_succ]
    refine wpAnyH_done (by kernel_rfl) ?_ _
    refine NoPanic.normal ?_
    refine gen_then (fun w' => (BoxV w' w.heap.size a ⟨eA, 0, ec, efp⟩ ∧ BoxV w' (w.heap.size + 1) b ⟨fA, 0, fc, ffp⟩) ∧ Below w.heap.size w w') hHeld (fun wg hg => ?_)
    clear hHeld hS2
    obtain ⟨⟨⟨p0, p1, p2, p3, p4⟩, r0, r1, r2, r3, r4⟩, kg⟩ := hg
    rw [HDV.out]
    clear HDV
    by_cases hz : dv = 0
    · have q2 : (dv != 0) = false := by simp [hz]
      have HZ := Lib.hid hz
      clear hz
      go_wp2_with (go_at_call 71; refine (g_CompareFunc0 _ _ _ _ _ _).mono ?_; rintro r wc ⟨rfl, rfl⟩)
      go_ret
      exact ⟨ret_int HZ.out.symm, kg⟩
    · have q2 : (dv != 0) = true := by simpa using hz
      go_wp2_with fail
      go_ret
      exact ⟨rfl, kg⟩
  · have q1 : (a.k != b.k) = true := by simpa using hk
    have hcm : cmpV a b = Lib.compareInt a.k b.k := by unfold cmpV; rw [if_neg hk]
    rw [hcm]
    clear hk hcm
    have k2 := Below.two w (.cells (valCells a ⟨eA, 0, ec, efp⟩) 26) (.cells (valCells b ⟨fA, 0, fc, ffp⟩) 26)
    go_enter Tryz.func47, Tryz.ntmps47
    go_wp2_with (go_at_call 67; refine (Tryz.cmp_Compare_int _ _ _).mono ?_; rintro r wa ⟨rfl, rfl⟩)
    go_ret
    exact ⟨rfl, k2⟩
set_option maxHeartbeats 2000000 in
theorem i_LessVal (a b : Tr) (ea eb : El) (w : World) (hwa : NmOk a) (hwb : NmOk b) (hla : LsAt w a.l ea) (hlb : LsAt w b.l eb) (hea : ea.lt w.heap.size) (heb : eb.lt w.heap.size) (hma : a.sz ≤ 1048576) (hmb : b.sz ≤ 1048576) :
    Calls Tryz.prog 32 #[trV a ea, trV b eb] w fun r w' => r = .returned (.bool (lessV a b)) ∧ Below w.heap.size w w' := by
  have hna : ea.n = 0 := by rw [← hla.len, hwa.1]; rfl
  have hnb : eb.n = 0 := by rw [← hlb.len, hwb.1]; rfl
  have hC := fun w1 => i_compareVals a b ea eb w1 hwa hna hnb
  have hless := cmpV_less a b
  rw [← hless]
  generalize cmpV a b = dv at hC
  have k2 := Below.two w (.cells (valCells a ea) 26) (.cells (valCells b eb) 26)
  clear hless hla hlb hea heb hma hmb hwa hwb hna hnb
  go_enter Tryz.func32, Tryz.ntmps32
  go_wp2_with (go_at_call 47; refine (hC _).mono ?_; rintro r w1 ⟨rfl, hb1⟩)
  go_ret
  exact ⟨rfl, k2.up hb1⟩
end Go.Proofs.YtmnlkedacnemcaaGreatDoor
