/- WriteText: both sides; l11Write. Written by gen/writetexts.py. -/
import Derived.Test.YtgddnpglgakkdaaGreatDoorTo9WriteText
set_option linter.unusedVariables false
set_option maxRecDepth 100000
set_option linter.unusedSimpArgs false
namespace Go.Proofs.YtgddnpglgakkdaaGreatDoor
open Go.RowKit

noncomputable def writeTextL (t : Tr) : List UInt8 := if fitsText t = true then writeT t else []
theorem writeText_yes {t : Tr} (h : fitsText t = true) : writeTextL t = writeT t := by unfold writeTextL; rw [if_pos h]
theorem writeText_no {t : Tr} (h : fitsText t = false) : writeTextL t = [] := by unfold writeTextL; rw [h]; rfl
noncomputable def writeTextS (t : Tr) : ByteArray := ⟨(writeTextL t).toArray⟩
set_option maxHeartbeats 1000000 in
theorem i_WriteText (t : Tr) (e : El) (w : World) (hF : Fit t) (hl : LsAt w t.l e) (hel : e.lt w.heap.size) (hT : TabUP w) :
    Calls Tryz.prog 28 #[trV t e] w fun r w' => r = .returned (.string (writeTextS t)) ∧ Below w.heap.size w w' := by
  have kb := Below.one w (.cells (valCells t e) 33)
  have hB := Blk.new w 33 (valCells t e)
  have hv := i_FitsText t e _ hF (hl.below hel kb) (hel.mono kb.size) (hT.below kb)
  have hm := hF.2
  have hap := fun w2 (hb : Below w.heap.size w w2) => i_appendTree t w none 0 0 [] e w2 hF hT hb (BS.nil_ _ _) (hl.below hel hb) hel (by omega)
  unfold writeTextS
  cases hq : fitsText t with
  | false =>
    rw [writeText_no hq]
    rw [hq] at hv
    clear hap hq
    go_enter Tryz.func28, Tryz.ntmps28
    go_wp2_with (go_at_call 50; refine hv.mono ?_; rintro r w1 ⟨rfl, hb⟩)
    go_ret
    exact ⟨rfl, kb.up hb⟩
  | true =>
    rw [writeText_yes hq]
    rw [hq] at hv
    generalize writeT t = R at hap
    clear hq
    go_enter Tryz.func28, Tryz.ntmps28
    go_wp2_with (first
      | (go_at_call 50; refine hv.mono ?_; rintro r w1 ⟨rfl, hb⟩; obtain ⟨q0, q1, q2, q3, q4⟩ := (hB.below hb hB.lt).boxV)
      | (go_at_call 51; refine (hap _ (kb.up hb)).mono ?_; rintro r w2 ⟨A', n', c', rfl, h2, hg2⟩; rw [List.nil_append] at h2; have hcv := run_str_sl (P := Tryz.prog) 66 5 Tryz.underlying66 Tryz.underlying5 h2.sl 9 Tryz.underlying9))
    go_ret
    exact ⟨rfl, (kb.up hb).trans (hg2.below (BS.nil_ _ _) (kb.up hb).size)⟩
theorem fit_kinds {t : Tr} (h : fitTextB t = true) : t.k = 1 ∨ t.k = 2 ∨ t.k = 3 ∨ t.k = 6 ∨ t.k = 7 ∨ t.k = 9 ∨ t.k = 10 := by
  unfold fitTextB at h
  simp only [Bool.or_eq_true, Bool.and_eq_true, beq_iff_eq] at h
  omega
def WsSays (t : Tr) : Prop := Fit t → allT fitTextB t = true → ∀ (e : El) (w : World), LsAt w t.l e → e.lt w.heap.size → TabUP w →
  Calls Tryz.prog 49 #[trV t e] w fun r w' => r = .returned (.string ⟨(writeT t).toArray⟩) ∧ Below w.heap.size w w'
set_option maxHeartbeats 8000000 in
theorem s_l11Write (t : Tr) : WsSays t := by
  refine Tr.ind (P := WsSays) (fun t ih => ?_) t
  intro hF hA e w hl hel hT
  have hw := (Tr.wf_iff t).1 hF.1
  have hfk := fun u hu => @Fit.kid t u hF hu
  have hsz := t.sz_eq
  have hwt := writeT_eq t
  have hlen := hF.len
  have hs := hF.size
  have h2 := hF.2
  rw [allT_eq, Bool.and_eq_true, List.all_eq_true] at hA
  have hkinds := fit_kinds hA.1
  have hfa := hA.2
  obtain ⟨k, n, x, s, l⟩ := t
  obtain ⟨eA, en, ec, efp⟩ := e
  simp only at hl hw hfk hsz hwt ih hlen hs hkinds hfa h2
  have hen : l.length = en := hl.len
  rw [hen] at hlen
  obtain ⟨hk, hn, hx, _, hww⟩ := hw
  have HWT := Lib.hid hwt
  clear hwt hA hF
  rcases hkinds with rfl | rfl | rfl | rfl | rfl | rfl | rfl
  · have kb := Below.one w (.cells #[.int .i64 1, .int .i64 n, .int .i64 x, .string s, .slice eA en ec] 33)
    have hT1 := hT.below kb
    have e1 : leafL 1 n x s = [110, 117, 108, 108] := by rfl
    rw [if_neg (by decide), e1] at HWT
    clear e1 ih hfk hfa hww
    go_enter Tryz.func49, Tryz.ntmps49
    go_wp2_with fail
    go_ret
    exact ⟨ret_str (by rw [HWT.out]), kb⟩
  · have kb := Below.one w (.cells #[.int .i64 2, .int .i64 n, .int .i64 x, .string s, .slice eA en ec] 33)
    have hT1 := hT.below kb
    have e1 : leafL 2 n x s = boolL n := by rfl
    rw [if_neg (by decide), e1] at HWT
    clear e1 ih hfk hfa hww
    by_cases h1 : n = 1
    · have e2 : boolL n = [116, 114, 117, 101] := by unfold boolL; rw [if_pos h1]
      rw [e2] at HWT
      have q1 : (n == 1) = true := by simpa using h1
      clear e2
      go_enter Tryz.func49, Tryz.ntmps49
      go_wp2_with fail
      go_ret
      exact ⟨ret_str (by rw [HWT.out]), Below.one _ _⟩
    · have e2 : boolL n = [102, 97, 108, 115, 101] := by unfold boolL; rw [if_neg h1]
      rw [e2] at HWT
      have q1 : (n == 1) = false := by simpa using h1
      clear e2
      go_enter Tryz.func49, Tryz.ntmps49
      go_wp2_with fail
      go_ret
      exact ⟨ret_str (by rw [HWT.out]), kb⟩

  · have kb := Below.one w (.cells #[.int .i64 3, .int .i64 n, .int .i64 x, .string s, .slice eA en ec] 33)
    have hT1 := hT.below kb
    have e1 : leafL 3 n x s = numL n := by rfl
    rw [if_neg (by decide), e1] at HWT
    clear e1 ih hfk hfa hww
    have hc := fun w1 => s_NumText n w1 hn
    generalize numL n = R at hc HWT
    go_enter Tryz.func49, Tryz.ntmps49
    go_wp2_with (go_at_call 68; refine (hc _).mono ?_; rintro e w1 ⟨rfl, hb⟩)
    go_ret
    exact ⟨ret_str (by rw [HWT.out]), kb.up hb⟩
  · have kb := Below.one w (.cells #[.int .i64 6, .int .i64 n, .int .i64 x, .string s, .slice eA en ec] 33)
    have hT1 := hT.below kb
    have e1 : leafL 6 n x s = decTextL n x := by rfl
    rw [if_neg (by decide), e1] at HWT
    clear e1 ih hfk hfa hww
    have hc := fun w1 => s_DecText n x w1 hn hx
    generalize decTextL n x = R at hc HWT
    go_enter Tryz.func49, Tryz.ntmps49
    go_wp2_with (go_at_call 76; refine (hc _).mono ?_; rintro e w1 ⟨rfl, hb⟩)
    go_ret
    exact ⟨ret_str (by rw [HWT.out]), kb.up hb⟩
  · have kb := Below.one w (.cells #[.int .i64 7, .int .i64 n, .int .i64 x, .string s, .slice eA en ec] 33)
    have hT1 := hT.below kb
    have e1 : leafL 7 n x s = quoteL s.data.toList := by rfl
    rw [if_neg (by decide), e1] at HWT
    clear e1 ih hfk hfa hww
    have hc := fun w1 => s_Quote s w1 (by omega)
    generalize quoteL s.data.toList = R at hc HWT
    go_enter Tryz.func49, Tryz.ntmps49
    go_wp2_with (go_at_call 67; refine (hc _).mono ?_; rintro e w1 ⟨rfl, hb⟩)
    go_ret
    exact ⟨ret_str (by rw [HWT.out]), kb.up hb⟩
  · have k1 := Below.one w (.cells #[.int .i64 9, .int .i64 n, .int .i64 x, .string s, .slice eA en ec] 33)
    have hB := Blk.new w 33 #[.int .i64 9, .int .i64 n, .int .i64 x, .string s, .slice eA en ec]
    have ho : openW 9 = [91] := rfl
    have hsh : shutW 9 = [93] := rfl
    rw [if_pos (by decide), ho, hsh] at HWT
    clear ho hsh
    go_enter Tryz.func49, Tryz.ntmps49
    go_wp2_with fail
    go_loopg [3, 4, 49, 52] en (fun f v3 v4 v49 v52 wr => ∃ (j : Nat) (b : List UInt8), j + f = en ∧ v3 = .string ⟨b.toArray⟩ ∧ v4 = .int .i64 j ∧ Hid (b = writes 9 l j) ∧ b.length ≤ 80 * (j + szT l j) ∧ Blk wr w.heap.size 33 #[.int .i64 9, .int .i64 n, .int .i64 x, .string s, .slice eA en ec] ∧ Below w.heap.size w wr)
    case atStart => exact ⟨0, [], by omega, rfl, rfl, Lib.hid rfl, by simp, hB, k1⟩
    case round =>
      obtain ⟨j, b, hjf, rfl, rfl, hHb, hbl, hBr, hb⟩ := hrel
      clear hB k1
      have hz : w.heap.size < wr.heap.size := hBr.lt
      have p0 := hBr.cell 0
      have p4 := hBr.cell 4
      by_cases hlt : j < en
      · obtain ⟨f, rfl⟩ : ∃ f, gk = f + 1 := ⟨gk - 1, by omega⟩
        obtain ⟨g, o, u, hj, hAe, hgm, ⟨c0, c1, c2, c3, c4⟩, hch, hsub⟩ := (hl.below hel hb).elem hlt
        have hAe : eA = some ⟨g, o, none⟩ := hAe
        subst hAe
        have hul : u.lt wr.heap.size := fun y hy => Nat.lt_of_lt_of_le (hel y (hsub y hy)) hb.size
        have hih := ih l[j] (List.getElem_mem hj) (hfk _ (List.getElem_mem hj)) (hfa _ (List.getElem_mem hj)) u wr hch hul (hT.below hb)
        have hz1 := szT_succ hj
        have hz2 := szT_le l (j + 1)
        have hwl := writeT_len l[j] (hww _ (List.getElem_mem hj))
        have hws := writes_succ (k := 9) hj
        have HWS := Lib.hid hws
        clear ih hws hch hfk hfa hww
        by_cases hj0 : j = 0
        · subst hj0
          simp only [Nat.zero_mul, Nat.add_zero] at c0 c1 c2 c3 c4
          have hse : sepW 9 0 = [] := by unfold sepW; rw [if_pos rfl]
          have HSE := Lib.hid hse
          clear hse
          go_wp2_with (go_at_call 49; refine hih.mono ?_; rintro r w2 ⟨rfl, hb2⟩)
          go_roundg f
          case measure => omega
          case rel => exact ⟨0 + 1, b ++ ([] ++ writeT l[0]), by omega, by rw [← ba_add]; rfl, by go_num, Lib.hid (by rw [HWS.out, HSE.out, hHb.out]), by simp only [List.length_append, List.length_cons, List.length_nil]; omega, hBr.below hb2 hz, hb.up hb2⟩
        · have q0 : ((j : Int) == 0) = false := by simp; omega
          have hse : sepW 9 j = [44] := by unfold sepW; rw [if_neg (by omega)]; rw [if_neg (by omega)]
          have HSE := Lib.hid hse
          clear hse
          go_wp2_with (go_at_call 49; refine hih.mono ?_; rintro r w2 ⟨rfl, hb2⟩)
          go_roundg f
          case measure => omega
          case rel => exact ⟨j + 1, b ++ ([44] ++ writeT l[j]), by omega, by rw [← List.append_assoc, ← ba_add, ← ba_add], by go_num, Lib.hid (by rw [HWS.out, HSE.out, hHb.out]), by simp only [List.length_append, List.length_cons, List.length_nil]; omega, hBr.below hb2 hz, hb.up hb2⟩
      · have hjn : ¬ ((j : Int) < (en : Int)) := by omega
        have hwa := writes_all (k := 9) (l := l) (j := j) (by omega)
        have HWA := Lib.hid hwa
        have hzj := szT_le l j
        clear hwa ih hfk hfa hww
        go_wp2_with fail
        go_ret
        exact ⟨ret_str (by rw [HWT.out, ← HWA.out, ← hHb.out, ← ba_add, ← ba_add, ← ba_assoc]), hb⟩
  · have k1 := Below.one w (.cells #[.int .i64 10, .int .i64 n, .int .i64 x, .string s, .slice eA en ec] 33)
    have hB := Blk.new w 33 #[.int .i64 10, .int .i64 n, .int .i64 x, .string s, .slice eA en ec]
    have ho : openW 10 = [123] := rfl
    have hsh : shutW 10 = [125] := rfl
    rw [if_pos (by decide), ho, hsh] at HWT
    clear ho hsh
    go_enter Tryz.func49, Tryz.ntmps49
    go_wp2_with fail
    go_loopg [3, 4, 49, 52] en (fun f v3 v4 v49 v52 wr => ∃ (j : Nat) (b : List UInt8), j + f = en ∧ v3 = .string ⟨b.toArray⟩ ∧ v4 = .int .i64 j ∧ Hid (b = writes 10 l j) ∧ b.length ≤ 80 * (j + szT l j) ∧ Blk wr w.heap.size 33 #[.int .i64 10, .int .i64 n, .int .i64 x, .string s, .slice eA en ec] ∧ Below w.heap.size w wr)
    case atStart => exact ⟨0, [], by omega, rfl, rfl, Lib.hid rfl, by simp, hB, k1⟩
    case round =>
      obtain ⟨j, b, hjf, rfl, rfl, hHb, hbl, hBr, hb⟩ := hrel
      clear hB k1
      have hz : w.heap.size < wr.heap.size := hBr.lt
      have p0 := hBr.cell 0
      have p4 := hBr.cell 4
      by_cases hlt : j < en
      · obtain ⟨f, rfl⟩ : ∃ f, gk = f + 1 := ⟨gk - 1, by omega⟩
        obtain ⟨g, o, u, hj, hAe, hgm, ⟨c0, c1, c2, c3, c4⟩, hch, hsub⟩ := (hl.below hel hb).elem hlt
        have hAe : eA = some ⟨g, o, none⟩ := hAe
        subst hAe
        have hul : u.lt wr.heap.size := fun y hy => Nat.lt_of_lt_of_le (hel y (hsub y hy)) hb.size
        have hih := ih l[j] (List.getElem_mem hj) (hfk _ (List.getElem_mem hj)) (hfa _ (List.getElem_mem hj)) u wr hch hul (hT.below hb)
        have hz1 := szT_succ hj
        have hz2 := szT_le l (j + 1)
        have hwl := writeT_len l[j] (hww _ (List.getElem_mem hj))
        have hws := writes_succ (k := 10) hj
        have HWS := Lib.hid hws
        clear ih hws hch hfk hfa hww
        by_cases hj0 : j = 0
        · subst hj0
          simp only [Nat.zero_mul, Nat.add_zero] at c0 c1 c2 c3 c4
          have hse : sepW 10 0 = [] := by unfold sepW; rw [if_pos rfl]
          have HSE := Lib.hid hse
          clear hse
          go_wp2_with (go_at_call 49; refine hih.mono ?_; rintro r w2 ⟨rfl, hb2⟩)
          go_roundg f
          case measure => omega
          case rel => exact ⟨0 + 1, b ++ ([] ++ writeT l[0]), by omega, by rw [← ba_add]; rfl, by go_num, Lib.hid (by rw [HWS.out, HSE.out, hHb.out]), by simp only [List.length_append, List.length_cons, List.length_nil]; omega, hBr.below hb2 hz, hb.up hb2⟩
        by_cases hodd : j % 2 = 1
        · have q0 : ((j : Int) == 0) = false := by simp; omega
          have hm2 : (j : Int) % 2 = 1 := by omega
          have hse : sepW 10 j = [58] := by unfold sepW; rw [if_neg (by omega)]; rw [if_pos ⟨rfl, by omega⟩]
          have HSE := Lib.hid hse
          clear hse
          go_wp2_with (go_at_call 49; refine hih.mono ?_; rintro r w2 ⟨rfl, hb2⟩)
          go_roundg f
          case measure => omega
          case rel => exact ⟨j + 1, b ++ ([58] ++ writeT l[j]), by omega, by rw [← List.append_assoc, ← ba_add, ← ba_add], by go_num, Lib.hid (by rw [HWS.out, HSE.out, hHb.out]), by simp only [List.length_append, List.length_cons, List.length_nil]; omega, hBr.below hb2 hz, hb.up hb2⟩
        · have q0 : ((j : Int) == 0) = false := by simp; omega
          have hm2 : (j : Int) % 2 = 0 := by omega
          have hse : sepW 10 j = [44] := by unfold sepW; rw [if_neg (by omega)]; rw [if_neg (by omega)]
          have HSE := Lib.hid hse
          clear hse
          go_wp2_with (go_at_call 49; refine hih.mono ?_; rintro r w2 ⟨rfl, hb2⟩)
          go_roundg f
          case measure => omega
          case rel => exact ⟨j + 1, b ++ ([44] ++ writeT l[j]), by omega, by rw [← List.append_assoc, ← ba_add, ← ba_add], by go_num, Lib.hid (by rw [HWS.out, HSE.out, hHb.out]), by simp only [List.length_append, List.length_cons, List.length_nil]; omega, hBr.below hb2 hz, hb.up hb2⟩
      · have hjn : ¬ ((j : Int) < (en : Int)) := by omega
        have hwa := writes_all (k := 10) (l := l) (j := j) (by omega)
        have HWA := Lib.hid hwa
        have hzj := szT_le l j
        clear hwa ih hfk hfa hww
        go_wp2_with fail
        go_ret
        exact ⟨ret_str (by rw [HWT.out, ← HWA.out, ← hHb.out, ← ba_add, ← ba_add, ← ba_assoc]), hb⟩
theorem s_WriteText (t : Tr) (e : El) (w : World) (hF : Fit t) (hl : LsAt w t.l e) (hel : e.lt w.heap.size) (hT : TabUP w) :
    Calls Tryz.prog 26 #[trV t e] w fun r w' => r = .returned (.string (writeTextS t)) ∧ Below w.heap.size w w' := by
  have kb := Below.one w (.cells (valCells t e) 33)
  have hB := Blk.new w 33 (valCells t e)
  have hv := s_FitsText t e _ hF (hl.below hel kb) (hel.mono kb.size) (hT.below kb)
  unfold writeTextS
  cases hq : fitsText t with
  | false =>
    rw [writeText_no hq]
    rw [hq] at hv
    clear hq
    go_enter Tryz.func26, Tryz.ntmps26
    go_wp2_with (go_at_call 48; refine hv.mono ?_; rintro r w1 ⟨rfl, hb⟩)
    go_ret
    exact ⟨rfl, kb.up hb⟩
  | true =>
    have hall : allT fitTextB t = true := by unfold fitsText at hq; rw [Bool.and_eq_true] at hq; exact hq.2
    have hlw := fun w2 (hb : Below w.heap.size w w2) => s_l11Write t hF hall e w2 (hl.below hel hb) (hel.mono hb.size) (hT.below hb)
    rw [writeText_yes hq]
    rw [hq] at hv
    generalize writeT t = R at hlw
    clear hq
    go_enter Tryz.func26, Tryz.ntmps26
    go_wp2_with (first
      | (go_at_call 48; refine hv.mono ?_; rintro r w1 ⟨rfl, hb⟩; obtain ⟨q0, q1, q2, q3, q4⟩ := (hB.below hb hB.lt).boxV)
      | (go_at_call 49; refine (hlw _ (kb.up hb)).mono ?_; rintro r w2 ⟨rfl, hb2⟩))
    go_ret
    exact ⟨rfl, (kb.up hb).up hb2⟩
end Go.Proofs.YtgddnpglgakkdaaGreatDoor
