/- Texts drawn are texts. Written by gen/tokdraws.py. Decimal numbers and leaves drawn. Written by gen/markdraws.py. -/
import Derived.Test.YtpafgmlkbbbmhaaDoorPqM27
import Derived.Test.YtpafgmlkbbbmhaaDoorPqQuotePlain
import Derived.Deep.LoopGhost
import Derived.Test.YtpafgmlkbbbmhaaDoorPqM26
import Derived.Deep.RegionHeld3
set_option linter.unusedVariables false
set_option maxRecDepth 100000
set_option linter.unusedSimpArgs false
namespace Go.Proofs.YtpafgmlkbbbmhaaDoor
open Go.RowKit

theorem s_l2RuneV (B g n c : Nat) (A : Option Addr) (b : List UInt8) (w : World) (h : Cur w B g A n c b) :
    Calls Tryd.prog 67 #[.pointer (some ⟨g, 0, none⟩)] w fun r w' => ∃ x : Int, r = .returned (.int .i64 x) ∧ runeOk x = true ∧ Cur w' B g A n c b ∧ Fr [g] w w' := by
  go_enter Tryd.func67, Tryd.ntmps67
  go_wp2_with fail
  refine (s_l1Int _ _ n c A b (some ⟨w.heap.size, 0, none⟩) 18 18 [0, 97, 98, 34, 92, 10, 127, 128, 233, 2047, 2048, 8364, 55295, 57344, 65535, 65536, 128512, 1114111] _ (h.below (Below.one _ _)) (by exact i64s_lit _ _ [0, 97, 98, 34, 92, 10, 127, 128, 233, 2047, 2048, 8364, 55295, 57344, 65535, 65536, 128512, 1114111] _ rfl (by exact Nat.le_of_ble_eq_true rfl)) (lit_ne h.lt) (by decide)).mono ?_; rintro r w2 ⟨x, rfl, hx, hC2, hf2⟩
  go_wp2_with fail
  go_ret
  have hro : ∀ x ∈ ([0, 97, 98, 34, 92, 10, 127, 128, 233, 2047, 2048, 8364, 55295, 57344, 65535, 65536, 128512, 1114111] : List Int), runeOk x = true := by decide
  exact ⟨x, rfl, hro x hx, hC2, (Fr.of_below (Below.one _ _)).trans hf2⟩
set_option maxHeartbeats 2000000 in
theorem s_l2TextV (B g n c : Nat) (A : Option Addr) (b : List UInt8) (w : World) (h : Cur w B g A n c b) :
    Calls Tryd.prog 57 #[.pointer (some ⟨g, 0, none⟩)] w fun r w' => ∃ s : ByteArray, r = .returned (.string s) ∧ s.size ≤ 100 ∧ Lib.validD s.data.toList = true ∧ Cur w' B g A n c b ∧ Fr [g] w w' := by
  have hgw := h.lt
  go_enter Tryd.func57, Tryd.ntmps57
  go_wp2_with fail
  refine (s_l1Once B g n c A b 2 _ h (by decide)).mono ?_; rintro r w1 ⟨x1, rfl, hC1, hf1⟩
  cases x1 with
  | true =>
    go_wp2_with fail
    refine (s_l1Str _ _ n c A b (some ⟨w1.heap.size, 0, none⟩) 9 9 [⟨#[]⟩, ⟨#[97]⟩, ⟨#[98]⟩, ⟨#[107, 101, 121]⟩, ⟨#[120, 32, 121]⟩, ⟨#[49]⟩, ⟨#[195, 169]⟩, ⟨#[34]⟩, ⟨#[92]⟩] _ (hC1.below (Below.one _ _)) (by exact strs_lit _ 0 [⟨#[]⟩, ⟨#[97]⟩, ⟨#[98]⟩, ⟨#[107, 101, 121]⟩, ⟨#[120, 32, 121]⟩, ⟨#[49]⟩, ⟨#[195, 169]⟩, ⟨#[34]⟩, ⟨#[92]⟩] _ rfl (by exact Nat.le_of_ble_eq_true rfl)) (lit_ne hC1.lt) (by decide)).mono ?_; rintro r w2 ⟨s, rfl, hs, hC2, hf2⟩
    go_wp2_with fail
    go_ret
    have hsd : s.size ≤ 100 := by
      simp only [List.mem_cons, List.mem_nil_iff, or_false] at hs
      rcases hs with rfl | rfl | rfl | rfl | rfl | rfl | rfl | rfl | rfl <;> decide
    have hsv : Lib.validD s.data.toList = true := by
      simp only [List.mem_cons, List.mem_nil_iff, or_false] at hs
      rcases hs with rfl | rfl | rfl | rfl | rfl | rfl | rfl | rfl | rfl
      · exact (encAll_text [] (by decide)).1
      · exact (encAll_text [97] (by decide)).1
      · exact (encAll_text [98] (by decide)).1
      · exact (encAll_text [107, 101, 121] (by decide)).1
      · exact (encAll_text [120, 32, 121] (by decide)).1
      · exact (encAll_text [49] (by decide)).1
      · exact (encAll_text [233] (by decide)).1
      · exact (encAll_text [34] (by decide)).1
      · exact (encAll_text [92] (by decide)).1
    exact ⟨s, rfl, hsd, hsv, hC2, (hf1.trans (Fr.of_below (Below.one _ _))).trans hf2⟩
  | false =>
    have hE : IS (w1.alloc (.cells #[] 3)) w.heap.size (some ⟨w1.heap.size, 0, none⟩) 0 0 [] := own_mono (World.ownsRow_lit w1 #[] 0 (Nat.le_refl _) (by decide) rfl) hf1.size
    have hfE := hf1.trans (Fr.of_below (Below.one w1 (.cells #[] 3)))
    go_wp2_with fail
    refine (s_l1Below B g n c A b 4 _ (hC1.below (Below.one _ _)) (by decide)).mono ?_; rintro r w2 ⟨x, rfl, hx, hC2, hf2⟩
    obtain ⟨hx0, hx1⟩ := hx.2 (by decide)
    obtain ⟨i0, rfl⟩ := Int.eq_ofNat_of_zero_le hx0
    have hI2 := hE.fr hf2 (fun y hy => by have := (row_ltI hE hy).1; simp; omega)
    have hF2 := hfE.trans hf2
    clear hE hfE hf2 hC1 hf1
    go_wp2_with fail
    go_loopg [3, 4] i0 (fun f v3 v4 wr => ∃ (k c' : Nat) (A' : Option Addr) (l : List Int), v4 = .int .i64 f ∧ v3 = .slice A' k c' ∧ k + f ≤ 3 ∧ IS wr w.heap.size A' k c' l ∧ w.heap.size ≤ wr.heap.size ∧ Cur wr B g A n c b ∧ Fr [g] w wr ∧ ∀ x ∈ l, runeOk x = true)
    case atStart => exact ⟨0, 0, _, [], rfl, rfl, by omega, hI2, hF2.size, hC2, hF2, fun x hx => by (cases hx)⟩
    case round =>
      obtain ⟨k, c', A', l, rfl, rfl, hk, hI, hz, hC, hF, hro⟩ := hrel
      clear hI2 hF2 hC2
      cases gk with
      | zero =>
        have hfr := s_FromRunes A' k c' l wr wr.heap.size hI.sl (Nat.le_refl _) (by omega)
        have hll := encAll_len l
        have hlk := hI.len
        go_wp2_with (go_at_call 68; refine hfr.mono ?_; rintro e w3 ⟨rfl, hb3⟩)
        go_ret
        exact ⟨_, rfl, by rw [ba_sz]; omega, by (have := (encAll_text l hro).1; simpa using this), hC.below hb3, hF.trans (Fr.of_below hb3)⟩
      | succ f =>
        have hpos : (0 : Int) < ((f + 1 : Nat) : Int) := by omega
        have hru := s_l2RuneV B g n c A b wr hC
        go_wp2_with (first
          | (go_at_call 67; refine hru.mono ?_; rintro e w3 ⟨z, rfl, hzr, hC3, hf3⟩; have hI3 := hI.fr hf3 (fun y hy => by have := (row_ltI hI hy).1; simp; omega); have hz3 : w.heap.size ≤ w3.heap.size := Nat.le_trans hz hf3.size)
          | (at_builtin; refine app_int rfl _ _ rfl (hI3.below (Below.one w3 _)) rfl (int1 w3 z) rfl (by omega) (by simp; omega) ?_; intro A6 c6 w6 h6 hg6))
        have kb6 : Below w.heap.size w3 w6 := ((Below.refl w.heap.size w3).alloc hz3 (.cells #[.int .i64 z] 3)).trans (hg6.fr.below (B := w.heap.size) (fun y hy => (row_ltI hI3 hy).1) (by simp; omega))
        have hC6 := hC3.low kb6 hgw
        have hF6 : Fr [g] w w6 := (hF.trans hf3).onBelow kb6
        go_roundg f
        case measure => omega
        case rel => exact ⟨k + 1, c6, A6, _, by go_num, rfl, by omega, h6, hF6.size, hC6, hF6, fun x hx => by (rcases List.mem_append.1 hx with hx | hx; exact hro x hx; rw [List.mem_singleton] at hx; rw [hx]; exact hzr)⟩
end Go.Proofs.YtpafgmlkbbbmhaaDoor

namespace Go.Proofs.YtpafgmlkbbbmhaaDoor
open Go.RowKit

set_option maxHeartbeats 1000000 in
theorem s_PowW (k : Int) (w : World) (hk : 0 ≤ k ∧ k ≤ 17) :
    Calls Tryd.prog 72 #[.int .i64 5, .int .i64 k] w fun r w' => ∃ p : Int, r = .returned (.int .i64 p) ∧ (-9223372036854775808 ≤ p ∧ p ≤ 9223372036854775807) ∧ w = w' := by
  have hin : inR k 0 17 = true := inR_yes hk.1 hk.2
  obtain ⟨m, rfl⟩ : ∃ m : Nat, k = m := ⟨k.toNat, by omega⟩
  go_enter Tryd.func72, Tryd.ntmps72
  go_wp2_with (go_at_call 44; refine (s_l1In _ _ _ _).mono ?_; rintro e w' ⟨rfl, rfl⟩)
  go_loopg [5, 6] m (fun f v5 v6 wr => ∃ (j : Nat) (p : Int), j + f = m ∧ v6 = .int .i64 j ∧ v5 = .int .i64 p ∧ (-9223372036854775808 ≤ p ∧ p ≤ 9223372036854775807) ∧ wr = w)
  case atStart => exact ⟨0, 1, by omega, rfl, rfl, by decide, rfl⟩
  case round =>
    obtain ⟨j, p, hjf, rfl, rfl, hp, rfl⟩ := hrel
    by_cases hj : j < m
    · obtain ⟨f, rfl⟩ : ∃ f, gk = f + 1 := ⟨gk - 1, by omega⟩
      have hji : (j : Int) < (m : Int) := by omega
      go_wp2_with fail
      go_roundg f
      case measure => omega
      case rel => exact ⟨j + 1, _, by omega, by go_num, rfl, by first | omega | exact wrap64_two _, rfl⟩
    · have hji : ¬ (j : Int) < (m : Int) := by omega
      go_wp2_with fail
      go_ret
      exact ⟨p, rfl, hp, rfl⟩
theorem decV_two (n x : Int) : ∃ a b ok, decV (decNew n x) = .tuple #[.agg #[.int .i64 a, .int .i64 b], .bool ok] ∧ (-9223372036854775808 ≤ a ∧ a ≤ 9223372036854775807) ∧ (-9223372036854775808 ≤ b ∧ b ≤ 9223372036854775807) := by
  cases h : decNew n x with
  | none => exact ⟨0, 0, false, rfl, by decide, by decide⟩
  | some p =>
    obtain ⟨a, b⟩ := p
    have := decNew_bd h
    exact ⟨a, b, true, rfl, by omega, by omega⟩
theorem wrapI_two (x : Int) : -9223372036854775808 ≤ IntKind.i64.wrap x ∧ IntKind.i64.wrap x ≤ 9223372036854775807 := by rw [IntKind.wrap_i64]; omega
theorem fltOk_e {m e : Int} (h : fltOk m e = true) : -16 ≤ e := by
  by_cases h0 : m = 0
  · subst h0; rw [fltOk_zero] at h; have := of_decide_eq_true h; omega
  · by_cases h1 : e < -16
    · rw [fltOk_low h0 h1] at h; cases h
    · omega
set_option maxHeartbeats 4000000 in
theorem s_FltDecW (m e : Int) (w : World) (he : e ≤ 9223372036854775807) :
    Calls Tryd.prog 64 #[.agg #[.int .i64 m, .int .i64 e]] w fun r w' => ∃ x y : Int, r = .returned (.agg #[.int .i64 x, .int .i64 y]) ∧ (-9223372036854775808 ≤ x ∧ x ≤ 9223372036854775807) ∧ (-9223372036854775808 ≤ y ∧ y ≤ 9223372036854775807) ∧ Below w.heap.size w w' := by
  have k2 := Below.two w (.cells #[.int .i64 m, .int .i64 e] 77) (.cells #[.int .i64 0, .int .i64 0] 81)
  have B1 := (Blk.new w 77 #[.int .i64 m, .int .i64 e]).alloc (.cells #[.int .i64 0, .int .i64 0] 81)
  have B2 := Blk.new (w.alloc (.cells #[.int .i64 m, .int .i64 e] 77)) 81 #[.int .i64 0, .int .i64 0]
  rw [World.size_alloc] at B2
  have hF := fun w1 => s_FltOk m e w1 he
  cases hok : fltOk m e with
  | false =>
    rw [hok] at hF
    clear hok
    go_enter Tryd.func64, Tryd.ntmps64
    go_upto_region 1 with fail
    generalize ((w.alloc (.cells #[.int .i64 m, .int .i64 e] 77)).alloc (.cells #[.int .i64 0, .int .i64 0] 81)) = w1 at k2 B1 B2 ⊢
    obtain ⟨p0, p1⟩ : w1.cell? ⟨w.heap.size, 0, none⟩ = some (.int .i64 m) ∧ w1.cell? ⟨w.heap.size, 1, none⟩ = some (.int .i64 e) := ⟨B1.cell 0, B1.cell 1⟩
    go_wp2_with (go_at_call 70; refine (hF _).mono ?_; rintro e' w2 ⟨rfl, hb2⟩; replace B1 := B1.below hb2 B1.lt; replace B2 := B2.below hb2 B2.lt; replace k2 := k2.up hb2; have q0 := B2.cell 0; have q1 := B2.cell 1; have f0 := B2.frozen 0; have f1 := B2.frozen 1)
    exact bodyPost_ret (results_blk Tryd.results64 Tryd.isAgg81 (by exact Tryd.sizeOf81) rfl (B2.two _ _)) rfl ⟨0, 0, rfl, by decide, by decide, ((k2.setCell (p := ⟨w.heap.size + 1, 0, none⟩) (by simp) _).setCell (p := ⟨w.heap.size + 1, 1, none⟩) (by simp) _)⟩
  | true =>
    rw [hok] at hF
    have hel := fltOk_e hok
    clear hok
    by_cases he0 : 0 ≤ e
    · go_enter Tryd.func64, Tryd.ntmps64
      go_upto_region 1 with fail
      generalize ((w.alloc (.cells #[.int .i64 m, .int .i64 e] 77)).alloc (.cells #[.int .i64 0, .int .i64 0] 81)) = w1 at k2 B1 B2 ⊢
      obtain ⟨p0, p1⟩ : w1.cell? ⟨w.heap.size, 0, none⟩ = some (.int .i64 m) ∧ w1.cell? ⟨w.heap.size, 1, none⟩ = some (.int .i64 e) := ⟨B1.cell 0, B1.cell 1⟩
      go_upto_region 4 with (go_at_call 70; refine (hF _).mono ?_; rintro e' w2 ⟨rfl, hb2⟩; replace B1 := B1.below hb2 B1.lt; replace B2 := B2.below hb2 B2.lt; replace k2 := k2.up hb2; have b0 := B1.cell 0; have b1 := B1.cell 1; have q0 := B2.cell 0; have q1 := B2.cell 1; have f0 := B2.frozen 0; have f1 := B2.frozen 1)
      clear p0 p1 hb2
      go_wp2_with fail
      exact bodyPost_ret (results_blk Tryd.results64 Tryd.isAgg81 (by exact Tryd.sizeOf81) rfl (B2.two _ _)) rfl ⟨_, 0, rfl, by first | exact wrap64_two _ | exact wrapI_two _, by decide, ((k2.setCell (p := ⟨w.heap.size + 1, 0, none⟩) (by simp) _).setCell (p := ⟨w.heap.size + 1, 1, none⟩) (by simp) _)⟩
    · have he1 : e < 0 := by omega
      clear he0
      go_enter Tryd.func64, Tryd.ntmps64
      go_upto_region 1 with fail
      generalize ((w.alloc (.cells #[.int .i64 m, .int .i64 e] 77)).alloc (.cells #[.int .i64 0, .int .i64 0] 81)) = w1 at k2 B1 B2 ⊢
      obtain ⟨p0, p1⟩ : w1.cell? ⟨w.heap.size, 0, none⟩ = some (.int .i64 m) ∧ w1.cell? ⟨w.heap.size, 1, none⟩ = some (.int .i64 e) := ⟨B1.cell 0, B1.cell 1⟩
      go_upto_region 5 with (go_at_call 70; refine (hF _).mono ?_; rintro e' w2 ⟨rfl, hb2⟩; replace B1 := B1.below hb2 B1.lt; replace B2 := B2.below hb2 B2.lt; replace k2 := k2.up hb2; have b0 := B1.cell 0; have b1 := B1.cell 1)
      clear p0 p1 hb2 hF
      have hS0 := fun (w' : World) (hb : Below w2.heap.size w2 w') => B1.box2 hb
      have hS2 := fun (w' w'' : World) (h : Box2 w2 w.heap.size (.int .i64 m) (.int .i64 e) w') (hb : Below w'.heap.size w' w'') => B1.box2 (h.2.up hb)
      have hN := fun (w3 : World) (h : Below (w2.drew.alloc (.cells #[.int .i64 0, .int .i64 0] 81)).heap.size (w2.drew.alloc (.cells #[.int .i64 0, .int .i64 0] 81)) w3) => (show Blk w3 w2.heap.size 81 #[.int .i64 0, .int .i64 0] from (Blk.new w2.drew 81 #[.int .i64 0, .int .i64 0]).below h (by simp))
      have hN2 := fun (w3 : World) (h : Below (w2.alloc (.cells #[.int .i64 0, .int .i64 0] 81)).drew.heap.size (w2.alloc (.cells #[.int .i64 0, .int .i64 0] 81)).drew w3) => (show Blk w3 w2.heap.size 81 #[.int .i64 0, .int .i64 0] from (Blk.new w2 81 #[.int .i64 0, .int .i64 0]).below (Below.of_drew h) (by simp))
      have hwe : IntKind.i64.wrap (-e) = -e := by rw [IntKind.wrap_i64]; omega
      have hP := fun w1 => s_PowW (-e) w1 (by omega)
      rw [← hwe] at hP
      clear hwe
      go_cut [18, 19, 20, 21, 22, 23, 24, 25, 26, 27, 28, 29, 30, 3, 4] from 0 to 1 (fun u18 u19 u20 u21 u22 u23 u24 u25 u26 u27 u28 u29 u30 u3 u4 wx => ∃ g3 x y, u3 = .pointer (some ⟨g3, 0, none⟩) ∧ Blk wx g3 81 #[.int .i64 x, .int .i64 y] ∧ (-9223372036854775808 ≤ x ∧ x ≤ 9223372036854775807) ∧ (-9223372036854775808 ≤ y ∧ y ≤ 9223372036854775807) ∧ Below w2.heap.size w2 wx)
      case first =>
        go_region_held3 (fun w' => Box2 w2 w.heap.size (.int .i64 m) (.int .i64 e) w')
          (first | exact hS0 _ (Below.refl _ _).drew | exact hS0 _ (Below.one _ _).drew | (refine hS2 _ _ ?_ hbA; assumption) | (refine hS2 _ _ ?_ hbB; assumption) | (refine hS2 _ _ ?_ (Below.one _ _); assumption) | (refine hS0 _ ?_; exact kS.2.up (Below.one _ _)) | (refine hS0 _ ?_; exact (kS.2.setCell (by simp) _).setCell (by simp) _) | fail)
          (first
            | (go_simp; go_at_call 72; refine (hP _).mono ?_; rintro e w1 ⟨pw, rfl, hpw, rfl⟩)
            | (go_simp; go_at_call 71; refine (s_DecNew (IntKind.i64.wrap (m * pw)) e _ (wrapI_two _) (by omega)).mono ?_; rintro r3 w3 ⟨rfl, hbA⟩; have kS := hS2 _ _ (by assumption) hbA; (try (have BN := (by first | exact hN _ hbA | exact hN2 _ hbA); have c0 := BN.cell 0; have c1 := BN.cell 1; have d0 := BN.frozen 0; have d1 := BN.frozen 1)); obtain ⟨x1, y1, ok1, hdv, hx1, hy1⟩ := decV_two (IntKind.i64.wrap (m * pw)) e; rw [hdv]))
        all_goals
          go_wp2_with fail
          go_meet
          case rel =>
            first
              | (have hq := BN; clear hq; exact ⟨_, x1, y1, rfl, BN.two _ _, hx1, hy1, (kS.2.setCell (p := ⟨w2.heap.size, 0, none⟩) (by simp) _).setCell (p := ⟨w2.heap.size, 1, none⟩) (by simp) _⟩)
              | exact ⟨_, x1, y1, rfl, Blk.new _ _ _, hx1, hy1, kS.2.up (Below.one _ _)⟩
      case rest =>
        obtain ⟨g3, x, y, rfl, B3, hx, hy, k3⟩ := hcut
        replace B2 := B2.below k3 B2.lt
        replace k2 := k2.up k3
        clear hS0 hS2 hN hN2 hP b0 b1 B1 k3
        have q0 := B2.cell 0
        have q1 := B2.cell 1
        have f0 := B2.frozen 0
        have f1 := B2.frozen 1
        have r0 := B3.cell 0
        have r1 := B3.cell 1
        go_wp2_with fail
        exact bodyPost_ret (results_blk Tryd.results64 Tryd.isAgg81 (by exact Tryd.sizeOf81) rfl (B2.two _ _)) rfl ⟨x, y, rfl, hx, hy, ((k2.setCell (p := ⟨w.heap.size + 1, 0, none⟩) (by simp) _).setCell (p := ⟨w.heap.size + 1, 1, none⟩) (by simp) _)⟩
end Go.Proofs.YtpafgmlkbbbmhaaDoor
