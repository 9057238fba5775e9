/- Draws of texts: some text, not long. Decimal numbers drawn. Written by gen/tokdraws.py. Leaf values (spec). Written by gen/markdraws.py. Four hexadecimal digits, plain: what the reference reads, and what is read of the text in small letters. No function of the program in sight. -/
import Derived.Test.YtmnlkedacnemcaaGreatDoorTwM27
import Derived.Test.YtmnlkedacnemcaaGreatDoorTwTextOk
import Derived.Test.YtmnlkedacnemcaaGreatDoorTwM24
import Derived.Test.YtmnlkedacnemcaaGreatDoorTwM21
import Derived.Test.YtmnlkedacnemcaaGreatDoorTwDecNew
import Derived.Deep.LoopGhost
import Derived.Test.YtmnlkedacnemcaaGreatDoorTwM7
import Derived.Test.YtmnlkedacnemcaaGreatDoorTwM8
import Derived.Lib.MapLaws
import Derived.Lib.TrimAscii
import Derived.Laws.RangeAny
import Derived.Shelf.Unicode.CaseLaid
set_option linter.unusedVariables false
set_option maxRecDepth 100000
set_option linter.unusedSimpArgs false
namespace Go.Proofs.YtmnlkedacnemcaaGreatDoor
open Go.RowKit

theorem IS.fr {w w' : World} {lo n c : Nat} {A : Option Addr} {b : List Int} {fp : List Nat} (h : IS w lo A n c b) (hf : Fr fp w w') (hd : ∀ g ∈ blkOf A, g ∉ fp) : IS w' lo A n c b := by
  have h0 := fun g hg => (row_ltI h (g := g) hg).2
  refine ⟨h.1, ?_⟩
  rcases h.2 with h1 | ⟨g, cap, cur, h1, h2, h3, h4⟩
  · exact .inl h1
  · simp only [Value.slice.injEq] at h1
    have hg : g ∈ blkOf A := by rw [h1.1]; simp [blkOf]
    exact .inr ⟨g, cap, cur, by rw [h1.1, h1.2.2], h2, (hf.block g (h0 g hg) (hd g hg)).trans h3, h4⟩
theorem Cur.low {w w' : World} {B g n c lo : Nat} {A : Option Addr} {b : List UInt8} (h : Cur w B g A n c b) (hb : Below lo w w') (hg : g < lo) : Cur w' B g A n c b := by
  obtain ⟨h1, h2, h3, i, x, h4, h5⟩ := h
  exact ⟨h1, h2, h3.below (hb.mono (by omega)), i, x, h4, h5.below hb hg⟩
theorem Fr.onBelow {fp : List Nat} {w w1 w2 : World} (h : Fr fp w w1) (hb : Below w.heap.size w1 w2) : Fr fp w w2 := ⟨hb.os.trans h.os, hb.tape.trans h.tape, hb.output.trans h.output, Nat.le_trans h.size hb.size, fun k hk hn => (hb.block k hk).trans (h.block k hk hn)⟩
theorem s_l2Rune (B g n c : Nat) (A : Option Addr) (b : List UInt8) (w : World) (h : Cur w B g A n c b) :
    Calls Tryz.prog 76 #[.pointer (some ⟨g, 0, none⟩)] w fun r w' => ∃ x : Int, r = .returned (.int .i64 x) ∧ Cur w' B g A n c b ∧ Fr [g] w w' := by
  go_enter Tryz.func76, Tryz.ntmps76
  go_wp2_with fail
  refine (s_l1Int _ _ n c A b (some ⟨w.heap.size, 0, none⟩) 18 18 [0, 97, 98, 34, 92, 10, 127, 128, 233, 2047, 2048, 8364, 55295, 57344, 65535, 65536, 128512, 1114111] _ (h.below (Below.one _ _)) (by exact i64s_lit _ _ [0, 97, 98, 34, 92, 10, 127, 128, 233, 2047, 2048, 8364, 55295, 57344, 65535, 65536, 128512, 1114111] _ rfl (by exact Nat.le_of_ble_eq_true rfl)) (lit_ne h.lt) (by decide)).mono ?_; rintro r w2 ⟨x, rfl, hx, hC2, hf2⟩
  go_wp2_with fail
  go_ret
  exact ⟨x, rfl, hC2, (Fr.of_below (Below.one _ _)).trans hf2⟩
set_option maxHeartbeats 2000000 in
theorem s_l2Text (B g n c : Nat) (A : Option Addr) (b : List UInt8) (w : World) (h : Cur w B g A n c b) :
    Calls Tryz.prog 55 #[.pointer (some ⟨g, 0, none⟩)] w fun r w' => ∃ s : ByteArray, r = .returned (.string s) ∧ s.size ≤ 100 ∧ Cur w' B g A n c b ∧ Fr [g] w w' := by
  have hgw := h.lt
  go_enter Tryz.func55, Tryz.ntmps55
  go_wp2_with fail
  refine (s_l1Once B g n c A b 2 _ h (by decide)).mono ?_; rintro r w1 ⟨x1, rfl, hC1, hf1⟩
  cases x1 with
  | true =>
    go_wp2_with fail
    refine (s_l1Str _ _ n c A b (some ⟨w1.heap.size, 0, none⟩) 9 9 [⟨#[]⟩, ⟨#[97]⟩, ⟨#[98]⟩, ⟨#[107, 101, 121]⟩, ⟨#[120, 32, 121]⟩, ⟨#[49]⟩, ⟨#[195, 169]⟩, ⟨#[34]⟩, ⟨#[92]⟩] _ (hC1.below (Below.one _ _)) (by exact strs_lit _ 0 [⟨#[]⟩, ⟨#[97]⟩, ⟨#[98]⟩, ⟨#[107, 101, 121]⟩, ⟨#[120, 32, 121]⟩, ⟨#[49]⟩, ⟨#[195, 169]⟩, ⟨#[34]⟩, ⟨#[92]⟩] _ rfl (by exact Nat.le_of_ble_eq_true rfl)) (lit_ne hC1.lt) (by decide)).mono ?_; rintro r w2 ⟨s, rfl, hs, hC2, hf2⟩
    go_wp2_with fail
    go_ret
    have hsd : s.size ≤ 100 := by
      simp only [List.mem_cons, List.mem_nil_iff, or_false] at hs
      rcases hs with rfl | rfl | rfl | rfl | rfl | rfl | rfl | rfl | rfl <;> decide
    exact ⟨s, rfl, hsd, hC2, (hf1.trans (Fr.of_below (Below.one _ _))).trans hf2⟩
  | false =>
    have hE : IS (w1.alloc (.cells #[] 3)) w.heap.size (some ⟨w1.heap.size, 0, none⟩) 0 0 [] := own_mono (World.ownsRow_lit w1 #[] 0 (Nat.le_refl _) (by decide) rfl) hf1.size
    have hfE := hf1.trans (Fr.of_below (Below.one w1 (.cells #[] 3)))
    go_wp2_with fail
    refine (s_l1Below B g n c A b 4 _ (hC1.below (Below.one _ _)) (by decide)).mono ?_; rintro r w2 ⟨x, rfl, hx, hC2, hf2⟩
    obtain ⟨hx0, hx1⟩ := hx.2 (by decide)
    obtain ⟨i0, rfl⟩ := Int.eq_ofNat_of_zero_le hx0
    have hI2 := hE.fr hf2 (fun y hy => by have := (row_ltI hE hy).1; simp; omega)
    have hF2 := hfE.trans hf2
    clear hE hfE hf2 hC1 hf1
    go_wp2_with fail
    go_loopg [3, 4] i0 (fun f v3 v4 wr => ∃ (k c' : Nat) (A' : Option Addr) (l : List Int), v4 = .int .i64 f ∧ v3 = .slice A' k c' ∧ k + f ≤ 3 ∧ IS wr w.heap.size A' k c' l ∧ w.heap.size ≤ wr.heap.size ∧ Cur wr B g A n c b ∧ Fr [g] w wr)
    case atStart => exact ⟨0, 0, _, [], rfl, rfl, by omega, hI2, hF2.size, hC2, hF2⟩
    case round =>
      obtain ⟨k, c', A', l, rfl, rfl, hk, hI, hz, hC, hF⟩ := hrel
      clear hI2 hF2 hC2
      cases gk with
      | zero =>
        have hfr := s_FromRunes A' k c' l wr wr.heap.size hI.sl (Nat.le_refl _) (by omega)
        have hll := encAll_len l
        have hlk := hI.len
        go_wp2_with (go_at_call 77; refine hfr.mono ?_; rintro e w3 ⟨rfl, hb3⟩)
        go_ret
        exact ⟨_, rfl, by rw [ba_sz]; omega, hC.below hb3, hF.trans (Fr.of_below hb3)⟩
      | succ f =>
        have hpos : (0 : Int) < ((f + 1 : Nat) : Int) := by omega
        have hru := s_l2Rune B g n c A b wr hC
        go_wp2_with (first
          | (go_at_call 76; refine hru.mono ?_; rintro e w3 ⟨z, rfl, hC3, hf3⟩; have hI3 := hI.fr hf3 (fun y hy => by have := (row_ltI hI hy).1; simp; omega); have hz3 : w.heap.size ≤ w3.heap.size := Nat.le_trans hz hf3.size)
          | (at_builtin; refine app_int rfl _ _ rfl (hI3.below (Below.one w3 _)) rfl (int1 w3 z) rfl (by omega) (by simp; omega) ?_; intro A6 c6 w6 h6 hg6))
        have kb6 : Below w.heap.size w3 w6 := ((Below.refl w.heap.size w3).alloc hz3 (.cells #[.int .i64 z] 3)).trans (hg6.fr.below (B := w.heap.size) (fun y hy => (row_ltI hI3 hy).1) (by simp; omega))
        have hC6 := hC3.low kb6 hgw
        have hF6 : Fr [g] w w6 := (hF.trans hf3).onBelow kb6
        go_roundg f
        case measure => omega
        case rel => exact ⟨k + 1, c6, A6, _, by go_num, rfl, by omega, h6, hF6.size, hC6, hF6⟩
end Go.Proofs.YtmnlkedacnemcaaGreatDoor

namespace Go.Proofs.YtmnlkedacnemcaaGreatDoor
open Go.RowKit

theorem decNew_bd {n x a b : Int} (h : decNew n x = some (a, b)) : (-100000000000000000 < a ∧ a < 100000000000000000) ∧ (-16 ≤ b ∧ b ≤ 0) := by
  unfold decNew at h
  split at h
  · cases h
  split at h
  · cases h; decide
  split at h
  · split at h
    · rename_i hok
      simp only [Option.some.injEq, Prod.mk.injEq] at h
      obtain ⟨rfl, rfl⟩ := h
      generalize (stripD (-x).toNat n).1 = a at hok ⊢
      generalize (stripD (-x).toNat n).2 = k at hok ⊢
      by_cases h0 : -(k : Int) = 0
      · rw [h0, decOk_zero] at hok
        have := inR_iff.1 hok
        omega
      · rw [decOk_nz h0, Bool.and_eq_true, Bool.and_eq_true] at hok
        have h1 := inR_iff.1 hok.1
        have h2 := digN_17.1 (of_decide_eq_true hok.2.1)
        omega
    · cases h
  split at h
  · simp only [Option.some.injEq, Prod.mk.injEq] at h
    omega
  · cases h
set_option maxHeartbeats 2000000 in
theorem s_l4Draw (B g n c : Nat) (A : Option Addr) (b : List UInt8) (w : World) (h : Cur w B g A n c b) :
    Calls Tryz.prog 75 #[.pointer (some ⟨g, 0, none⟩)] w fun r w' => ∃ x y : Int, r = .returned (.agg #[.int .i64 x, .int .i64 y]) ∧ (-100000000000000000 < x ∧ x < 100000000000000000) ∧ (-16 ≤ y ∧ y ≤ 0) ∧ Cur w' B g A n c b ∧ Fr [g] w w' := by
  have hgl := h.lt
  have hgn : w.heap.size ≠ g := by omega
  have h0 := h.below (Below.one w (.cells #[.int .i64 0, .int .i64 0] 75))
  have hF0 : Fr [g] w (w.alloc (.cells #[.int .i64 0, .int .i64 0] 75)) := Fr.of_below (Below.one _ _)
  have hB0 := Blk.new w 75 #[.int .i64 0, .int .i64 0]
  go_enter Tryz.func75, Tryz.ntmps75
  go_wp2_with fail
  go_loopg [3, 4, 5] 6 (fun f v3 v4 v5 wr => ∃ j : Nat, j + f = 6 ∧ v3 = .int .i64 j ∧ Blk wr w.heap.size 75 #[.int .i64 0, .int .i64 0] ∧ Cur wr B g A n c b ∧ Fr [g] w wr)
  case atStart => exact ⟨0, rfl, rfl, hB0, h0, hF0⟩
  case round =>
    obtain ⟨j, hjf, rfl, hB, hC, hF⟩ := hrel
    clear hB0 h0 hF0
    by_cases hj : j < 6
    · obtain ⟨f, rfl⟩ : ∃ f, gk = f + 1 := ⟨gk - 1, by omega⟩
      have hji : (j : Int) < 6 := by omega
      have hjf2 : j + 1 + f = 6 := by omega
      clear hjf
      go_wp2_with fail
      refine (s_l1SignedB B g n c A b _ hC).mono ?_; rintro r w1 ⟨z, rfl, hz, hC1, hf1⟩
      have hB1 := hB.fr_' hf1 (by simpa using hgn)
      have hF1 := hF.trans hf1
      go_wp2_with fail
      refine (s_l1Below B g n c A b 17 _ hC1 (by decide)).mono ?_; rintro r w2 ⟨y, rfl, hy, hC2, hf2⟩
      obtain ⟨hy0, hy1⟩ := hy.2 (by decide)
      have hB2 := hB1.fr_' hf2 (by simpa using hgn)
      have hF2 := hF1.trans hf2
      clear hB hB1 hF hF1 hf1 hf2 hC hC1 hy
      go_wp2_with fail
      refine (s_DecNew z (-y) _ hz (by omega)).mono ?_; rintro r w3 ⟨rfl, hb3⟩
      have hB3 := hB2.below hb3 hB2.lt
      have hC3 := hC2.below hb3
      have hF3 := hF2.onBelow (hb3.mono hF2.size)
      have hz3 := hF3.size
      have hl3 := hB3.lt
      clear hB2 hC2 hF2
      cases hd : decNew z (-y) with
      | none =>
        simp only [decV]
        go_wp2_with fail
        go_roundg f
        case measure => omega
        case rel => exact ⟨j + 1, hjf2, by go_num, hB3.alloc _, hC3.below (Below.one _ _), hF3.trans (Fr.of_below (Below.one _ _))⟩
      | some p =>
        obtain ⟨a1, a2⟩ := p
        obtain ⟨b1, b2⟩ := decNew_bd hd
        simp only [decV]
        have r0 := hB3.cell 0
        have r1 := hB3.cell 1
        have f0 := hB3.frozen 0
        have f1 := hB3.frozen 1
        clear hd hb3
        go_wp2_with fail
        exact bodyPost_ret (results_blk Tryz.results75 Tryz.isAgg75 (by exact Tryz.sizeOf75) rfl ((hB3.two _ _).alloc _)) rfl ⟨a1, a2, rfl, b1, b2, (cur_two hC3 hgn hgl).below (Below.one _ _), ((hF3.new_ (p := ⟨w.heap.size, 0, none⟩) (Nat.le_refl _) _).new_ (p := ⟨w.heap.size, 1, none⟩) (Nat.le_refl _) _).trans (Fr.of_below (Below.one _ _))⟩
    · obtain rfl : j = 6 := by omega
      have r0 := hB.cell 0
      have r1 := hB.cell 1
      have f0 := hB.frozen 0
      have f1 := hB.frozen 1
      go_wp2_with fail
      exact bodyPost_ret (results_blk Tryz.results75 Tryz.isAgg75 (by exact Tryz.sizeOf75) rfl (hB.two _ _)) rfl ⟨15, -1, rfl, by decide, by decide, cur_two hC hgn hgl, (hF.new_ (p := ⟨w.heap.size, 0, none⟩) (Nat.le_refl _) _).new_ (p := ⟨w.heap.size, 1, none⟩) (Nat.le_refl _) _⟩
end Go.Proofs.YtmnlkedacnemcaaGreatDoor

namespace Go.Proofs.YtmnlkedacnemcaaGreatDoor
open Go.RowKit

/-- A value without elements. -/
def leafTr (k n x : Int) (s : ByteArray) : Tr := ⟨k, n, x, s, []⟩
def numT (n x : Int) : Tr := if x = 0 then leafTr 3 n 0 ⟨#[]⟩ else leafTr 6 n x ⟨#[]⟩
theorem s_IntVal (n : Int) (w : World) : Calls Tryz.prog 34 #[.int .i64 n] w fun r w' => r = .returned (trV (leafTr 3 n 0 ⟨#[]⟩) ⟨none, 0, 0, []⟩) ∧ Below w.heap.size w w' := by
  go_enter Tryz.func34, Tryz.ntmps34
  go_wp2_with fail
  exact bodyPost_ret (results_blk Tryz.results34 Tryz.isAgg26 (by exact Tryz.sizeOf26) rfl (Blk.new w _ _)) rfl ⟨rfl, Below.one _ _⟩
theorem s_TextVal (s : ByteArray) (w : World) : Calls Tryz.prog 48 #[.string s] w fun r w' => r = .returned (trV (leafTr 7 0 0 s) ⟨none, 0, 0, []⟩) ∧ Below w.heap.size w w' := by
  go_enter Tryz.func48, Tryz.ntmps48
  go_wp2_with fail
  exact bodyPost_ret (results_blk Tryz.results48 Tryz.isAgg26 (by exact Tryz.sizeOf26) rfl (Blk.new w _ _)) rfl ⟨rfl, Below.one _ _⟩
set_option maxHeartbeats 1000000 in
theorem s_NumberVal (n x : Int) (w : World) : Calls Tryz.prog 53 #[.agg #[.int .i64 n, .int .i64 x]] w fun r w' => r = .returned (trV (numT n x) ⟨none, 0, 0, []⟩) ∧ Below w.heap.size w w' := by
  have k2 := Below.two w (.cells #[.int .i64 n, .int .i64 x] 75) (.cells #[.int .i64 0, .int .i64 0, .int .i64 0, .string ⟨#[]⟩, .slice none 0 0] 26)
  have hZ : Blk ((w.alloc (.cells #[.int .i64 n, .int .i64 x] 75)).alloc (.cells #[.int .i64 0, .int .i64 0, .int .i64 0, .string ⟨#[]⟩, .slice none 0 0] 26)) (w.heap.size + 1) 26 #[.int .i64 0, .int .i64 0, .int .i64 0, .string ⟨#[]⟩, .slice none 0 0] := by
    simpa using Blk.new (w.alloc (.cells #[.int .i64 n, .int .i64 x] 75)) 26 #[.int .i64 0, .int .i64 0, .int .i64 0, .string ⟨#[]⟩, .slice none 0 0]
  by_cases hx : x = 0
  · subst hx
    have e : numT n 0 = leafTr 3 n 0 ⟨#[]⟩ := by unfold numT; rw [if_pos rfl]
    rw [e]
    clear e
    have hiv := fun w1 => s_IntVal n w1
    generalize leafTr 3 n 0 ⟨#[]⟩ = u at hiv ⊢
    go_enter Tryz.func53, Tryz.ntmps53
    go_wp2_with (go_at_call 34; refine (hiv _).mono ?_; rintro r w1 ⟨rfl, hb1⟩; have BZ := hZ.below hb1 hZ.lt; obtain ⟨x0, x1, x2, x3, x4, ⟨s0, t0⟩, ⟨s1, t1⟩, ⟨s2, t2⟩, ⟨s3, t3⟩, s4, t4⟩ := BZ.five (o := 0) (by simp) (.int .i64 u.k) (.int .i64 u.n) (.int .i64 u.x) (.string u.s))
    have hblk : Blk (set5 w1 (w.heap.size + 1) 0 u ⟨none, 0, 0, []⟩) (w.heap.size + 1) 26 _ := Blk.five_ BZ u ⟨none, 0, 0, []⟩
    have r3 : Below w.heap.size w (set5 w1 (w.heap.size + 1) 0 u ⟨none, 0, 0, []⟩) := below_set5 (k2.up hb1) (by omega)
    exact bodyPost_ret (results_blk Tryz.results53 Tryz.isAgg26 (by exact Tryz.sizeOf26) rfl hblk) rfl ⟨rfl, r3⟩
  · have hz : (x == 0) = false := by simpa using hx
    have e : numT n x = leafTr 6 n x ⟨#[]⟩ := by unfold numT; rw [if_neg hx]
    rw [e]
    clear e hx
    have hZ2 : Blk ((w.alloc (.cells #[.int .i64 n, .int .i64 x] 75)).alloc (.cells #[.int .i64 6, .int .i64 n, .int .i64 x, .string ⟨#[]⟩, .slice none 0 0] 26)) (w.heap.size + 1) 26 #[.int .i64 6, .int .i64 n, .int .i64 x, .string ⟨#[]⟩, .slice none 0 0] := by
      simpa using Blk.new (w.alloc (.cells #[.int .i64 n, .int .i64 x] 75)) 26 #[.int .i64 6, .int .i64 n, .int .i64 x, .string ⟨#[]⟩, .slice none 0 0]
    go_enter Tryz.func53, Tryz.ntmps53
    go_wp2_with fail
    exact bodyPost_ret (results_blk Tryz.results53 Tryz.isAgg26 (by exact Tryz.sizeOf26) rfl hZ2) rfl ⟨rfl, Below.two _ _ _⟩
theorem s_l6FltVal (m e : Int) (w : World) : Calls Tryz.prog 51 #[.agg #[.int .i64 m, .int .i64 e]] w fun r w' => r = .returned (trV (leafTr 4 m e ⟨#[]⟩) ⟨none, 0, 0, []⟩) ∧ Below w.heap.size w w' := by
  have hZ2 : Blk ((w.alloc (.cells #[.int .i64 m, .int .i64 e] 65)).alloc (.cells #[.int .i64 4, .int .i64 m, .int .i64 e, .string ⟨#[]⟩, .slice none 0 0] 26)) (w.heap.size + 1) 26 #[.int .i64 4, .int .i64 m, .int .i64 e, .string ⟨#[]⟩, .slice none 0 0] := by
    simpa using Blk.new (w.alloc (.cells #[.int .i64 m, .int .i64 e] 65)) 26 #[.int .i64 4, .int .i64 m, .int .i64 e, .string ⟨#[]⟩, .slice none 0 0]
  go_enter Tryz.func51, Tryz.ntmps51
  go_wp2_with fail
  exact bodyPost_ret (results_blk Tryz.results51 Tryz.isAgg26 (by exact Tryz.sizeOf26) rfl hZ2) rfl ⟨rfl, Below.two _ _ _⟩
end Go.Proofs.YtmnlkedacnemcaaGreatDoor

namespace Go.Proofs.YtmnlkedacnemcaaGreatDoor
open Go.RowKit

/-- The number of a digit; -1: it is none. -/
def digV (b : UInt8) : Int := if 65 ≤ b.toNat ∧ b.toNat ≤ 70 then (b.toNat : Int) - 55 else if 48 ≤ b.toNat ∧ b.toNat ≤ 57 then (b.toNat : Int) - 48 else if 97 ≤ b.toNat ∧ b.toNat ≤ 102 then (b.toNat : Int) - 87 else -1
/-- The number of a small digit; -1: it is none. -/
def lowV (b : UInt8) : Int := if 48 ≤ b.toNat ∧ b.toNat ≤ 57 then (b.toNat : Int) - 48 else if 97 ≤ b.toNat ∧ b.toNat ≤ 102 then (b.toNat : Int) - 87 else -1
def numG (f : UInt8 → Int) : List UInt8 → Int → Int × Bool
  | [], n => (n, true)
  | b :: l, n => if f b < 0 then (0, false) else numG f l (16 * n + f b)
theorem lowV_bd (b : UInt8) : -1 ≤ lowV b ∧ lowV b ≤ 15 := by unfold lowV; (repeat' split) <;> omega
theorem digV_bd (b : UInt8) : -1 ≤ digV b ∧ digV b ≤ 15 := by unfold digV; (repeat' split) <;> omega
theorem lowV_high {b : UInt8} (h : 103 ≤ b.toNat) : lowV b = -1 := by unfold lowV; (repeat' split) <;> omega
theorem digV_high {b : UInt8} (h : 103 ≤ b.toNat) : digV b = -1 := by unfold digV; (repeat' split) <;> omega
theorem enc_one {r : Int} (h0 : 0 ≤ r) (h1 : r ≤ 127) : Lib.encodeRune r = [UInt8.ofNat r.toNat] := by
  unfold Lib.encodeRune
  rw [Lib.encodeRuneZ_one h0 h1]
  rfl
theorem ofNat_toNat' {n : Nat} (h : n < 256) : (UInt8.ofNat n).toNat = n := by simp; omega
theorem lowV_lower (b : UInt8) (h : b.toNat < 128) : 0 ≤ Lib.toLowerU (b.toNat : Int) ∧ Lib.encodeRune (Lib.toLowerU (b.toNat : Int)) = [UInt8.ofNat (Lib.toLowerU (b.toNat : Int)).toNat] ∧ lowV (UInt8.ofNat (Lib.toLowerU (b.toNat : Int)).toNat) = digV b := by
  have e : Lib.toLowerU (b.toNat : Int) = if 65 ≤ b.toNat ∧ b.toNat ≤ 90 then (b.toNat : Int) + 32 else b.toNat := by
    unfold Lib.toLowerU
    rw [if_pos (by omega)]
    split <;> split <;> omega
  have hr : 0 ≤ Lib.toLowerU (b.toNat : Int) ∧ Lib.toLowerU (b.toNat : Int) ≤ 127 := by rw [e]; split <;> omega
  refine ⟨hr.1, enc_one hr.1 hr.2, ?_⟩
  unfold lowV digV
  rw [ofNat_toNat' (by omega), e]
  (repeat' split) <;> omega
/-- Of each row of the case table: what lies beyond ASCII stays beyond the hexadecimal digits in small letters. -/
def rowHigh (x : Lib.CaseRow) : Bool := decide (x.2.1 < 128) || (decide (x.delta 1 > 1114111) && decide (103 ≤ x.1)) || (decide (x.delta 1 ≤ 1114111) && decide (103 ≤ (max 128 (x.1 : Int)) + x.delta 1))
set_option maxRecDepth 1000000 in
theorem rowsHigh : Lib.caseT.all rowHigh = true := by decide
theorem lower_high {r : Int} (h : 128 ≤ r) : 103 ≤ Lib.toLowerU r := by
  unfold Lib.toLowerU
  rw [if_neg (by omega)]
  unfold Lib.toR Lib.lookupGo
  cases hi : Lib.lookupIdx Lib.caseA r (Lib.caseA.size + 1) 0 Lib.caseA.size with
  | none => simp; omega
  | some i =>
    obtain ⟨hil, hlo, hhi⟩ := Lib.lookupIdx_some Lib.caseA r _ _ _ i hi
    have hm : Lib.caseA.getD i (0, 0, 0, 0, 0) ∈ Lib.caseT := by
      unfold Lib.caseA at hil ⊢
      simp only [List.size_toArray] at hil
      simp [Array.getD, hil]
    have hx := List.all_eq_true.1 rowsHigh _ hm
    simp only [Option.map_some]
    generalize Lib.caseA.getD i (0, 0, 0, 0, 0) = x at hx hlo hhi ⊢
    simp only [rowHigh, Bool.or_eq_true, Bool.and_eq_true, decide_eq_true_eq] at hx
    unfold Lib.convertR
    split <;> omega
theorem encode_high {r : Int} (h : 103 ≤ r) : ∃ b l, Lib.encodeRune r = b :: l ∧ 103 ≤ b.toNat := by
  have hb : ∀ z : Int, 103 ≤ z → z < 256 → 103 ≤ (z.toNat.toUInt8).toNat := by
    intro z h1 h2
    have : (z.toNat.toUInt8).toNat = z.toNat := by show (UInt8.ofNat z.toNat).toNat = z.toNat; exact ofNat_toNat' (by omega)
    omega
  unfold Lib.encodeRune Lib.encodeRuneZ
  (repeat' split)
  all_goals exact ⟨_, _, rfl, hb _ (by omega) (by omega)⟩
/-- The first byte of the text in small letters: a digit where the text has one, and then the rest follows. -/
theorem lower_step (b : UInt8) (l : List UInt8) : ∃ c m, Lib.toLowerD (b :: l) = c :: m ∧ lowV c = digV b ∧ (0 ≤ lowV c → m = Lib.toLowerD l) := by
  have hs := Lib.mapD_step Lib.toLowerU (b :: l) (by simp)
  unfold Lib.toLowerD
  rw [hs]
  by_cases hb : b.toNat < 128
  · rw [Lib.decodeL_ascii b l hb]
    obtain ⟨h0, h1, h2⟩ := lowV_lower b hb
    simp only []
    rw [if_pos h0, h1]
    exact ⟨_, _, rfl, h2, fun _ => rfl⟩
  · have hd : 128 ≤ (Lib.decodeL (b :: l)).1 := (decode_high ⟨(b :: l).toArray⟩ 0 (by show 0 < (b :: l).toArray.size; simp) (by show 128 ≤ b.toNat; omega)).1
    have hl := lower_high (r := ((Lib.decodeL (b :: l)).1 : Int)) (by omega)
    obtain ⟨c, m, he, hc⟩ := encode_high hl
    rw [if_pos (by omega), he]
    refine ⟨c, _, rfl, ?_, fun h => ?_⟩
    · rw [lowV_high hc, digV_high (by omega)]
    · rw [lowV_high hc] at h; omega
theorem lower_nil : Lib.toLowerD [] = [] := rfl
/-- The number of the four digits at an offset; none: they aren't there. -/
def fourL (l : List UInt8) (i : Int) : Int × Bool := if i < 0 ∨ (l.length : Int) - 4 < i then (0, false) else numG digV ((l.drop i.toNat).take 4) 0
end Go.Proofs.YtmnlkedacnemcaaGreatDoor
