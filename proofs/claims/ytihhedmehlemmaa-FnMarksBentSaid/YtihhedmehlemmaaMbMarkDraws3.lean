/- DrawGetMark. Written by gen/markdraws.py. -/
import Derived.Test.YtihhedmehlemmaaMbMarkDraws2
import Derived.Deep.LoopGhost
set_option linter.unusedVariables false
set_option maxRecDepth 100000
set_option linter.unusedSimpArgs false
namespace Go.Proofs.Ytihhedmehlemmaa
open Go.RowKit

/-- Bytes and a place in them. -/
def GetDrawnM (w w' : World) (r : Ending) : Prop := ∃ (A' : Option Addr) (k c' : Nat) (l : List UInt8) (x : Int), r = .returned (.tuple #[.slice A' k c', .int .i64 x]) ∧ Sl w' w'.heap.size 1 A' k c' (u8s l) ∧ k ≤ 1000 ∧ (-1 ≤ x ∧ x ≤ 9) ∧ Below w.heap.size w w'
theorem u8w_two (x : Int) : 0 ≤ IntKind.u8.wrap x ∧ IntKind.u8.wrap x < 256 := by rw [IntKind.wrap_u8]; omega
theorem litBS (w : World) (x : Int) (h : 0 ≤ x ∧ x < 256) : BS (w.alloc (.cells #[.int .u8 x] 5)) w.heap.size (some ⟨w.heap.size, 0, none⟩) 1 1 [UInt8.ofNat x.toNat] := by
  have h1 : (w.alloc (.cells #[.int .u8 x] 5)).ownsRow w.heap.size 5 1 (.slice (some ⟨w.heap.size, 0, none⟩) 1 1) 1 (#[(.int .u8 x : Value)]).toList := World.ownsRow_lit w #[.int .u8 x] 1 (Nat.le_refl _) (by decide) rfl
  have e : (#[(.int .u8 x : Value)]).toList = u8s [UInt8.ofNat x.toNat] := (u8s_of1 (m1 := x.toNat) (by omega) (by omega))
  rw [e] at h1
  exact h1
set_option maxHeartbeats 4000000 in
theorem s_DrawGetMark (A : Option Addr) (n c : Nat) (b : List UInt8) (w : World) (h : Sl w w.heap.size 1 A n c (u8s b)) (hn : n ≤ 1048576) :
    Calls Try.prog 28 #[.slice A n c] w fun r w' => GetDrawnM w w' r := by
  go_enter Try.func28, Try.ntmps28
  go_wp2_with fail
  refine (s_l1New A n c b _ h hn).mono ?_; rintro r w1 ⟨rfl, hC, hb1⟩
  have hz1 := hb1.size
  go_wp2_with fail
  refine (s_l1Once _ _ n c A b 2 _ hC (by decide)).mono ?_; rintro r w2 ⟨o2, rfl, hC2, hf2⟩
  cases o2
  · go_wp2_with fail
    refine (s_l15Mark _ _ n c A b _ (hC2.below (Below.one _ _))).mono ?_; rintro r w3 ⟨x, y, rfl, hy, hC3, hf3⟩
    have hw2 : w.heap.size < w2.heap.size := hC2.lt
    have hz3 := hf3.size
    have hlit := (lit1 w2 1 (by decide)).heap_ (w' := w3) (fun k hk _ => hf3.block k (by simp [blkOf] at hk; subst hk; simp) (by simp [blkOf] at hk ⊢; omega))
    have hF3 := (hf2.trans (Fr.of_below (Below.one w2 (.cells #[.int .u8 1] 5)))).trans hf3
    go_wp2_with fail
    refine (s_PutMark _ 1 1 _ x y w3 _ hlit (by simpa using hz3) (by decide) hy.2).mono ?_; rintro r w4 ⟨A4, n4, c4, rfl, hB4, hb4⟩
    have hl4 := hB4.sl.blen
    have hl5 := markB_len x y
    rw [List.length_append] at hl4
    simp only [List.length_cons, List.length_nil] at hl4
    have hF4 := hF3.trans (Fr.of_below hb4)
    go_wp2_with fail
    refine (s_l1Bent _ _ n c A b A4 n4 c4 _ w4 (hC3.below hb4) hB4.sl (by omega)).mono ?_; rintro r w5 ⟨A5, k5, c5, l5, rfl, h5, hg5, hk5, hC5, hf5⟩
    have hF5 := hF4.trans hf5
    go_wp2_with fail
    refine (s_l1Int _ _ n c A b (some ⟨w5.heap.size, 0, none⟩) 6 6 [1, 1, 1, 0, 9, -1] _ (hC5.below (Below.one _ _)) (by exact i64s_lit _ _ [1, 1, 1, 0, 9, -1] _ rfl (by exact Nat.le_of_ble_eq_true rfl)) (lit_ne hC5.lt) (by decide)).mono ?_; rintro r w6 ⟨q, rfl, hq, hC6, hf6⟩
    have hqb : -1 ≤ q ∧ q ≤ 9 := by simp only [List.mem_cons, List.not_mem_nil, or_false] at hq; omega
    have hf56 := (Fr.of_below (fp := [w.heap.size]) (Below.one w5 (.cells #[.int .i64 1, .int .i64 1, .int .i64 1, .int .i64 0, .int .i64 9, .int .i64 (-1)] 3))).trans hf6
    have h6 := (h5.heap_ (w' := w6) (fun k hk hlt => hf56.block k hlt (by have := hg5 k hk; simp; omega))).more hf56.size
    go_wp2_with fail
    exact bodyPost_ret (results_tmp2 Try.results28 _ _ _) rfl ⟨A5, k5, c5, l5, q, rfl, h6, by omega, hqb, hb1.trans ((hF5.trans hf56).up (Nat.le_refl _) hz1)⟩
  · go_wp2_with fail
    refine (s_l1Below _ _ n c A b 40 _ hC2 (by decide)).mono ?_; rintro r w3 ⟨x, rfl, hx, hC3, hf3⟩
    have hF3 := hf2.trans hf3
    obtain ⟨x0, x1⟩ := hx.2 (by decide)
    clear hx
    have hB3 := litBS w3 (192 + x) (by omega)
    have hC3a := hC3.below (Below.one w3 (.cells #[.int .u8 (192 + x)] 5))
    have hF3a := hF3.trans (Fr.of_below (Below.one w3 (.cells #[.int .u8 (192 + x)] 5)))
    have hlo : w.heap.size < w3.heap.size := hC3.lt
    have hl1 : w1.heap.size ≤ w3.heap.size := hF3.size
    have hz3 : w3.heap.size ≤ (w3.alloc (.cells #[.int .u8 (192 + x)] 5)).heap.size := by simp
    go_wp2_with fail
    generalize w3.alloc (.cells #[.int .u8 (192 + x)] 5) = w3a at hB3 hC3a hF3a hz3 ⊢
    generalize w3.heap.size = lo at hB3 hlo hl1 hz3 ⊢
    generalize ([UInt8.ofNat (192 + x).toNat] : List UInt8) = l0 at hB3
    clear hC2 hC3 hf2 hf3 hF3
    refine (s_l1Below _ _ n c A b 9 _ hC3a (by decide)).mono ?_; rintro r w4 ⟨m, rfl, hm, hC4, hf4⟩
    obtain ⟨m0, m1⟩ := hm.2 (by decide)
    clear hm
    have hB4 := hB3.fr hf4 (fun k hk => by have := (hB3.lt (mem_blkOf.1 hk)).1; simp; omega)
    have hF4 := hF3a.trans hf4
    have hz4 := Nat.le_trans hz3 hf4.size
    clear hB3 hC3a hF3a hf4 hz3
    obtain ⟨mm, rfl⟩ : ∃ mm : Nat, m = mm := ⟨m.toNat, by omega⟩
    go_wp2_with fail
    go_loopg [5, 6] mm (fun f v5 v6 wr => ∃ (j : Nat) (A' : Option Addr) (c' : Nat) (l : List UInt8), j + f ≤ 10 ∧ v5 = .slice A' j c' ∧ v6 = .int .i64 f ∧ BS wr lo A' j c' l ∧ Cur wr w.heap.size w.heap.size A n c b ∧ Fr [w.heap.size] w1 wr ∧ lo ≤ wr.heap.size)
    case atStart => exact ⟨1, _, 1, l0, by omega, rfl, rfl, hB4, hC4, hF4, hz4⟩
    case round =>
      obtain ⟨j, A', c', l, hjf, rfl, rfl, hB, hC, hF, hz⟩ := hrel
      clear hB4 hC4 hF4 hz4
      cases gk with
      | zero =>
        go_wp2_with fail
        exact bodyPost_ret (results_tmp2 Try.results28 _ _ _) rfl ⟨A', j, c', l, 0, rfl, hB.sl, by omega, by decide, hb1.trans (hF.up (Nat.le_refl _) hz1)⟩
      | succ f =>
        have hpos : (0 : Int) < ((f + 1 : Nat) : Int) := by omega
        go_wp2_with fail
        refine (s_l1Int _ _ n c A b (some ⟨wr.heap.size, 0, none⟩) 5 5 [0, 0, 1, 128, 255] _ (hC.below (Below.one _ _)) (by exact i64s_lit _ _ [0, 0, 1, 128, 255] _ rfl (by exact Nat.le_of_ble_eq_true rfl)) (lit_ne hC.lt) (by decide)).mono ?_; rintro r w5 ⟨q, rfl, hq, hC5, hf5⟩
        have hqb : 0 ≤ q ∧ q < 256 := by simp only [List.mem_cons, List.not_mem_nil, or_false] at hq; omega
        clear hq
        have hB5 := (hB.alloc (.cells #[.int .i64 0, .int .i64 0, .int .i64 1, .int .i64 128, .int .i64 255] 3)).fr hf5 (fun k hk => by have := (hB.lt (mem_blkOf.1 hk)).1; simp; omega)
        have hF5 := (hF.trans (Fr.of_below (Below.one wr (.cells #[.int .i64 0, .int .i64 0, .int .i64 1, .int .i64 128, .int .i64 255] 3)))).trans hf5
        have hz5 : lo ≤ w5.heap.size := Nat.le_trans hz (Nat.le_trans (Below.one wr _).size hf5.size)
        have hFa := hF5.trans (Fr.of_below (Below.one w5 (.cells #[.int .u8 q] 5)))
        have hCa := hC5.below (Below.one w5 (.cells #[.int .u8 q] 5))
        go_wp2_with (at_builtin; refine app_u8 rfl _ _ rfl (hB5.alloc _) rfl (lit1 w5 _ (by omega)) rfl (by omega) (by simp; omega) ?_; intro A2 c2 w6 h6 hb6)
        go_roundg f
        case measure => omega
        case rel => exact ⟨j + 1, A2, c2, _, by omega, rfl, by go_num, h6, hCa.belowB hb6 hlo, hFa.onBelow (hb6.mono hl1), Nat.le_trans hz5 (Nat.le_trans (Below.one w5 _).size hb6.size)⟩
end Go.Proofs.Ytihhedmehlemmaa
