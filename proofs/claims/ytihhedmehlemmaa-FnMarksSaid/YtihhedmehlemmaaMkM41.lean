/- Draws of marks (4): DrawPutMark, DrawMarkFor, DrawSigned. Written by gen/markdraws.py. DrawGetMark. Written by gen/markdraws.py. -/
import Derived.Test.YtihhedmehlemmaaMkM39
import Derived.Test.YtihhedmehlemmaaMkMarkDraws2
import Derived.Test.YtihhedmehlemmaaMkM20
import Derived.Deep.LoopGhost
set_option linter.unusedVariables false
set_option maxRecDepth 100000
set_option linter.unusedSimpArgs false
namespace Go.Proofs.Ytihhedmehlemmaa
open Go.RowKit

def PutDrawnM (w w' : World) (r : Ending) : Prop := ∃ (A' : Option Addr) (k c' : Nat) (l : List UInt8) (x y : Int), r = .returned (.tuple #[.slice A' k c', .agg #[.int .i64 x, .int .i64 y]]) ∧ BS w' w.heap.size A' k c' l ∧ k ≤ 2 ∧ (-9223372036854775808 ≤ y ∧ y ≤ 9223372036854775807) ∧ Below w.heap.size w w'
set_option maxHeartbeats 2000000 in
theorem s_DrawPutMark (A : Option Addr) (n c : Nat) (b : List UInt8) (w : World) (h : Sl w w.heap.size 1 A n c (u8s b)) (hn : n ≤ 1048576) :
    Calls Try.prog 13 #[.slice A n c] w fun r w' => PutDrawnM w w' r := by
  have k0 := Below.one w (.cells #[.int .i64 0, .int .i64 0] 36)
  have h0 : Sl (w.alloc (.cells #[.int .i64 0, .int .i64 0] 36)) (w.alloc (.cells #[.int .i64 0, .int .i64 0] 36)).heap.size 1 A n c (u8s b) := (h.alloc (Nat.le_refl _) _).more (by simp)
  have hB := Blk.new w 36 #[.int .i64 0, .int .i64 0]
  have hz : (w.alloc (.cells #[.int .i64 0, .int .i64 0] 36)).heap.size = w.heap.size + 1 := by simp
  go_enter Try.func13, Try.ntmps13
  go_wp2_with fail
  refine (s_l1New A n c b _ h0 hn).mono ?_; rintro r w1 ⟨rfl, hC, hb1⟩
  rw [hz] at hC ⊢
  have k1 := k0.up hb1
  have hB1 := hB.below hb1 hB.lt
  go_wp2_with fail
  refine (s_l1Below _ _ n c A b 3 _ hC (by decide)).mono ?_; rintro r w2 ⟨x, rfl, hx, hC2, hf2⟩
  have hxb := hx.2 (by decide)
  go_wp2_with fail
  refine (s_l1Bytes _ _ n c A b x _ hC2 (by omega)).mono ?_; rintro r w3 ⟨A3, k3, c3, l3, rfl, hB3, hk3, hC3, hf3⟩
  go_wp2_with fail
  refine (s_l15Any _ _ n c A b _ hC3).mono ?_; rintro r w4 ⟨x4, y4, rfl, hy4, hC4, hf4⟩
  have hz1 := k1.size
  have hgl := hC2.lt
  have hB4 := hB3.fr hf4 (fun k hk => by have := (hB3.lt (mem_blkOf.1 hk)).1; simp; omega)
  have hF := (hf2.trans hf3).trans hf4
  have hB5 := Blk.fr_' hB1 hF (by simp)
  obtain ⟨r0, r1, q0, q1, ql⟩ := hB5.at2'
  have k4 := k1.trans (hF.up (Nat.le_succ _) k1.size)
  have hB6 : BS w4 w.heap.size A3 k3 c3 l3 := own_mono hB4 (Nat.le_trans k1.size hf2.size)
  have hne : ∀ k ∈ blkOf A3, k ≠ w.heap.size := fun k hk => by have := (hB4.lt (mem_blkOf.1 hk)).1; have := hf2.size; have := hB1.lt; omega
  have HB : ∀ a b, BS ((w4.setCell ⟨w.heap.size, 0, none⟩ a).setCell ⟨w.heap.size, 1, none⟩ b) w.heap.size A3 k3 c3 l3 := fun a b => hB6.fr (fp := [w.heap.size]) (((Fr.refl _ _).setCell (by simp) _).setCell (by simp) _) (fun k hk => by simpa using hne k hk)
  have HK : ∀ a b, Below w.heap.size w ((w4.setCell ⟨w.heap.size, 0, none⟩ a).setCell ⟨w.heap.size, 1, none⟩ b) := fun a b => (k4.setCell (by exact Nat.le_refl _) _).setCell (by exact Nat.le_refl _) _
  go_wp2_with fail
  exact bodyPost_ret (results_tmp_blk Try.results13 Try.isAgg36 (by exact Try.sizeOf36) rfl (hB5.two _ _)) rfl ⟨A3, k3, c3, l3, _, _, rfl, HB _ _, by omega, hy4, HK _ _⟩
set_option maxHeartbeats 2000000 in
theorem s_DrawMarkFor (A : Option Addr) (n c : Nat) (b : List UInt8) (w : World) (h : Sl w w.heap.size 1 A n c (u8s b)) (hn : n ≤ 1048576) :
    Calls Try.prog 15 #[.slice A n c] w fun r w' => ∃ (t : Tr) (e : El), r = .returned (trV t e) ∧ anT t ∧ e.n = t.l.length ∧ Below w.heap.size w w' := by
  have h0 : Sl (w.alloc (.cells #[.int .i64 0, .int .i64 0, .int .i64 0, .string ⟨#[]⟩, .slice none 0 0] 26)) (w.alloc (.cells #[.int .i64 0, .int .i64 0, .int .i64 0, .string ⟨#[]⟩, .slice none 0 0] 26)).heap.size 1 A n c (u8s b) := (h.alloc (Nat.le_refl _) _).more (by simp)
  have k0 := Below.one w (.cells #[.int .i64 0, .int .i64 0, .int .i64 0, .string ⟨#[]⟩, .slice none 0 0] 26)
  have hB := Blk.new w 26 #[.int .i64 0, .int .i64 0, .int .i64 0, .string ⟨#[]⟩, .slice none 0 0]
  have hz : (w.alloc (.cells #[.int .i64 0, .int .i64 0, .int .i64 0, .string ⟨#[]⟩, .slice none 0 0] 26)).heap.size = w.heap.size + 1 := by simp
  go_enter Try.func15, Try.ntmps15
  go_wp2_with fail
  refine (s_l1New A n c b _ h0 hn).mono ?_; rintro r w1 ⟨rfl, hC, hb1⟩
  rw [hz] at hC ⊢
  go_wp2_with fail
  refine (s_l6Any _ _ n c A b _ hC).mono ?_; rintro r w2 ⟨t, u, rfl, hl, ho, ht, hC2, hf2⟩
  have hB2 := Blk.fr_' (hB.below hb1 hB.lt) hf2 (by simp)
  have hul : u.n = t.l.length := ((lsAt_iff _ _).1 hl).1.symm
  obtain ⟨x0, x1, x2, x3, x4, ⟨s0, t0⟩, ⟨s1, t1⟩, ⟨s2, t2⟩, ⟨s3, t3⟩, s4, t4⟩ := hB2.five (o := 0) (by simp) (.int .i64 t.k) (.int .i64 t.n) (.int .i64 t.x) (.string t.s)
  have hE := hB2.five_ t u
  have hK := below_set5 (o := 0) (t := t) (e := u) ((k0.up hb1).trans (hf2.up (Nat.le_succ _) (k0.up hb1).size)) (Nat.le_refl w.heap.size)
  have HUL := Lib.hid hul
  clear hl ho hul
  go_wp2_with fail
  exact bodyPost_ret (results_blk Try.results15 Try.isAgg26 (by exact Try.sizeOf26) rfl hE) rfl ⟨t, u, rfl, ht, HUL.out, hK⟩
set_option maxHeartbeats 2000000 in
theorem s_DrawSigned (A : Option Addr) (n c : Nat) (b : List UInt8) (w : World) (h : Sl w w.heap.size 1 A n c (u8s b)) (hn : n ≤ 1048576) :
    Calls Try.prog 16 #[.slice A n c] w fun r w' => ∃ x y : Int, r = .returned (.tuple #[.int .i64 x, .int .i64 y]) ∧ x ∈ [0, 127, 128, 255, 32767, 32768, 65535, 2147483648, 4294967295, -1] ∧ y ∈ [1, 2, 4, 8] ∧ Below w.heap.size w w' := by
  go_enter Try.func16, Try.ntmps16
  go_wp2_with fail
  refine (s_l1New A n c b _ h hn).mono ?_; rintro r w1 ⟨rfl, hC1, hb1⟩
  go_wp2_with fail
  refine (s_l1Int _ _ n c A b (some ⟨w1.heap.size, 0, none⟩) 10 10 [0, 127, 128, 255, 32767, 32768, 65535, 2147483648, 4294967295, -1] _ (hC1.below (Below.one _ _)) (by exact i64s_lit _ _ [0, 127, 128, 255, 32767, 32768, 65535, 2147483648, 4294967295, -1] _ rfl (by exact Nat.le_of_ble_eq_true rfl)) (lit_ne hC1.lt) (by decide)).mono ?_; rintro r w2 ⟨z2, rfl, hz2, hC2, hf2⟩
  have hF2 := (Fr.of_below (fp := [w.heap.size]) (Below.one w1 (.cells #[.int .i64 0, .int .i64 127, .int .i64 128, .int .i64 255, .int .i64 32767, .int .i64 32768, .int .i64 65535, .int .i64 2147483648, .int .i64 4294967295, .int .i64 (-1)] 3))).trans hf2
  go_wp2_with fail
  refine (s_l1Int _ _ n c A b (some ⟨w2.heap.size, 0, none⟩) 4 4 [1, 2, 4, 8] _ (hC2.below (Below.one _ _)) (by exact i64s_lit _ _ [1, 2, 4, 8] _ rfl (by exact Nat.le_of_ble_eq_true rfl)) (lit_ne hC2.lt) (by decide)).mono ?_; rintro r w3 ⟨z3, rfl, hz3, hC3, hf3⟩
  have hF3 := (Fr.of_below (fp := [w.heap.size]) (Below.one w2 (.cells #[.int .i64 1, .int .i64 2, .int .i64 4, .int .i64 8] 3))).trans hf3
  have hzz : z2 ∈ ([0, 127, 128, 255, 32767, 32768, 65535, 2147483648, 4294967295, -1] : List Int) := hz2
  have hzy : z3 ∈ ([1, 2, 4, 8] : List Int) := hz3
  clear hz2 hz3
  go_wp2_with fail
  exact bodyPost_ret (results_tmp2 Try.results16 _ _ _) rfl ⟨_, _, rfl, hzz, hzy, hb1.trans ((hF2.trans hF3).up (Nat.le_refl _) hb1.size)⟩
end Go.Proofs.Ytihhedmehlemmaa

namespace Go.Proofs.Ytihhedmehlemmaa
open Go.RowKit

/-- Bytes and a place in them. -/
def GetDrawnM (w w' : World) (r : Ending) : Prop := ∃ (A' : Option Addr) (k c' : Nat) (l : List UInt8) (x : Int), r = .returned (.tuple #[.slice A' k c', .int .i64 x]) ∧ Sl w' w'.heap.size 1 A' k c' (u8s l) ∧ k ≤ 1000 ∧ (-1 ≤ x ∧ x ≤ 9) ∧ Below w.heap.size w w'
theorem u8w_two (x : Int) : 0 ≤ IntKind.u8.wrap x ∧ IntKind.u8.wrap x < 256 := by rw [IntKind.wrap_u8]; omega
theorem litBS (w : World) (x : Int) (h : 0 ≤ x ∧ x < 256) : BS (w.alloc (.cells #[.int .u8 x] 5)) w.heap.size (some ⟨w.heap.size, 0, none⟩) 1 1 [UInt8.ofNat x.toNat] := by
  have h1 : (w.alloc (.cells #[.int .u8 x] 5)).ownsRow w.heap.size 5 1 (.slice (some ⟨w.heap.size, 0, none⟩) 1 1) 1 (#[(.int .u8 x : Value)]).toList := World.ownsRow_lit w #[.int .u8 x] 1 (Nat.le_refl _) (by decide) rfl
  have e : (#[(.int .u8 x : Value)]).toList = u8s [UInt8.ofNat x.toNat] := (u8s_of1 (m1 := x.toNat) (by omega) (by omega))
  rw [e] at h1
  exact h1
set_option maxHeartbeats 4000000 in
theorem s_DrawGetMark (A : Option Addr) (n c : Nat) (b : List UInt8) (w : World) (h : Sl w w.heap.size 1 A n c (u8s b)) (hn : n ≤ 1048576) :
    Calls Try.prog 28 #[.slice A n c] w fun r w' => GetDrawnM w w' r := by
  go_enter Try.func28, Try.ntmps28
  go_wp2_with fail
  refine (s_l1New A n c b _ h hn).mono ?_; rintro r w1 ⟨rfl, hC, hb1⟩
  have hz1 := hb1.size
  go_wp2_with fail
  refine (s_l1Once _ _ n c A b 2 _ hC (by decide)).mono ?_; rintro r w2 ⟨o2, rfl, hC2, hf2⟩
  cases o2
  · go_wp2_with fail
    refine (s_l15Mark _ _ n c A b _ (hC2.below (Below.one _ _))).mono ?_; rintro r w3 ⟨x, y, rfl, hy, hC3, hf3⟩
    have hw2 : w.heap.size < w2.heap.size := hC2.lt
    have hz3 := hf3.size
    have hlit := (lit1 w2 1 (by decide)).heap_ (w' := w3) (fun k hk _ => hf3.block k (by simp [blkOf] at hk; subst hk; simp) (by simp [blkOf] at hk ⊢; omega))
    have hF3 := (hf2.trans (Fr.of_below (Below.one w2 (.cells #[.int .u8 1] 5)))).trans hf3
    go_wp2_with fail
    refine (s_PutMark _ 1 1 _ x y w3 _ hlit (by simpa using hz3) (by decide) hy.2).mono ?_; rintro r w4 ⟨A4, n4, c4, rfl, hB4, hb4⟩
    have hl4 := hB4.sl.blen
    have hl5 := markB_len x y
    rw [List.length_append] at hl4
    simp only [List.length_cons, List.length_nil] at hl4
    have hF4 := hF3.trans (Fr.of_below hb4)
    go_wp2_with fail
    refine (s_l1Bent _ _ n c A b A4 n4 c4 _ w4 (hC3.below hb4) hB4.sl (by omega)).mono ?_; rintro r w5 ⟨A5, k5, c5, l5, rfl, h5, hg5, hk5, hC5, hf5⟩
    have hF5 := hF4.trans hf5
    go_wp2_with fail
    refine (s_l1Int _ _ n c A b (some ⟨w5.heap.size, 0, none⟩) 6 6 [1, 1, 1, 0, 9, -1] _ (hC5.below (Below.one _ _)) (by exact i64s_lit _ _ [1, 1, 1, 0, 9, -1] _ rfl (by exact Nat.le_of_ble_eq_true rfl)) (lit_ne hC5.lt) (by decide)).mono ?_; rintro r w6 ⟨q, rfl, hq, hC6, hf6⟩
    have hqb : -1 ≤ q ∧ q ≤ 9 := by simp only [List.mem_cons, List.not_mem_nil, or_false] at hq; omega
    have hf56 := (Fr.of_below (fp := [w.heap.size]) (Below.one w5 (.cells #[.int .i64 1, .int .i64 1, .int .i64 1, .int .i64 0, .int .i64 9, .int .i64 (-1)] 3))).trans hf6
    have h6 := (h5.heap_ (w' := w6) (fun k hk hlt => hf56.block k hlt (by have := hg5 k hk; simp; omega))).more hf56.size
    go_wp2_with fail
    exact bodyPost_ret (results_tmp2 Try.results28 _ _ _) rfl ⟨A5, k5, c5, l5, q, rfl, h6, by omega, hqb, hb1.trans ((hF5.trans hf56).up (Nat.le_refl _) hz1)⟩
  · go_wp2_with fail
    refine (s_l1Below _ _ n c A b 40 _ hC2 (by decide)).mono ?_; rintro r w3 ⟨x, rfl, hx, hC3, hf3⟩
    have hF3 := hf2.trans hf3
    obtain ⟨x0, x1⟩ := hx.2 (by decide)
    clear hx
    have hB3 := litBS w3 (192 + x) (by omega)
    have hC3a := hC3.below (Below.one w3 (.cells #[.int .u8 (192 + x)] 5))
    have hF3a := hF3.trans (Fr.of_below (Below.one w3 (.cells #[.int .u8 (192 + x)] 5)))
    have hlo : w.heap.size < w3.heap.size := hC3.lt
    have hl1 : w1.heap.size ≤ w3.heap.size := hF3.size
    have hz3 : w3.heap.size ≤ (w3.alloc (.cells #[.int .u8 (192 + x)] 5)).heap.size := by simp
    go_wp2_with fail
    generalize w3.alloc (.cells #[.int .u8 (192 + x)] 5) = w3a at hB3 hC3a hF3a hz3 ⊢
    generalize w3.heap.size = lo at hB3 hlo hl1 hz3 ⊢
    generalize ([UInt8.ofNat (192 + x).toNat] : List UInt8) = l0 at hB3
    clear hC2 hC3 hf2 hf3 hF3
    refine (s_l1Below _ _ n c A b 9 _ hC3a (by decide)).mono ?_; rintro r w4 ⟨m, rfl, hm, hC4, hf4⟩
    obtain ⟨m0, m1⟩ := hm.2 (by decide)
    clear hm
    have hB4 := hB3.fr hf4 (fun k hk => by have := (hB3.lt (mem_blkOf.1 hk)).1; simp; omega)
    have hF4 := hF3a.trans hf4
    have hz4 := Nat.le_trans hz3 hf4.size
    clear hB3 hC3a hF3a hf4 hz3
    obtain ⟨mm, rfl⟩ : ∃ mm : Nat, m = mm := ⟨m.toNat, by omega⟩
    go_wp2_with fail
    go_loopg [5, 6] mm (fun f v5 v6 wr => ∃ (j : Nat) (A' : Option Addr) (c' : Nat) (l : List UInt8), j + f ≤ 10 ∧ v5 = .slice A' j c' ∧ v6 = .int .i64 f ∧ BS wr lo A' j c' l ∧ Cur wr w.heap.size w.heap.size A n c b ∧ Fr [w.heap.size] w1 wr ∧ lo ≤ wr.heap.size)
    case atStart => exact ⟨1, _, 1, l0, by omega, rfl, rfl, hB4, hC4, hF4, hz4⟩
    case round =>
      obtain ⟨j, A', c', l, hjf, rfl, rfl, hB, hC, hF, hz⟩ := hrel
      clear hB4 hC4 hF4 hz4
      cases gk with
      | zero =>
        go_wp2_with fail
        exact bodyPost_ret (results_tmp2 Try.results28 _ _ _) rfl ⟨A', j, c', l, 0, rfl, hB.sl, by omega, by decide, hb1.trans (hF.up (Nat.le_refl _) hz1)⟩
      | succ f =>
        have hpos : (0 : Int) < ((f + 1 : Nat) : Int) := by omega
        go_wp2_with fail
        refine (s_l1Int _ _ n c A b (some ⟨wr.heap.size, 0, none⟩) 5 5 [0, 0, 1, 128, 255] _ (hC.below (Below.one _ _)) (by exact i64s_lit _ _ [0, 0, 1, 128, 255] _ rfl (by exact Nat.le_of_ble_eq_true rfl)) (lit_ne hC.lt) (by decide)).mono ?_; rintro r w5 ⟨q, rfl, hq, hC5, hf5⟩
        have hqb : 0 ≤ q ∧ q < 256 := by simp only [List.mem_cons, List.not_mem_nil, or_false] at hq; omega
        clear hq
        have hB5 := (hB.alloc (.cells #[.int .i64 0, .int .i64 0, .int .i64 1, .int .i64 128, .int .i64 255] 3)).fr hf5 (fun k hk => by have := (hB.lt (mem_blkOf.1 hk)).1; simp; omega)
        have hF5 := (hF.trans (Fr.of_below (Below.one wr (.cells #[.int .i64 0, .int .i64 0, .int .i64 1, .int .i64 128, .int .i64 255] 3)))).trans hf5
        have hz5 : lo ≤ w5.heap.size := Nat.le_trans hz (Nat.le_trans (Below.one wr _).size hf5.size)
        have hFa := hF5.trans (Fr.of_below (Below.one w5 (.cells #[.int .u8 q] 5)))
        have hCa := hC5.below (Below.one w5 (.cells #[.int .u8 q] 5))
        go_wp2_with (at_builtin; refine app_u8 rfl _ _ rfl (hB5.alloc _) rfl (lit1 w5 _ (by omega)) rfl (by omega) (by simp; omega) ?_; intro A2 c2 w6 h6 hb6)
        go_roundg f
        case measure => omega
        case rel => exact ⟨j + 1, A2, c2, _, by omega, rfl, by go_num, h6, hCa.belowB hb6 hlo, hFa.onBelow (hb6.mono hl1), Nat.le_trans hz5 (Nat.le_trans (Below.one w5 _).size hb6.size)⟩
end Go.Proofs.Ytihhedmehlemmaa
