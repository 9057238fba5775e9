/- DrawPutHead, DrawHeadFor; same. -/
import Derived.Test.YtnfeplbdipajaaaCurHead
set_option linter.unusedVariables false
set_option maxRecDepth 100000
set_option linter.unusedSimpArgs false
namespace Go.Proofs.Ytnfeplbdipajaaa
open Go.RowKit

theorem s_DrawHeadFor (A : Option Addr) (n c : Nat) (b : List UInt8) (w : World) (h : Sl w w.heap.size 1 A n c (u8s b)) (hn : n ≤ 1048576) :
    Calls Try.prog 18 #[.slice A n c] w fun r w' => ∃ x y : Int, r = .returned (.tuple #[.int .i64 x, .int .i64 y]) ∧ y ≤ 9223372036854775807 ∧ Below w.heap.size w w' := by
  go_enter Try.func18, Try.ntmps18
  go_wp2_with fail
  refine (s_l1New A n c b _ h hn).mono ?_; rintro r w1 ⟨rfl, hC, hb1⟩
  go_wp2_with fail
  refine (s_l1Below _ _ n c A b 10 _ hC (by decide)).mono ?_; rintro r w2 ⟨x, rfl, hx, hC2, hf2⟩
  go_wp2_with fail
  refine (s_l1One _ _ n c A b _ hC2).mono ?_; rintro r w3 ⟨y, rfl, hy, hC3, hf3⟩
  go_wp2_with fail
  exact bodyPost_ret (results_tmp2 Try.results18 _ _ _) rfl ⟨_, _, rfl, hy, hb1.trans ((hf2.trans hf3).up (Nat.le_refl _) hb1.size)⟩
theorem results_tmp_blk {P : Program} {fn : Func} {p u : Tmp} {ty : TypeId} {tmps : Array Value} {w : World} {g : Nat} {t : TypeId} {cs : Array Value} (h : fn.results = #[.tmp u, .cell p ty])
    (ha : ∀ w, (isAgg ty).run P w = .ok true w) (hs : ∀ w, (sizeOf ty).run P w = .ok cs.size w) (hp : tmps.getD p undef = .pointer (some ⟨g, 0, none⟩)) (hb : Blk w g t cs) :
    (results fn tmps).run P w = .ok (.tuple #[tmps.getD u undef, .agg cs]) w := by
  have hl := run_loadVar_blk ha hs hb
  have hp2 : tmps[p]?.getD undef = .pointer (some ⟨g, 0, none⟩) := by simpa using hp
  simp [results, h, hp2, asAddr, Sem.run_bind, hl, Result.andThen]
def PutDrawn (w w' : World) (r : Ending) : Prop := ∃ (A' : Option Addr) (k c' : Nat) (l : List UInt8) (x y z : Int), r = .returned (.tuple #[.slice A' k c', .agg #[.int .i64 x, .int .i64 y, .int .i64 z]]) ∧ BS w' w.heap.size A' k c' l ∧ k ≤ 2 ∧ y ≤ 9223372036854775807 ∧ Below w.heap.size w w'
set_option maxHeartbeats 1000000 in
theorem s_DrawPutHead (A : Option Addr) (n c : Nat) (b : List UInt8) (w : World) (h : Sl w w.heap.size 1 A n c (u8s b)) (hn : n ≤ 1048576) :
    Calls Try.prog 16 #[.slice A n c] w fun r w' => PutDrawn w w' r := by
  have k0 := Below.one w (.cells #[.int .i64 0, .int .i64 0, .int .i64 0] 33)
  have h0 : Sl (w.alloc (.cells #[.int .i64 0, .int .i64 0, .int .i64 0] 33)) (w.alloc (.cells #[.int .i64 0, .int .i64 0, .int .i64 0] 33)).heap.size 1 A n c (u8s b) := (h.alloc (Nat.le_refl _) _).more (by simp)
  have hB := Blk.new w 33 #[.int .i64 0, .int .i64 0, .int .i64 0]
  have hz : (w.alloc (.cells #[.int .i64 0, .int .i64 0, .int .i64 0] 33)).heap.size = w.heap.size + 1 := by simp
  go_enter Try.func16, Try.ntmps16
  go_wp2_with fail
  refine (s_l1New A n c b _ h0 hn).mono ?_; rintro r w1 ⟨rfl, hC, hb1⟩
  rw [hz] at hC ⊢
  have k1 := k0.up hb1
  have hB1 := hB.below hb1 hB.lt
  go_wp2_with fail
  refine (s_l1Below _ _ n c A b 3 _ hC (by decide)).mono ?_; rintro r w2 ⟨x, rfl, hx, hC2, hf2⟩
  have hxb := hx.2 (by decide)
  go_wp2_with fail
  refine (s_l1Bytes _ _ n c A b x _ hC2 (by omega)).mono ?_; rintro r w3 ⟨A3, k3, c3, l3, rfl, hB3, hk3, hC3, hf3⟩
  go_wp2_with fail
  refine (s_l12Any _ _ n c A b _ hC3).mono ?_; rintro r w4 ⟨x4, y4, z4, rfl, hy4, hC4, hf4⟩
  have hz1 := k1.size
  have hgl := hC2.lt
  have hB4 := hB3.fr hf4 (fun k hk => by have := (hB3.lt (mem_blkOf.1 hk)).1; simp; omega)
  have hF := (hf2.trans hf3).trans hf4
  have hB5 := Blk.fr_' hB1 hF (by simp)
  obtain ⟨⟨r0, r3⟩, ⟨r1, r4⟩, r2, r5⟩ := Blk.at3 hB5
  have k4 := k1.trans (hF.up (Nat.le_succ _) k1.size)
  have hB6 : BS w4 w.heap.size A3 k3 c3 l3 := own_mono hB4 (Nat.le_trans k1.size hf2.size)
  have hne : ∀ k ∈ blkOf A3, k ≠ w.heap.size := fun k hk => by have := (hB4.lt (mem_blkOf.1 hk)).1; have := hf2.size; have := hB1.lt; omega
  have HB : ∀ a b c, BS (((w4.setCell ⟨w.heap.size, 0, none⟩ a).setCell ⟨w.heap.size, 1, none⟩ b).setCell ⟨w.heap.size, 2, none⟩ c) w.heap.size A3 k3 c3 l3 := fun a b c => hB6.fr (fp := [w.heap.size]) ((((Fr.refl _ _).setCell (by simp) _).setCell (by simp) _).setCell (by simp) _) (fun k hk => by simpa using hne k hk)
  have HK : ∀ a b c, Below w.heap.size w (((w4.setCell ⟨w.heap.size, 0, none⟩ a).setCell ⟨w.heap.size, 1, none⟩ b).setCell ⟨w.heap.size, 2, none⟩ c) := fun a b c => ((k4.setCell (by exact Nat.le_refl _) _).setCell (by exact Nat.le_refl _) _).setCell (by exact Nat.le_refl _) _
  go_wp2_with fail
  exact bodyPost_ret (results_tmp_blk Try.results16 Try.isAgg33 (by exact Try.sizeOf33) rfl (hB5.three _ _ _)) rfl ⟨A3, k3, c3, l3, _, _, _, rfl, HB _ _ _, by omega, hy4, HK _ _ _⟩
theorem take_eq_step {a b : List UInt8} {k : Nat} (h : a.take k = b.take k) (ha : k < a.length) (hb : k < b.length) (e : a[k] = b[k]) : a.take (k + 1) = b.take (k + 1) := by
  rw [List.take_succ_eq_append_getElem ha, List.take_succ_eq_append_getElem hb, h, e]
set_option maxHeartbeats 400000 in
theorem l_same (A1 : Option Addr) (n1 c1 : Nat) (b1 : List UInt8) (A2 : Option Addr) (n2 c2 : Nat) (b2 : List UInt8) (w : World) (B : Nat) (h1 : Sl w B 1 A1 n1 c1 (u8s b1)) (h2 : Sl w B 1 A2 n2 c2 (u8s b2)) :
    Calls Try.prog 23 #[.slice A1 n1 c1, .slice A2 n2 c2] w fun e w' => e = .returned (.bool (decide (b1 = b2))) ∧ Drawn w w' := by
  have l1 := h1.blen
  have l2 := h2.blen
  have m1 := h1.cap
  have m2 := h1.max
  unfold maxLen at m2
  by_cases hn : n1 = n2
  · subst hn
    go_enter Try.func23, Try.ntmps23
    go_wp2
    go_loopw [5] (fun i wr => ∃ k : Nat, k ≤ n1 ∧ i = .int .i64 k ∧ b1.take k = b2.take k ∧ Drawn w wr) (fun i _ => n1 - (intOf i).toNat)
    case atStart => exact ⟨0, Nat.zero_le _, rfl, rfl, Drawn.refl _⟩
    case round =>
      obtain ⟨k, hk, rfl, HE, hd⟩ := hrel
      have he := Lib.hid HE; clear HE
      by_cases hlt : k < n1
      · obtain ⟨g, o, rfl, hg, hkb, hc⟩ := (hd.sl h1).byte hlt
        obtain ⟨g', o', rfl, hg', hkb', hc'⟩ := (hd.sl h2).byte hlt
        by_cases hcc : b1[k] = b2[k]
        · have hne : ((b1[k].toNat : Int) != (b2[k].toNat : Int)) = false := by rw [hcc]; simp
          have hcc' := Lib.hid hcc; clear hcc
          go_wp2
          go_quiet (fail)
          go_wp2
          go_roundw
          case rel => exact ⟨k + 1, by omega, by go_num, take_eq_step he.out (by omega) (by omega) hcc'.out, hd.drewN _⟩
          case measure => simp [intOf]; omega
        · have hne : ((b1[k].toNat : Int) != (b2[k].toNat : Int)) = true := by
            simp only [bne_iff_ne, ne_eq, Int.natCast_inj]; exact fun e => hcc (UInt8.toNat_inj.1 e)
          go_wp2
          go_quiet (fail)
          go_wp2
          go_ret
          refine ⟨ret_bool ?_, hd.drewN _⟩
          rw [eq_comm, decide_eq_false_iff_not]
          rintro rfl
          exact hcc rfl
      · go_wp2
        go_ret
        refine ⟨ret_bool ?_, hd⟩
        have e := he.out
        rw [List.take_of_length_le (by omega), List.take_of_length_le (by omega)] at e
        rw [e]; simp
  · have hne : ((n1 : Int) != n2) = true := by simp; omega
    go_enter Try.func23, Try.ntmps23
    go_wp2
    go_ret
    refine ⟨ret_bool ?_, Drawn.refl _⟩
    rw [eq_comm, decide_eq_false_iff_not]
    rintro rfl
    omega
end Go.Proofs.Ytnfeplbdipajaaa
