/- PutMark and SizeMark: impl and spec. -/
import Derived.Test.YtihhedmehlemmaaMkPutInt
import Derived.Test.YtihhedmehlemmaaMkM31
import Derived.Deep.RegionHeld3
set_option linter.unusedVariables false
set_option maxRecDepth 100000
set_option linter.unusedSimpArgs false
namespace Go.Proofs.Ytihhedmehlemmaa
open Go.RowKit

def markB (k n : Int) : List UInt8 :=
  if markOk k n = true then
    (if k = 1 then [192] else if k = 2 then [UInt8.ofNat (194 + n).toNat] else if k = 3 then intB n else if k = 4 then 202 :: putBig n 4 else if k = 5 then [212, 1, UInt8.ofNat n.toNat]
     else if k = 7 then manyB 32 160 217 218 n else if k = 8 then manyB 0 0 196 197 n else if k = 9 then manyB 16 144 0 220 n else manyB 16 128 0 222 n)
  else []
theorem markB_no {k n : Int} (h : markOk k n = false) : markB k n = [] := by unfold markB; rw [h]; rfl
theorem markB_yes {k n : Int} {x : List UInt8} (h : markOk k n = true) (hx : (if k = 1 then [192] else if k = 2 then [UInt8.ofNat (194 + n).toNat] else if k = 3 then intB n else if k = 4 then 202 :: putBig n 4 else if k = 5 then [212, 1, UInt8.ofNat n.toNat]
     else if k = 7 then manyB 32 160 217 218 n else if k = 8 then manyB 0 0 196 197 n else if k = 9 then manyB 16 144 0 220 n else manyB 16 128 0 222 n) = x) : markB k n = x := by unfold markB; rw [if_pos h, hx]
theorem putBig_len8 (n w : Int) : (putBig n w).length ≤ 8 := by
  unfold putBig; split
  · rename_i h
    rw [beI_len]
    have := h.1
    simp only [isW, decide_eq_true_eq] at this
    omega
  · simp
theorem intB_len (n : Int) : (intB n).length ≤ 9 := by
  unfold intB; (repeat' split) <;> simp [beI_len]
  exact putBig_len8 _ _
theorem manyB_len (a b c d n : Int) : (manyB a b c d n).length ≤ 9 := by
  unfold manyB; (repeat' split) <;> simp <;> exact putBig_len8 _ _
theorem markB_len (k n : Int) : (markB k n).length ≤ 9 := by
  unfold markB
  have h1 := intB_len n
  have h2 := putBig_len8 n 4
  have h3 := fun a b c d => manyB_len a b c d n
  (repeat' split) <;> first | exact h1 | exact h3 _ _ _ _ | (simp; done) | (simp; omega)
theorem markOk_cases {k n : Int} (h : markOk k n = true) : (k = 1 ∧ n = 0) ∨ (k = 2 ∧ 0 ≤ n ∧ n ≤ 1) ∨ (k = 3 ∧ -1000000000000000 ≤ n ∧ n ≤ 1000000000000000) ∨ k = 4 ∨ (k = 5 ∧ 0 ≤ n ∧ n ≤ 2) ∨ (k = 7 ∧ 0 ≤ n ∧ n ≤ 65535) ∨ (k = 8 ∧ 0 ≤ n ∧ n ≤ 65535) ∨ (k = 9 ∧ 0 ≤ n ∧ n ≤ 65535) ∨ (k = 10 ∧ 0 ≤ n ∧ n ≤ 65535) := by
  unfold markOk at h
  (repeat' split at h) <;> first | omega | (simp [inR] at h; done) | (simp [inR] at h; omega)
set_option maxHeartbeats 1600000 in
theorem i_PutMark (A : Option Addr) (m c : Nat) (b : List UInt8) (k n : Int) (w : World) (B : Nat) (h : Sl w B 1 A m c (u8s b)) (hB : B ≤ w.heap.size) (hm : m ≤ 137438953472) (hn : n ≤ 9223372036854775807) :
    Calls Try.prog 14 #[.slice A m c, .agg #[.int .i64 k, .int .i64 n]] w fun e w' => ∃ A' n' c', e = .returned (.slice A' n' c') ∧ BS w' w.heap.size A' n' c' (b ++ markB k n) ∧ Below w.heap.size w w' := by
  have h' : ∀ o o', Sl ((w.alloc o).alloc o') B 1 A m c (u8s b) := fun o o' => (h.alloc hB _).alloc (by simp; omega) _
  cases hk : markOk k n
  · have HM := Lib.hid (markB_no hk)
    have HK := Lib.hid hk; clear hk
    go_enter Try.func14, Try.ntmps14
    go_wp2_with (at_builtin; refine app_u8 rfl _ _ rfl (BS.new' (w.alloc (.cells #[.int .i64 k, .int .i64 n] 36)) (w.heap.size + 1) (by simp)) rfl (h' _ _) rfl (by omega) (by simp) ?_; intro A1 c1 w1 h1 hb1; rw [Nat.zero_add, List.nil_append] at h1; obtain ⟨B1, k1⟩ := blkU hb1; obtain ⟨⟨q0, q1⟩, -⟩ := B1.box2 (Below.refl _ _))
    refine (i_MarkOk _ _ _).mono ?_; rintro e w2 ⟨rfl, hb2⟩
    rw [HK.out]
    have B2 := B1.below hb2 B1.lt
    have h2 := h1.below hb2
    have k2 := k1.up hb2
    have z2 : w.heap.size + 1 ≤ w2.heap.size := B2.lt
    clear hb1 hb2 h1 k1 q0 q1 B1
    obtain ⟨⟨q0, q1⟩, -⟩ := B2.box2 (Below.refl _ _)
    go_wp2_with fail
    go_ret
    exact ⟨_, _, _, rfl, by rw [HM.out, List.append_nil]; exact h2.mono (Nat.le_succ _), k2⟩
  · rcases markOk_cases hk with ⟨rfl, rfl⟩ | ⟨rfl, hr⟩ | ⟨rfl, hr⟩ | rfl | ⟨rfl, hr⟩ | ⟨rfl, hr⟩ | ⟨rfl, hr⟩ | ⟨rfl, hr⟩ | ⟨rfl, hr⟩
    · have HM := Lib.hid (markB_yes hk rfl)
      have HK := Lib.hid hk; clear hk
      go_enter Try.func14, Try.ntmps14
      go_wp2_with (at_builtin; refine app_u8 rfl _ _ rfl (BS.new' (w.alloc (.cells #[.int .i64 1, .int .i64 0] 36)) (w.heap.size + 1) (by simp)) rfl (h' _ _) rfl (by omega) (by simp) ?_; intro A1 c1 w1 h1 hb1; rw [Nat.zero_add, List.nil_append] at h1; obtain ⟨B1, k1⟩ := blkU hb1; obtain ⟨⟨q0, q1⟩, -⟩ := B1.box2 (Below.refl _ _))
      refine (i_MarkOk _ _ _).mono ?_; rintro e w2 ⟨rfl, hb2⟩
      rw [HK.out]
      have B2 := B1.below hb2 B1.lt
      have h2 := h1.below hb2
      have k2 := k1.up hb2
      have z2 : w.heap.size + 1 ≤ w2.heap.size := B2.lt
      clear hb1 hb2 h1 k1 q0 q1 B1
      obtain ⟨⟨q0, q1⟩, -⟩ := B2.box2 (Below.refl _ _)
      go_wp2_with (at_builtin; refine app_u8 rfl _ _ rfl (h2.alloc _) rfl (lit1 w2 _ (by decide)) rfl (by omega) (by simp; omega) ?_; intro A3 c3 w3 h3 hb3)
      go_ret
      exact ⟨_, _, _, rfl, by rw [HM.out]; exact h3.mono (Nat.le_succ _), k2.trans (((Below.one w2 _).mono (by omega)).trans (hb3.mono (Nat.le_succ _)))⟩
    · have HM := Lib.hid (markB_yes hk rfl)
      have HK := Lib.hid hk; clear hk
      go_enter Try.func14, Try.ntmps14
      go_wp2_with (at_builtin; refine app_u8 rfl _ _ rfl (BS.new' (w.alloc (.cells #[.int .i64 2, .int .i64 n] 36)) (w.heap.size + 1) (by simp)) rfl (h' _ _) rfl (by omega) (by simp) ?_; intro A1 c1 w1 h1 hb1; rw [Nat.zero_add, List.nil_append] at h1; obtain ⟨B1, k1⟩ := blkU hb1; obtain ⟨⟨q0, q1⟩, -⟩ := B1.box2 (Below.refl _ _))
      refine (i_MarkOk _ _ _).mono ?_; rintro e w2 ⟨rfl, hb2⟩
      rw [HK.out]
      have B2 := B1.below hb2 B1.lt
      have h2 := h1.below hb2
      have k2 := k1.up hb2
      have z2 : w.heap.size + 1 ≤ w2.heap.size := B2.lt
      clear hb1 hb2 h1 k1 q0 q1 B1
      obtain ⟨⟨q0, q1⟩, -⟩ := B2.box2 (Below.refl _ _)
      go_wp2_with (at_builtin; refine app_u8 rfl _ _ rfl (h2.alloc _) rfl (lit1 w2 _ (by omega)) rfl (by omega) (by simp; omega) ?_; intro A3 c3 w3 h3 hb3)
      go_ret
      exact ⟨_, _, _, rfl, by rw [HM.out]; exact h3.mono (Nat.le_succ _), k2.trans (((Below.one w2 _).mono (by omega)).trans (hb3.mono (Nat.le_succ _)))⟩
    · have HM := Lib.hid (markB_yes hk rfl)
      have HK := Lib.hid hk; clear hk
      go_enter Try.func14, Try.ntmps14
      go_wp2_with (at_builtin; refine app_u8 rfl _ _ rfl (BS.new' (w.alloc (.cells #[.int .i64 3, .int .i64 n] 36)) (w.heap.size + 1) (by simp)) rfl (h' _ _) rfl (by omega) (by simp) ?_; intro A1 c1 w1 h1 hb1; rw [Nat.zero_add, List.nil_append] at h1; obtain ⟨B1, k1⟩ := blkU hb1; obtain ⟨⟨q0, q1⟩, -⟩ := B1.box2 (Below.refl _ _))
      refine (i_MarkOk _ _ _).mono ?_; rintro e w2 ⟨rfl, hb2⟩
      rw [HK.out]
      have B2 := B1.below hb2 B1.lt
      have h2 := h1.below hb2
      have k2 := k1.up hb2
      have z2 : w.heap.size + 1 ≤ w2.heap.size := B2.lt
      clear hb1 hb2 h1 k1 q0 q1 B1
      obtain ⟨⟨q0, q1⟩, -⟩ := B2.box2 (Below.refl _ _)
      go_wp2_with fail
      refine (i_putInt A1 m c1 b n w2 _ h2 z2 (by omega) hr).mono ?_; rintro e w3 ⟨A3, n3, c3, rfl, h3, hb3⟩
      go_wp2_with fail
      go_ret
      exact ⟨_, _, _, rfl, by rw [HM.out]; exact h3.mono (Nat.le_succ _), k2.trans (hb3.mono (Nat.le_succ _))⟩
    · have HM := Lib.hid (markB_yes hk rfl)
      have HK := Lib.hid hk; clear hk
      go_enter Try.func14, Try.ntmps14
      go_wp2_with (at_builtin; refine app_u8 rfl _ _ rfl (BS.new' (w.alloc (.cells #[.int .i64 4, .int .i64 n] 36)) (w.heap.size + 1) (by simp)) rfl (h' _ _) rfl (by omega) (by simp) ?_; intro A1 c1 w1 h1 hb1; rw [Nat.zero_add, List.nil_append] at h1; obtain ⟨B1, k1⟩ := blkU hb1; obtain ⟨⟨q0, q1⟩, -⟩ := B1.box2 (Below.refl _ _))
      refine (i_MarkOk _ _ _).mono ?_; rintro e w2 ⟨rfl, hb2⟩
      rw [HK.out]
      have B2 := B1.below hb2 B1.lt
      have h2 := h1.below hb2
      have k2 := k1.up hb2
      have z2 : w.heap.size + 1 ≤ w2.heap.size := B2.lt
      clear hb1 hb2 h1 k1 q0 q1 B1
      obtain ⟨⟨q0, q1⟩, -⟩ := B2.box2 (Below.refl _ _)
      have hS0 := fun (w' : World) (hb : Below (w.heap.size + 1) w2 w') => B2.boxL2 (Nat.lt_succ_self _) hb
      have hS1 := fun (w' : World) (o : Obj) (h : BoxL2 w2 (w.heap.size + 1) w.heap.size (.int .i64 4) (.int .i64 n) w') => B2.boxL2 (Nat.lt_succ_self _) (h.2.alloc (Nat.le_trans z2 h.2.size) o)
      have hS4 := fun (w' : World) (o : Obj) (h : BoxL2 w2 (w.heap.size + 1) w.heap.size (.int .i64 4) (.int .i64 n) w'.drew) => B2.boxL2 (Nat.lt_succ_self _) (((below_undrew h.2).alloc (Nat.le_trans z2 h.2.size) o).drew)
      have hS2 := fun (w' w'' : World) (h : BoxL2 w2 (w.heap.size + 1) w.heap.size (.int .i64 4) (.int .i64 n) w') (hb : Below (w.heap.size + 1) w' w'') => B2.boxL2 (Nat.lt_succ_self _) (h.2.trans hb)
      have hS3 := fun (w' w'' : World) (h : BoxL2 w2 (w.heap.size + 1) w.heap.size (.int .i64 4) (.int .i64 n) w') (hb : Below w'.heap.size w' w'') => B2.boxL2 (Nat.lt_succ_self _) (h.2.trans (hb.mono (Nat.le_trans z2 h.2.size)))
      have hSz := fun (w' : World) (h : BoxL2 w2 (w.heap.size + 1) w.heap.size (.int .i64 4) (.int .i64 n) w') => Nat.le_trans z2 h.2.size
      clear B2
      go_wp2_with fail
      go_region_held3 (fun w' => BoxL2 w2 (w.heap.size + 1) w.heap.size (.int .i64 4) (.int .i64 n) w')
        (first | exact hS0 _ (Below.refl _ _).drew | (refine hS1 _ _ ?_; assumption) | (refine hS4 _ _ ?_; assumption) | (refine hS2 _ _ ?_ hbA; assumption) | (refine hS3 _ _ ?_ hb5; assumption))
        (first
          | (refine app_u8s rfl (.tmp 37) (.tmp 38) rfl (h2.alloc _).drew rfl (lit1 w2 _ (by decide)).drew rfl ?hn ?hb ?_
             case hn => omega
             case hb => exact hSz _ (by assumption)
             intro A3 c3 w3 h3 hbA)
          | (go_simp; go_at_call 43; refine (i_PutBig A3 (m + 1) c3 _ n 4 _ _ h3.sl (Nat.le_refl _) (by omega) hn).mono ?_; rintro e w5 ⟨A5, n5, c5, rfl, h5, hb5⟩))
      rename_i hHeld
      have kb := hHeld.2
      have z3 := hbA.size
      clear hS0 hS1 hS2 hS3 hS4 hSz hHeld
      go_wp2_with fail
      go_ret
      exact ⟨_, _, _, rfl, by rw [HM.out]; exact (show BS w5 _ A5 n5 c5 (b ++ ([202] ++ putBig n 4)) from by rw [← List.append_assoc]; exact h5).mono (by simp at z3; omega), k2.trans (kb.mono (Nat.le_succ _))⟩
    · have HM := Lib.hid (markB_yes hk rfl)
      have HK := Lib.hid hk; clear hk
      go_enter Try.func14, Try.ntmps14
      go_wp2_with (at_builtin; refine app_u8 rfl _ _ rfl (BS.new' (w.alloc (.cells #[.int .i64 5, .int .i64 n] 36)) (w.heap.size + 1) (by simp)) rfl (h' _ _) rfl (by omega) (by simp) ?_; intro A1 c1 w1 h1 hb1; rw [Nat.zero_add, List.nil_append] at h1; obtain ⟨B1, k1⟩ := blkU hb1; obtain ⟨⟨q0, q1⟩, -⟩ := B1.box2 (Below.refl _ _))
      refine (i_MarkOk _ _ _).mono ?_; rintro e w2 ⟨rfl, hb2⟩
      rw [HK.out]
      have B2 := B1.below hb2 B1.lt
      have h2 := h1.below hb2
      have k2 := k1.up hb2
      have z2 : w.heap.size + 1 ≤ w2.heap.size := B2.lt
      clear hb1 hb2 h1 k1 q0 q1 B1
      obtain ⟨⟨q0, q1⟩, -⟩ := B2.box2 (Below.refl _ _)
      go_wp2_with (at_builtin; refine app_u8 rfl _ _ rfl (h2.alloc _) rfl (lit3 w2 _ _ _ (by decide) (by decide) (by omega)) rfl (by omega) (by simp; omega) ?_; intro A3 c3 w3 h3 hb3)
      go_ret
      exact ⟨_, _, _, rfl, by rw [HM.out]; exact h3.mono (Nat.le_succ _), k2.trans (((Below.one w2 _).mono (by omega)).trans (hb3.mono (Nat.le_succ _)))⟩
    · have HM := Lib.hid (markB_yes hk rfl)
      have HK := Lib.hid hk; clear hk
      go_enter Try.func14, Try.ntmps14
      go_wp2_with (at_builtin; refine app_u8 rfl _ _ rfl (BS.new' (w.alloc (.cells #[.int .i64 7, .int .i64 n] 36)) (w.heap.size + 1) (by simp)) rfl (h' _ _) rfl (by omega) (by simp) ?_; intro A1 c1 w1 h1 hb1; rw [Nat.zero_add, List.nil_append] at h1; obtain ⟨B1, k1⟩ := blkU hb1; obtain ⟨⟨q0, q1⟩, -⟩ := B1.box2 (Below.refl _ _))
      refine (i_MarkOk _ _ _).mono ?_; rintro e w2 ⟨rfl, hb2⟩
      rw [HK.out]
      have B2 := B1.below hb2 B1.lt
      have h2 := h1.below hb2
      have k2 := k1.up hb2
      have z2 : w.heap.size + 1 ≤ w2.heap.size := B2.lt
      clear hb1 hb2 h1 k1 q0 q1 B1
      obtain ⟨⟨q0, q1⟩, -⟩ := B2.box2 (Below.refl _ _)
      go_wp2_with fail
      refine (i_putMany A1 m c1 b 32 160 217 218 n w2 _ h2 z2 (by omega) hr (by decide) (by decide) (by decide)).mono ?_; rintro e w3 ⟨A3, n3, c3, rfl, h3, hb3⟩
      go_wp2_with fail
      go_ret
      exact ⟨_, _, _, rfl, by rw [HM.out]; exact h3.mono (Nat.le_succ _), k2.trans (hb3.mono (Nat.le_succ _))⟩
    · have HM := Lib.hid (markB_yes hk rfl)
      have HK := Lib.hid hk; clear hk
      go_enter Try.func14, Try.ntmps14
      go_wp2_with (at_builtin; refine app_u8 rfl _ _ rfl (BS.new' (w.alloc (.cells #[.int .i64 8, .int .i64 n] 36)) (w.heap.size + 1) (by simp)) rfl (h' _ _) rfl (by omega) (by simp) ?_; intro A1 c1 w1 h1 hb1; rw [Nat.zero_add, List.nil_append] at h1; obtain ⟨B1, k1⟩ := blkU hb1; obtain ⟨⟨q0, q1⟩, -⟩ := B1.box2 (Below.refl _ _))
      refine (i_MarkOk _ _ _).mono ?_; rintro e w2 ⟨rfl, hb2⟩
      rw [HK.out]
      have B2 := B1.below hb2 B1.lt
      have h2 := h1.below hb2
      have k2 := k1.up hb2
      have z2 : w.heap.size + 1 ≤ w2.heap.size := B2.lt
      clear hb1 hb2 h1 k1 q0 q1 B1
      obtain ⟨⟨q0, q1⟩, -⟩ := B2.box2 (Below.refl _ _)
      go_wp2_with fail
      refine (i_putMany A1 m c1 b 0 0 196 197 n w2 _ h2 z2 (by omega) hr (by decide) (by decide) (by decide)).mono ?_; rintro e w3 ⟨A3, n3, c3, rfl, h3, hb3⟩
      go_wp2_with fail
      go_ret
      exact ⟨_, _, _, rfl, by rw [HM.out]; exact h3.mono (Nat.le_succ _), k2.trans (hb3.mono (Nat.le_succ _))⟩
    · have HM := Lib.hid (markB_yes hk rfl)
      have HK := Lib.hid hk; clear hk
      go_enter Try.func14, Try.ntmps14
      go_wp2_with (at_builtin; refine app_u8 rfl _ _ rfl (BS.new' (w.alloc (.cells #[.int .i64 9, .int .i64 n] 36)) (w.heap.size + 1) (by simp)) rfl (h' _ _) rfl (by omega) (by simp) ?_; intro A1 c1 w1 h1 hb1; rw [Nat.zero_add, List.nil_append] at h1; obtain ⟨B1, k1⟩ := blkU hb1; obtain ⟨⟨q0, q1⟩, -⟩ := B1.box2 (Below.refl _ _))
      refine (i_MarkOk _ _ _).mono ?_; rintro e w2 ⟨rfl, hb2⟩
      rw [HK.out]
      have B2 := B1.below hb2 B1.lt
      have h2 := h1.below hb2
      have k2 := k1.up hb2
      have z2 : w.heap.size + 1 ≤ w2.heap.size := B2.lt
      clear hb1 hb2 h1 k1 q0 q1 B1
      obtain ⟨⟨q0, q1⟩, -⟩ := B2.box2 (Below.refl _ _)
      go_wp2_with fail
      refine (i_putMany A1 m c1 b 16 144 0 220 n w2 _ h2 z2 (by omega) hr (by decide) (by decide) (by decide)).mono ?_; rintro e w3 ⟨A3, n3, c3, rfl, h3, hb3⟩
      go_wp2_with fail
      go_ret
      exact ⟨_, _, _, rfl, by rw [HM.out]; exact h3.mono (Nat.le_succ _), k2.trans (hb3.mono (Nat.le_succ _))⟩
    · have HM := Lib.hid (markB_yes hk rfl)
      have HK := Lib.hid hk; clear hk
      go_enter Try.func14, Try.ntmps14
      go_wp2_with (at_builtin; refine app_u8 rfl _ _ rfl (BS.new' (w.alloc (.cells #[.int .i64 10, .int .i64 n] 36)) (w.heap.size + 1) (by simp)) rfl (h' _ _) rfl (by omega) (by simp) ?_; intro A1 c1 w1 h1 hb1; rw [Nat.zero_add, List.nil_append] at h1; obtain ⟨B1, k1⟩ := blkU hb1; obtain ⟨⟨q0, q1⟩, -⟩ := B1.box2 (Below.refl _ _))
      refine (i_MarkOk _ _ _).mono ?_; rintro e w2 ⟨rfl, hb2⟩
      rw [HK.out]
      have B2 := B1.below hb2 B1.lt
      have h2 := h1.below hb2
      have k2 := k1.up hb2
      have z2 : w.heap.size + 1 ≤ w2.heap.size := B2.lt
      clear hb1 hb2 h1 k1 q0 q1 B1
      obtain ⟨⟨q0, q1⟩, -⟩ := B2.box2 (Below.refl _ _)
      go_wp2_with fail
      refine (i_putMany A1 m c1 b 16 128 0 222 n w2 _ h2 z2 (by omega) hr (by decide) (by decide) (by decide)).mono ?_; rintro e w3 ⟨A3, n3, c3, rfl, h3, hb3⟩
      go_wp2_with fail
      go_ret
      exact ⟨_, _, _, rfl, by rw [HM.out]; exact h3.mono (Nat.le_succ _), k2.trans (hb3.mono (Nat.le_succ _))⟩
theorem i_SizeMark (k n : Int) (w : World) (hn : n ≤ 9223372036854775807) : Calls Try.prog 23 #[.agg #[.int .i64 k, .int .i64 n]] w fun e w' => e = .returned (.int .i64 (markB k n).length) ∧ Below w.heap.size w w' := by
  have hp := fun w1 => i_PutMark none 0 0 [] k n w1 0 (Sl.nil_ _ _ _) (Nat.zero_le _) (by decide) hn
  go_enter Try.func23, Try.ntmps23
  go_wp2_with (go_at_call 14; refine (hp _).mono ?_; rintro e w1 ⟨A1, n1, c1, rfl, h1, hb1⟩; have hl := h1.len; rw [List.nil_append] at hl; obtain rfl := hl)
  go_ret
  exact ⟨rfl, hb1.boxed⟩
set_option maxHeartbeats 1600000 in
theorem s_PutMark (A : Option Addr) (m c : Nat) (b : List UInt8) (k n : Int) (w : World) (B : Nat) (h : Sl w B 1 A m c (u8s b)) (hB : B ≤ w.heap.size) (hm : m ≤ 137438953472) (hn : n ≤ 9223372036854775807) :
    Calls Try.prog 18 #[.slice A m c, .agg #[.int .i64 k, .int .i64 n]] w fun e w' => ∃ A' n' c', e = .returned (.slice A' n' c') ∧ BS w' w.heap.size A' n' c' (b ++ markB k n) ∧ Below w.heap.size w w' := by
  have h' : ∀ o o', Sl ((w.alloc o).alloc o') B 1 A m c (u8s b) := fun o o' => (h.alloc hB _).alloc (by simp; omega) _
  cases hk : markOk k n
  · have HM := Lib.hid (markB_no hk)
    have HK := Lib.hid hk; clear hk
    go_enter Try.func18, Try.ntmps18
    go_wp2_with (at_builtin; refine app_u8 rfl _ _ rfl (BS.new' (w.alloc (.cells #[.int .i64 k, .int .i64 n] 36)) (w.heap.size + 1) (by simp)) rfl (h' _ _) rfl (by omega) (by simp) ?_; intro A1 c1 w1 h1 hb1; rw [Nat.zero_add, List.nil_append] at h1; obtain ⟨B1, k1⟩ := blkU hb1; obtain ⟨⟨q0, q1⟩, -⟩ := B1.box2 (Below.refl _ _))
    refine (s_MarkOk _ _ _).mono ?_; rintro e w2 ⟨rfl, hb2⟩
    rw [HK.out]
    have B2 := B1.below hb2 B1.lt
    have h2 := h1.below hb2
    have k2 := k1.up hb2
    have z2 : w.heap.size + 1 ≤ w2.heap.size := B2.lt
    clear hb1 hb2 h1 k1 q0 q1 B1
    obtain ⟨⟨q0, q1⟩, -⟩ := B2.box2 (Below.refl _ _)
    go_wp2_with fail
    go_ret
    exact ⟨_, _, _, rfl, by rw [HM.out, List.append_nil]; exact h2.mono (Nat.le_succ _), k2⟩
  · rcases markOk_cases hk with ⟨rfl, rfl⟩ | ⟨rfl, hr⟩ | ⟨rfl, hr⟩ | rfl | ⟨rfl, hr⟩ | ⟨rfl, hr⟩ | ⟨rfl, hr⟩ | ⟨rfl, hr⟩ | ⟨rfl, hr⟩
    · have HM := Lib.hid (markB_yes hk rfl)
      have HK := Lib.hid hk; clear hk
      go_enter Try.func18, Try.ntmps18
      go_wp2_with (at_builtin; refine app_u8 rfl _ _ rfl (BS.new' (w.alloc (.cells #[.int .i64 1, .int .i64 0] 36)) (w.heap.size + 1) (by simp)) rfl (h' _ _) rfl (by omega) (by simp) ?_; intro A1 c1 w1 h1 hb1; rw [Nat.zero_add, List.nil_append] at h1; obtain ⟨B1, k1⟩ := blkU hb1; obtain ⟨⟨q0, q1⟩, -⟩ := B1.box2 (Below.refl _ _))
      refine (s_MarkOk _ _ _).mono ?_; rintro e w2 ⟨rfl, hb2⟩
      rw [HK.out]
      have B2 := B1.below hb2 B1.lt
      have h2 := h1.below hb2
      have k2 := k1.up hb2
      have z2 : w.heap.size + 1 ≤ w2.heap.size := B2.lt
      clear hb1 hb2 h1 k1 q0 q1 B1
      obtain ⟨⟨q0, q1⟩, -⟩ := B2.box2 (Below.refl _ _)
      go_wp2_with (at_builtin; refine app_u8 rfl _ _ rfl (h2.alloc _) rfl (lit1 w2 _ (by decide)) rfl (by omega) (by simp; omega) ?_; intro A3 c3 w3 h3 hb3)
      go_ret
      exact ⟨_, _, _, rfl, by rw [HM.out]; exact h3.mono (Nat.le_succ _), k2.trans (((Below.one w2 _).mono (by omega)).trans (hb3.mono (Nat.le_succ _)))⟩
    · have HM := Lib.hid (markB_yes hk rfl)
      have HK := Lib.hid hk; clear hk
      go_enter Try.func18, Try.ntmps18
      go_wp2_with (at_builtin; refine app_u8 rfl _ _ rfl (BS.new' (w.alloc (.cells #[.int .i64 2, .int .i64 n] 36)) (w.heap.size + 1) (by simp)) rfl (h' _ _) rfl (by omega) (by simp) ?_; intro A1 c1 w1 h1 hb1; rw [Nat.zero_add, List.nil_append] at h1; obtain ⟨B1, k1⟩ := blkU hb1; obtain ⟨⟨q0, q1⟩, -⟩ := B1.box2 (Below.refl _ _))
      refine (s_MarkOk _ _ _).mono ?_; rintro e w2 ⟨rfl, hb2⟩
      rw [HK.out]
      have B2 := B1.below hb2 B1.lt
      have h2 := h1.below hb2
      have k2 := k1.up hb2
      have z2 : w.heap.size + 1 ≤ w2.heap.size := B2.lt
      clear hb1 hb2 h1 k1 q0 q1 B1
      obtain ⟨⟨q0, q1⟩, -⟩ := B2.box2 (Below.refl _ _)
      go_wp2_with (at_builtin; refine app_u8 rfl _ _ rfl (h2.alloc _) rfl (lit1 w2 _ (by omega)) rfl (by omega) (by simp; omega) ?_; intro A3 c3 w3 h3 hb3)
      go_ret
      exact ⟨_, _, _, rfl, by rw [HM.out]; exact h3.mono (Nat.le_succ _), k2.trans (((Below.one w2 _).mono (by omega)).trans (hb3.mono (Nat.le_succ _)))⟩
    · have HM := Lib.hid (markB_yes hk rfl)
      have HK := Lib.hid hk; clear hk
      go_enter Try.func18, Try.ntmps18
      go_wp2_with (at_builtin; refine app_u8 rfl _ _ rfl (BS.new' (w.alloc (.cells #[.int .i64 3, .int .i64 n] 36)) (w.heap.size + 1) (by simp)) rfl (h' _ _) rfl (by omega) (by simp) ?_; intro A1 c1 w1 h1 hb1; rw [Nat.zero_add, List.nil_append] at h1; obtain ⟨B1, k1⟩ := blkU hb1; obtain ⟨⟨q0, q1⟩, -⟩ := B1.box2 (Below.refl _ _))
      refine (s_MarkOk _ _ _).mono ?_; rintro e w2 ⟨rfl, hb2⟩
      rw [HK.out]
      have B2 := B1.below hb2 B1.lt
      have h2 := h1.below hb2
      have k2 := k1.up hb2
      have z2 : w.heap.size + 1 ≤ w2.heap.size := B2.lt
      clear hb1 hb2 h1 k1 q0 q1 B1
      obtain ⟨⟨q0, q1⟩, -⟩ := B2.box2 (Below.refl _ _)
      go_wp2_with fail
      refine (s_l15Int A1 m c1 b n w2 _ h2 z2 (by omega) hr).mono ?_; rintro e w3 ⟨A3, n3, c3, rfl, h3, hb3⟩
      go_wp2_with fail
      go_ret
      exact ⟨_, _, _, rfl, by rw [HM.out]; exact h3.mono (Nat.le_succ _), k2.trans (hb3.mono (Nat.le_succ _))⟩
    · have HM := Lib.hid (markB_yes hk rfl)
      have HK := Lib.hid hk; clear hk
      go_enter Try.func18, Try.ntmps18
      go_wp2_with (at_builtin; refine app_u8 rfl _ _ rfl (BS.new' (w.alloc (.cells #[.int .i64 4, .int .i64 n] 36)) (w.heap.size + 1) (by simp)) rfl (h' _ _) rfl (by omega) (by simp) ?_; intro A1 c1 w1 h1 hb1; rw [Nat.zero_add, List.nil_append] at h1; obtain ⟨B1, k1⟩ := blkU hb1; obtain ⟨⟨q0, q1⟩, -⟩ := B1.box2 (Below.refl _ _))
      refine (s_MarkOk _ _ _).mono ?_; rintro e w2 ⟨rfl, hb2⟩
      rw [HK.out]
      have B2 := B1.below hb2 B1.lt
      have h2 := h1.below hb2
      have k2 := k1.up hb2
      have z2 : w.heap.size + 1 ≤ w2.heap.size := B2.lt
      clear hb1 hb2 h1 k1 q0 q1 B1
      obtain ⟨⟨q0, q1⟩, -⟩ := B2.box2 (Below.refl _ _)
      have hS0 := fun (w' : World) (hb : Below (w.heap.size + 1) w2 w') => B2.boxL2 (Nat.lt_succ_self _) hb
      have hS1 := fun (w' : World) (o : Obj) (h : BoxL2 w2 (w.heap.size + 1) w.heap.size (.int .i64 4) (.int .i64 n) w') => B2.boxL2 (Nat.lt_succ_self _) (h.2.alloc (Nat.le_trans z2 h.2.size) o)
      have hS4 := fun (w' : World) (o : Obj) (h : BoxL2 w2 (w.heap.size + 1) w.heap.size (.int .i64 4) (.int .i64 n) w'.drew) => B2.boxL2 (Nat.lt_succ_self _) (((below_undrew h.2).alloc (Nat.le_trans z2 h.2.size) o).drew)
      have hS2 := fun (w' w'' : World) (h : BoxL2 w2 (w.heap.size + 1) w.heap.size (.int .i64 4) (.int .i64 n) w') (hb : Below (w.heap.size + 1) w' w'') => B2.boxL2 (Nat.lt_succ_self _) (h.2.trans hb)
      have hS3 := fun (w' w'' : World) (h : BoxL2 w2 (w.heap.size + 1) w.heap.size (.int .i64 4) (.int .i64 n) w') (hb : Below w'.heap.size w' w'') => B2.boxL2 (Nat.lt_succ_self _) (h.2.trans (hb.mono (Nat.le_trans z2 h.2.size)))
      have hSz := fun (w' : World) (h : BoxL2 w2 (w.heap.size + 1) w.heap.size (.int .i64 4) (.int .i64 n) w') => Nat.le_trans z2 h.2.size
      clear B2
      go_wp2_with fail
      go_region_held3 (fun w' => BoxL2 w2 (w.heap.size + 1) w.heap.size (.int .i64 4) (.int .i64 n) w')
        (first | exact hS0 _ (Below.refl _ _).drew | (refine hS1 _ _ ?_; assumption) | (refine hS4 _ _ ?_; assumption) | (refine hS2 _ _ ?_ hbA; assumption) | (refine hS3 _ _ ?_ hb5; assumption))
        (first
          | (refine app_u8s rfl (.tmp 37) (.tmp 38) rfl (h2.alloc _).drew rfl (lit1 w2 _ (by decide)).drew rfl ?hn ?hb ?_
             case hn => omega
             case hb => exact hSz _ (by assumption)
             intro A3 c3 w3 h3 hbA)
          | (go_simp; go_at_call 48; refine (s_PutBig A3 (m + 1) c3 _ n 4 _ _ h3.sl (Nat.le_refl _) (by omega) hn).mono ?_; rintro e w5 ⟨A5, n5, c5, rfl, h5, hb5⟩))
      rename_i hHeld
      have kb := hHeld.2
      have z3 := hbA.size
      clear hS0 hS1 hS2 hS3 hS4 hSz hHeld
      go_wp2_with fail
      go_ret
      exact ⟨_, _, _, rfl, by rw [HM.out]; exact (show BS w5 _ A5 n5 c5 (b ++ ([202] ++ putBig n 4)) from by rw [← List.append_assoc]; exact h5).mono (by simp at z3; omega), k2.trans (kb.mono (Nat.le_succ _))⟩
    · have HM := Lib.hid (markB_yes hk rfl)
      have HK := Lib.hid hk; clear hk
      go_enter Try.func18, Try.ntmps18
      go_wp2_with (at_builtin; refine app_u8 rfl _ _ rfl (BS.new' (w.alloc (.cells #[.int .i64 5, .int .i64 n] 36)) (w.heap.size + 1) (by simp)) rfl (h' _ _) rfl (by omega) (by simp) ?_; intro A1 c1 w1 h1 hb1; rw [Nat.zero_add, List.nil_append] at h1; obtain ⟨B1, k1⟩ := blkU hb1; obtain ⟨⟨q0, q1⟩, -⟩ := B1.box2 (Below.refl _ _))
      refine (s_MarkOk _ _ _).mono ?_; rintro e w2 ⟨rfl, hb2⟩
      rw [HK.out]
      have B2 := B1.below hb2 B1.lt
      have h2 := h1.below hb2
      have k2 := k1.up hb2
      have z2 : w.heap.size + 1 ≤ w2.heap.size := B2.lt
      clear hb1 hb2 h1 k1 q0 q1 B1
      obtain ⟨⟨q0, q1⟩, -⟩ := B2.box2 (Below.refl _ _)
      go_wp2_with (at_builtin; refine app_u8 rfl _ _ rfl (h2.alloc _) rfl (lit3 w2 _ _ _ (by decide) (by decide) (by omega)) rfl (by omega) (by simp; omega) ?_; intro A3 c3 w3 h3 hb3)
      go_ret
      exact ⟨_, _, _, rfl, by rw [HM.out]; exact h3.mono (Nat.le_succ _), k2.trans (((Below.one w2 _).mono (by omega)).trans (hb3.mono (Nat.le_succ _)))⟩
    · have HM := Lib.hid (markB_yes hk rfl)
      have HK := Lib.hid hk; clear hk
      go_enter Try.func18, Try.ntmps18
      go_wp2_with (at_builtin; refine app_u8 rfl _ _ rfl (BS.new' (w.alloc (.cells #[.int .i64 7, .int .i64 n] 36)) (w.heap.size + 1) (by simp)) rfl (h' _ _) rfl (by omega) (by simp) ?_; intro A1 c1 w1 h1 hb1; rw [Nat.zero_add, List.nil_append] at h1; obtain ⟨B1, k1⟩ := blkU hb1; obtain ⟨⟨q0, q1⟩, -⟩ := B1.box2 (Below.refl _ _))
      refine (s_MarkOk _ _ _).mono ?_; rintro e w2 ⟨rfl, hb2⟩
      rw [HK.out]
      have B2 := B1.below hb2 B1.lt
      have h2 := h1.below hb2
      have k2 := k1.up hb2
      have z2 : w.heap.size + 1 ≤ w2.heap.size := B2.lt
      clear hb1 hb2 h1 k1 q0 q1 B1
      obtain ⟨⟨q0, q1⟩, -⟩ := B2.box2 (Below.refl _ _)
      go_wp2_with fail
      refine (s_l15Len A1 m c1 b 32 160 217 218 n w2 _ h2 z2 (by omega) hr (by decide) (by decide) (by decide)).mono ?_; rintro e w3 ⟨A3, n3, c3, rfl, h3, hb3⟩
      go_wp2_with fail
      go_ret
      exact ⟨_, _, _, rfl, by rw [HM.out]; exact h3.mono (Nat.le_succ _), k2.trans (hb3.mono (Nat.le_succ _))⟩
    · have HM := Lib.hid (markB_yes hk rfl)
      have HK := Lib.hid hk; clear hk
      go_enter Try.func18, Try.ntmps18
      go_wp2_with (at_builtin; refine app_u8 rfl _ _ rfl (BS.new' (w.alloc (.cells #[.int .i64 8, .int .i64 n] 36)) (w.heap.size + 1) (by simp)) rfl (h' _ _) rfl (by omega) (by simp) ?_; intro A1 c1 w1 h1 hb1; rw [Nat.zero_add, List.nil_append] at h1; obtain ⟨B1, k1⟩ := blkU hb1; obtain ⟨⟨q0, q1⟩, -⟩ := B1.box2 (Below.refl _ _))
      refine (s_MarkOk _ _ _).mono ?_; rintro e w2 ⟨rfl, hb2⟩
      rw [HK.out]
      have B2 := B1.below hb2 B1.lt
      have h2 := h1.below hb2
      have k2 := k1.up hb2
      have z2 : w.heap.size + 1 ≤ w2.heap.size := B2.lt
      clear hb1 hb2 h1 k1 q0 q1 B1
      obtain ⟨⟨q0, q1⟩, -⟩ := B2.box2 (Below.refl _ _)
      go_wp2_with fail
      refine (s_l15Len A1 m c1 b 0 0 196 197 n w2 _ h2 z2 (by omega) hr (by decide) (by decide) (by decide)).mono ?_; rintro e w3 ⟨A3, n3, c3, rfl, h3, hb3⟩
      go_wp2_with fail
      go_ret
      exact ⟨_, _, _, rfl, by rw [HM.out]; exact h3.mono (Nat.le_succ _), k2.trans (hb3.mono (Nat.le_succ _))⟩
    · have HM := Lib.hid (markB_yes hk rfl)
      have HK := Lib.hid hk; clear hk
      go_enter Try.func18, Try.ntmps18
      go_wp2_with (at_builtin; refine app_u8 rfl _ _ rfl (BS.new' (w.alloc (.cells #[.int .i64 9, .int .i64 n] 36)) (w.heap.size + 1) (by simp)) rfl (h' _ _) rfl (by omega) (by simp) ?_; intro A1 c1 w1 h1 hb1; rw [Nat.zero_add, List.nil_append] at h1; obtain ⟨B1, k1⟩ := blkU hb1; obtain ⟨⟨q0, q1⟩, -⟩ := B1.box2 (Below.refl _ _))
      refine (s_MarkOk _ _ _).mono ?_; rintro e w2 ⟨rfl, hb2⟩
      rw [HK.out]
      have B2 := B1.below hb2 B1.lt
      have h2 := h1.below hb2
      have k2 := k1.up hb2
      have z2 : w.heap.size + 1 ≤ w2.heap.size := B2.lt
      clear hb1 hb2 h1 k1 q0 q1 B1
      obtain ⟨⟨q0, q1⟩, -⟩ := B2.box2 (Below.refl _ _)
      go_wp2_with fail
      refine (s_l15Len A1 m c1 b 16 144 0 220 n w2 _ h2 z2 (by omega) hr (by decide) (by decide) (by decide)).mono ?_; rintro e w3 ⟨A3, n3, c3, rfl, h3, hb3⟩
      go_wp2_with fail
      go_ret
      exact ⟨_, _, _, rfl, by rw [HM.out]; exact h3.mono (Nat.le_succ _), k2.trans (hb3.mono (Nat.le_succ _))⟩
    · have HM := Lib.hid (markB_yes hk rfl)
      have HK := Lib.hid hk; clear hk
      go_enter Try.func18, Try.ntmps18
      go_wp2_with (at_builtin; refine app_u8 rfl _ _ rfl (BS.new' (w.alloc (.cells #[.int .i64 10, .int .i64 n] 36)) (w.heap.size + 1) (by simp)) rfl (h' _ _) rfl (by omega) (by simp) ?_; intro A1 c1 w1 h1 hb1; rw [Nat.zero_add, List.nil_append] at h1; obtain ⟨B1, k1⟩ := blkU hb1; obtain ⟨⟨q0, q1⟩, -⟩ := B1.box2 (Below.refl _ _))
      refine (s_MarkOk _ _ _).mono ?_; rintro e w2 ⟨rfl, hb2⟩
      rw [HK.out]
      have B2 := B1.below hb2 B1.lt
      have h2 := h1.below hb2
      have k2 := k1.up hb2
      have z2 : w.heap.size + 1 ≤ w2.heap.size := B2.lt
      clear hb1 hb2 h1 k1 q0 q1 B1
      obtain ⟨⟨q0, q1⟩, -⟩ := B2.box2 (Below.refl _ _)
      go_wp2_with fail
      refine (s_l15Len A1 m c1 b 16 128 0 222 n w2 _ h2 z2 (by omega) hr (by decide) (by decide) (by decide)).mono ?_; rintro e w3 ⟨A3, n3, c3, rfl, h3, hb3⟩
      go_wp2_with fail
      go_ret
      exact ⟨_, _, _, rfl, by rw [HM.out]; exact h3.mono (Nat.le_succ _), k2.trans (hb3.mono (Nat.le_succ _))⟩
theorem s_SizeMark (k n : Int) (w : World) (hn : n ≤ 9223372036854775807) : Calls Try.prog 24 #[.agg #[.int .i64 k, .int .i64 n]] w fun e w' => e = .returned (.int .i64 (markB k n).length) ∧ Below w.heap.size w w' := by
  have hp := fun w1 g hg => s_PutMark (some ⟨g, 0, none⟩) 0 0 [] k n w1 (g + 1) ⟨rfl, Nat.le_refl _, by decide, fun h => absurd h (Nat.lt_irrefl 0)⟩ hg (by decide) hn
  go_enter Try.func24, Try.ntmps24
  go_wp2_with (go_at_call 18; refine (hp _ _ (by simp)).mono ?_; rintro e w1 ⟨A1, n1, c1, rfl, h1, hb1⟩; have hl := h1.len; rw [List.nil_append] at hl; obtain rfl := hl)
  go_ret
  exact ⟨rfl, (Below.two w _ _).up hb1⟩
end Go.Proofs.Ytihhedmehlemmaa
