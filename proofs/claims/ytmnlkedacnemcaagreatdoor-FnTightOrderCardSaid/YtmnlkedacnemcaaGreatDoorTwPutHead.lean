/- PutHead: impl and spec. -/
import Derived.Test.YtmnlkedacnemcaaGreatDoorTwBig
import Derived.Deep.RegionHeld3
set_option linter.unusedVariables false
set_option maxRecDepth 100000
set_option linter.unusedSimpArgs false
namespace Go.Proofs.YtmnlkedacnemcaaGreatDoor
open Go.RowKit

def infoOf (n wd : Int) : Int := if wd = 0 then n else if wd = 1 then 24 else if wd = 2 then 25 else if wd = 4 then 26 else if wd = 8 then 27 else 31
def headB (mj n wd : Int) : List UInt8 := if headOk mj n wd = true then UInt8.ofNat ((32 * mj + infoOf n wd).toNat % 256) :: putBig n wd else []
theorem headOk_facts {mj n wd : Int} (h : headOk mj n wd = true) : 0 ≤ mj ∧ mj ≤ 7 ∧ 0 ≤ n ∧ n ≤ 1000000000000000 ∧ (wd = 0 ∨ wd = 1 ∨ wd = 2 ∨ wd = 4 ∨ wd = 8 ∨ wd = -1) ∧ (wd = 0 → n ≤ 23) := by
  have h := of_decide_eq_true (show decide (0 ≤ mj ∧ mj ≤ 7 ∧ 0 ≤ n ∧ n ≤ 1000000000000000 ∧ ((wd = 0 ∧ n ≤ 23) ∨ (wd = 1 ∧ n < 256) ∨ (wd = 2 ∧ n < 65536) ∨ (wd = 4 ∧ n < 4294967296) ∨ wd = 8 ∨ (wd = -1 ∧ n = 0 ∧ 2 ≤ mj ∧ mj ≠ 6))) = true from h)
  omega
theorem headB_no {mj n wd : Int} (h : headOk mj n wd = false) : headB mj n wd = [] := by unfold headB; rw [h]; rfl
theorem headB_yes {mj n wd : Int} (h : headOk mj n wd = true) : headB mj n wd = [UInt8.ofNat ((32 * mj + infoOf n wd).toNat % 256)] ++ putBig n wd := by unfold headB; rw [h]; rfl
theorem infoOf_bd {mj n wd : Int} (h : headOk mj n wd = true) : 0 ≤ infoOf n wd ∧ infoOf n wd ≤ 31 := by
  have h := headOk_facts h
  unfold infoOf; (repeat' split) <;> omega
theorem putBig_none {n wd : Int} (h : wd ≤ 0) : putBig n wd = [] := putBig_no (Or.inl (decide_eq_false (by omega)))
theorem i_info (mj n wd : Int) (w : World) :
    Calls Tryz.prog 96 #[.agg #[.int .i64 mj, .int .i64 n, .int .i64 wd]] w fun e w' => e = .returned (.int .i64 (infoOf n wd)) ∧ Below w.heap.size w w' := by
  by_cases h0 : wd = 0
  · subst h0
    go_enter Tryz.func96, Tryz.ntmps96
    go_wp2_with fail
    go_ret
    exact ⟨rfl, Below.one _ _⟩
  by_cases h1 : wd = 1 ∨ wd = 2 ∨ wd = 4 ∨ wd = 8
  · rcases h1 with rfl | rfl | rfl | rfl
    all_goals
      go_enter Tryz.func96, Tryz.ntmps96
      go_wp2_with fail
      go_ret
      exact ⟨rfl, Below.one _ _⟩
  · have e0 : (wd == 0) = false := by simpa using h0
    have e1 : (wd == 1) = false := by simp; omega
    have e2 : (wd == 2) = false := by simp; omega
    have e4 : (wd == 4) = false := by simp; omega
    have e8 : (wd == 8) = false := by simp; omega
    have HI : infoOf n wd = 31 := by unfold infoOf; rw [if_neg h0, if_neg (by omega), if_neg (by omega), if_neg (by omega), if_neg (by omega)]
    have HI2 := Lib.hid HI; clear HI
    go_enter Tryz.func96, Tryz.ntmps96
    go_wp2_with fail
    go_ret
    exact ⟨ret_int HI2.out.symm, Below.one _ _⟩
set_option maxHeartbeats 1000000 in
theorem i_PutHead (A : Option Addr) (m c : Nat) (b : List UInt8) (mj n wd : Int) (w : World) (B : Nat) (h : Sl w B 1 A m c (u8s b)) (hB : B ≤ w.heap.size) (hm : m ≤ 549755813888) (hn : n ≤ 9223372036854775807) :
    Calls Tryz.prog 80 #[.slice A m c, .agg #[.int .i64 mj, .int .i64 n, .int .i64 wd]] w fun e w' => ∃ A' n' c', e = .returned (.slice A' n' c') ∧ BS w' w.heap.size A' n' c' (b ++ headB mj n wd) ∧ Below w.heap.size w w' := by
  cases hk : headOk mj n wd
  · have HP := Lib.hid (headB_no hk)
    go_enter Tryz.func80, Tryz.ntmps80
    go_wp2_with fail
    refine (i_HeadOk _ _ _ _ hn).mono ?_; rintro e w1 ⟨rfl, hb1⟩
    have k1 := hb1.boxed
    rw [hk]
    go_wp2_with (at_builtin; refine app_u8 rfl _ _ rfl (BS.new w1) rfl ((h.below (k1.mono hB)).alloc (Nat.le_trans hB k1.size) _) rfl (by omega) (by simp) ?_; intro A2 c2 w2 h2 hb2)
    rw [Nat.zero_add, List.nil_append] at h2
    go_ret
    exact ⟨_, _, _, rfl, by rw [HP.out, List.append_nil]; exact h2.mono k1.size, k1.up ((Below.one w1 _).trans hb2)⟩
  · have HP := Lib.hid (headB_yes hk)
    have hf := headOk_facts hk
    have hbd := infoOf_bd hk
    go_enter Tryz.func80, Tryz.ntmps80
    go_wp2_with fail
    refine (i_HeadOk _ _ _ _ hn).mono ?_; rintro e w0 ⟨rfl, hb0⟩
    have k0 := hb0.boxed
    rw [hk]
    have B0 : Blk w0 w.heap.size 60 #[.int .i64 mj, .int .i64 n, .int .i64 wd] := (Blk.new w _ _).below hb0 (by simp)
    have hz0 : w.heap.size < w0.heap.size := B0.lt
    have h0 : Sl w0 B 1 A m c (u8s b) := h.below (k0.mono hB)
    have hS0 : ∀ w', Below w0.heap.size w0 w' → (w'.cell? ⟨w.heap.size, 0, none⟩ = some (.int .i64 mj) ∧ w'.cell? ⟨w.heap.size, 1, none⟩ = some (.int .i64 n) ∧ w'.cell? ⟨w.heap.size, 2, none⟩ = some (.int .i64 wd)) ∧ Below w0.heap.size w0 w' :=
      fun w' hb => ⟨⟨(B0.below hb hz0).cell 0, (B0.below hb hz0).cell 1, (B0.below hb hz0).cell 2⟩, hb⟩
    have hS1 : ∀ (w' : World) (o : Obj), ((w'.cell? ⟨w.heap.size, 0, none⟩ = some (.int .i64 mj) ∧ w'.cell? ⟨w.heap.size, 1, none⟩ = some (.int .i64 n) ∧ w'.cell? ⟨w.heap.size, 2, none⟩ = some (.int .i64 wd)) ∧ Below w0.heap.size w0 w') → (((w'.alloc o).cell? ⟨w.heap.size, 0, none⟩ = some (.int .i64 mj) ∧ (w'.alloc o).cell? ⟨w.heap.size, 1, none⟩ = some (.int .i64 n) ∧ (w'.alloc o).cell? ⟨w.heap.size, 2, none⟩ = some (.int .i64 wd)) ∧ Below w0.heap.size w0 (w'.alloc o)) := fun w' o h => hS0 _ (h.2.alloc h.2.size o)
    have hS4 : ∀ (w' : World) (o : Obj), ((w'.drew.cell? ⟨w.heap.size, 0, none⟩ = some (.int .i64 mj) ∧ w'.drew.cell? ⟨w.heap.size, 1, none⟩ = some (.int .i64 n) ∧ w'.drew.cell? ⟨w.heap.size, 2, none⟩ = some (.int .i64 wd)) ∧ Below w0.heap.size w0 w'.drew) → (((w'.alloc o).drew.cell? ⟨w.heap.size, 0, none⟩ = some (.int .i64 mj) ∧ (w'.alloc o).drew.cell? ⟨w.heap.size, 1, none⟩ = some (.int .i64 n) ∧ (w'.alloc o).drew.cell? ⟨w.heap.size, 2, none⟩ = some (.int .i64 wd)) ∧ Below w0.heap.size w0 (w'.alloc o).drew) := fun w' o h => hS0 _ (((below_undrew h.2).alloc h.2.size o).drew)
    have hS2 : ∀ (w' w'' : World), ((w'.cell? ⟨w.heap.size, 0, none⟩ = some (.int .i64 mj) ∧ w'.cell? ⟨w.heap.size, 1, none⟩ = some (.int .i64 n) ∧ w'.cell? ⟨w.heap.size, 2, none⟩ = some (.int .i64 wd)) ∧ Below w0.heap.size w0 w') → Below w0.heap.size w' w'' → ((w''.cell? ⟨w.heap.size, 0, none⟩ = some (.int .i64 mj) ∧ w''.cell? ⟨w.heap.size, 1, none⟩ = some (.int .i64 n) ∧ w''.cell? ⟨w.heap.size, 2, none⟩ = some (.int .i64 wd)) ∧ Below w0.heap.size w0 w'') := fun w' w'' h hb => hS0 _ (h.2.trans hb)
    have hS3 : ∀ (w' w'' : World), ((w'.cell? ⟨w.heap.size, 0, none⟩ = some (.int .i64 mj) ∧ w'.cell? ⟨w.heap.size, 1, none⟩ = some (.int .i64 n) ∧ w'.cell? ⟨w.heap.size, 2, none⟩ = some (.int .i64 wd)) ∧ Below w0.heap.size w0 w') → Below w'.heap.size w' w'' → ((w''.cell? ⟨w.heap.size, 0, none⟩ = some (.int .i64 mj) ∧ w''.cell? ⟨w.heap.size, 1, none⟩ = some (.int .i64 n) ∧ w''.cell? ⟨w.heap.size, 2, none⟩ = some (.int .i64 wd)) ∧ Below w0.heap.size w0 w'') := fun w' w'' h hb => hS0 _ (h.2.up hb)
    have hSl : ∀ (w' : World), ((w'.cell? ⟨w.heap.size, 0, none⟩ = some (.int .i64 mj) ∧ w'.cell? ⟨w.heap.size, 1, none⟩ = some (.int .i64 n) ∧ w'.cell? ⟨w.heap.size, 2, none⟩ = some (.int .i64 wd)) ∧ Below w0.heap.size w0 w') → Sl w' B 1 A m c (u8s b) := fun w' hb => h0.below (hb.2.mono (by omega))
    have hSz : ∀ (w' : World), ((w'.cell? ⟨w.heap.size, 0, none⟩ = some (.int .i64 mj) ∧ w'.cell? ⟨w.heap.size, 1, none⟩ = some (.int .i64 n) ∧ w'.cell? ⟨w.heap.size, 2, none⟩ = some (.int .i64 wd)) ∧ Below w0.heap.size w0 w') → w0.heap.size ≤ w'.heap.size := fun w' hb => hb.2.size
    clear hb0 h hk
    go_wp2_with fail
    go_region_held3 (fun w' => (w'.cell? ⟨w.heap.size, 0, none⟩ = some (.int .i64 mj) ∧ w'.cell? ⟨w.heap.size, 1, none⟩ = some (.int .i64 n) ∧ w'.cell? ⟨w.heap.size, 2, none⟩ = some (.int .i64 wd)) ∧ Below w0.heap.size w0 w')
      (first | exact hS0 _ (Below.refl _ _).drew | (refine hS1 _ _ ?_; assumption) | (refine hS4 _ _ ?_; assumption) | (refine hS2 _ _ ?_ hbA; assumption) | (refine hS3 _ _ ?_ hbI; assumption))
      (first
        | (refine app_u8s rfl (.tmp 12) (.tmp 13) rfl (BS.new w0) rfl (hSl _ ?hs) rfl ?hn ?hb ?_
           case hs => assumption
           case hn => omega
           case hb => simp
           intro A1 c1 w1 h1 hbA
           rw [Nat.zero_add, List.nil_append] at h1)
        | (go_simp; go_at_call 96; refine (i_info _ _ _ _).mono ?_; rintro e w2 ⟨rfl, hbI⟩; replace h1 := h1.below hbI)
        | (refine app_u8s rfl (.tmp 14) (.tmp 22) rfl (h1.alloc _) rfl (lit1 _ _ ?hl) rfl ?hn ?hb ?_
           case hl => exact ⟨Int.emod_nonneg _ (by decide), Int.emod_lt_of_pos _ (by decide)⟩
           case hn => omega
           case hb => exact hSz _ (by assumption)
           clear hbA
           intro A3 c3 w3 h3 hbA))
    rename_i hHeld
    obtain ⟨⟨q0, q1, q2⟩, kb⟩ := hHeld
    clear hS0 hS1 hS2 hS3 hS4 hSl hSz
    have e8 : UInt8.ofNat (IntKind.u8.wrap (IntKind.i64.wrap (IntKind.i64.wrap (32 * mj) + infoOf n wd))).toNat = UInt8.ofNat ((32 * mj + infoOf n wd).toNat % 256) := by
      congr 1
      rw [show ∀ x, IntKind.u8.wrap x = x % 256 from fun x => by simp [IntKind.wrap, IntKind.bits, IntKind.signed], IntKind.wrap_i64, IntKind.wrap_i64]
      omega
    rw [e8] at h3
    have kw := k0.trans (kb.mono k0.size)
    by_cases hwd : 0 < wd
    · go_wp2_with fail
      refine (i_PutBig A3 (m + 1) c3 _ n wd _ _ h3.sl (Nat.le_refl _) (by omega) hn).mono ?_; rintro e w5 ⟨A5, n5, c5, rfl, h5, hb5⟩
      go_wp2_with fail
      go_ret
      exact ⟨_, _, _, rfl, by rw [HP.out, ← List.append_assoc]; exact h5.mono kw.size, kw.up hb5⟩
    · have HZ := Lib.hid (putBig_none (n := n) (wd := wd) (by omega))
      go_wp2_with fail
      go_ret
      exact ⟨_, _, _, rfl, by rw [HP.out, HZ.out, List.append_nil]; exact h3.mono k0.size, kw⟩
theorem putBig_len (n w : Int) : (putBig n w).length ≤ 8 := by
  unfold putBig; split
  · rename_i h
    rw [beI_len]
    have := h.1
    simp only [isW, Bool.or_eq_true, beq_iff_eq, decide_eq_true_eq] at this
    omega
  · simp
theorem headB_len (mj n wd : Int) : (headB mj n wd).length ≤ 9 := by
  unfold headB; split
  · have := putBig_len n wd; simp; omega
  · simp
theorem blk3 {w w1 : World} {T : TypeId} {cs : Array Value} {o : Obj} (h : Below (w.heap.size + 1) ((w.alloc (.cells cs T)).alloc o) w1) : Blk w1 w.heap.size T cs ∧ Below w.heap.size w w1 :=
  ⟨((Blk.new w _ _).alloc o).below h (Nat.lt_succ_self _), (Below.two w _ _).trans (h.mono (Nat.le_succ _))⟩
theorem Blk.cells3 {w : World} {g : Nat} {T : TypeId} {a b c : Value} (h : Blk w g T #[a, b, c]) : w.cell? ⟨g, 0, none⟩ = some a ∧ w.cell? ⟨g, 1, none⟩ = some b ∧ w.cell? ⟨g, 2, none⟩ = some c := ⟨h.cell 0, h.cell 1, h.cell 2⟩
theorem blk_app {w1 w2 : World} {T : TypeId} {cs : Array Value} {o : Obj} {g : Nat} {x : World} (h : Below (g + 1) (w1.alloc o) w2) (hb : Blk w1 g T cs) (hk : Below g x w1) : Blk w2 g T cs ∧ Below g x w2 :=
  ⟨(hb.alloc o).below h (Nat.lt_succ_self _), hk.trans (((Below.one w1 o).mono (Nat.le_of_lt hb.lt)).trans (h.mono (Nat.le_succ _)))⟩
set_option maxHeartbeats 1000000 in
theorem s_PutHead (A : Option Addr) (m c : Nat) (b : List UInt8) (mj n wd : Int) (w : World) (B : Nat) (h : Sl w B 1 A m c (u8s b)) (hB : B ≤ w.heap.size) (hm : m ≤ 549755813888) (hn : n ≤ 9223372036854775807) :
    Calls Tryz.prog 41 #[.slice A m c, .agg #[.int .i64 mj, .int .i64 n, .int .i64 wd]] w fun e w' => ∃ A' n' c', e = .returned (.slice A' n' c') ∧ BS w' w.heap.size A' n' c' (b ++ headB mj n wd) ∧ Below w.heap.size w w' := by
  have h' : ∀ o o', Sl ((w.alloc o).alloc o') B 1 A m c (u8s b) := fun o o' => (h.alloc hB _).alloc (by simp; omega) _
  cases hk : headOk mj n wd
  · have HP := Lib.hid (headB_no hk)
    go_enter Tryz.func41, Tryz.ntmps41
    go_wp2_with (at_builtin; refine app_u8 rfl _ _ rfl (BS.new' (w.alloc (.cells #[.int .i64 mj, .int .i64 n, .int .i64 wd] 60)) (w.heap.size + 1) (by simp)) rfl (h' _ _) rfl (by omega) (by simp) ?_; intro A1 c1 w1 h1 hb1; rw [Nat.zero_add, List.nil_append] at h1; obtain ⟨B1, k1⟩ := blk3 hb1; obtain ⟨q0, q1, q2⟩ := B1.cells3)
    refine (s_HeadOk _ _ _ _).mono ?_; rintro e w2 ⟨rfl, hb2⟩
    rw [hk]
    go_wp2_with fail
    go_ret
    exact ⟨_, _, _, rfl, by rw [HP.out, List.append_nil]; exact (h1.below hb2).mono (Nat.le_succ _), k1.up hb2⟩
  · have HP := Lib.hid (headB_yes hk)
    have hf := headOk_facts hk
    have hbd := infoOf_bd hk
    have H : (wd = 0 ∧ n ≤ 23) ∨ wd = -1 ∨ wd = 1 ∨ wd = 2 ∨ wd = 4 ∨ wd = 8 := by omega
    have hmj : 0 ≤ mj ∧ mj ≤ 7 := by omega
    have hn0 : 0 ≤ n := by omega
    have HK := Lib.hid hk
    clear hf hk
    rcases H with ⟨rfl, hn23⟩ | rfl | rfl | rfl | rfl | rfl
    · go_enter Tryz.func41, Tryz.ntmps41
      go_wp2_with (at_builtin; refine app_u8 rfl _ _ rfl (BS.new' (w.alloc (.cells #[.int .i64 mj, .int .i64 n, .int .i64 0] 60)) (w.heap.size + 1) (by simp)) rfl (h' _ _) rfl (by omega) (by simp) ?_; intro A1 c1 w1 h1 hb1; rw [Nat.zero_add, List.nil_append] at h1; obtain ⟨B1, k1⟩ := blk3 hb1; obtain ⟨q0, q1, q2⟩ := B1.cells3)
      refine (s_HeadOk _ _ _ _).mono ?_; rintro e w2 ⟨rfl, hb2⟩
      rw [HK.out]
      have B2 := B1.below hb2 B1.lt
      obtain ⟨r0, r1, r2⟩ := B2.cells3
      have h2 := h1.below hb2
      have k2 := k1.up hb2
      have hz : w.heap.size + 1 ≤ w2.heap.size := B2.lt
      clear hb1 hb2 h1 k1 q0 q1 q2
      go_wp2_with (at_builtin; refine app_u8 rfl _ _ rfl (h2.alloc _) rfl (lit1 w2 _ (by omega)) rfl (by omega) (by simp; omega) ?_; intro A3 c3 w3 h3 hb3; obtain ⟨B3, k3⟩ := blk_app hb3 B2 k2; obtain ⟨s0, s1, s2⟩ := B3.cells3)
      go_ret
      exact ⟨_, _, _, rfl, by rw [HP.out, putBig_none (by decide), List.append_nil]; exact (show BS w3 _ A3 (m + 1) c3 _ from by rw [show ((32 * mj + infoOf n 0).toNat % 256) = (32 * mj + n).toNat from by rw [show infoOf n 0 = n from rfl]; omega]; exact h3.mono (Nat.le_succ _)), k3⟩
    · go_enter Tryz.func41, Tryz.ntmps41
      go_wp2_with (at_builtin; refine app_u8 rfl _ _ rfl (BS.new' (w.alloc (.cells #[.int .i64 mj, .int .i64 n, .int .i64 (-1)] 60)) (w.heap.size + 1) (by simp)) rfl (h' _ _) rfl (by omega) (by simp) ?_; intro A1 c1 w1 h1 hb1; rw [Nat.zero_add, List.nil_append] at h1; obtain ⟨B1, k1⟩ := blk3 hb1; obtain ⟨q0, q1, q2⟩ := B1.cells3)
      refine (s_HeadOk _ _ _ _).mono ?_; rintro e w2 ⟨rfl, hb2⟩
      rw [HK.out]
      have B2 := B1.below hb2 B1.lt
      obtain ⟨r0, r1, r2⟩ := B2.cells3
      have h2 := h1.below hb2
      have k2 := k1.up hb2
      have hz : w.heap.size + 1 ≤ w2.heap.size := B2.lt
      clear hb1 hb2 h1 k1 q0 q1 q2
      go_wp2_with (at_builtin; refine app_u8 rfl _ _ rfl (h2.alloc _) rfl (lit1 w2 _ (by omega)) rfl (by omega) (by simp; omega) ?_; intro A3 c3 w3 h3 hb3; obtain ⟨B3, k3⟩ := blk_app hb3 B2 k2; obtain ⟨s0, s1, s2⟩ := B3.cells3)
      go_ret
      exact ⟨_, _, _, rfl, by rw [HP.out, putBig_none (by decide), List.append_nil]; exact (show BS w3 _ A3 (m + 1) c3 _ from by rw [show ((32 * mj + infoOf n (-1)).toNat % 256) = (32 * mj + 31).toNat from by rw [show infoOf n (-1) = 31 from rfl]; omega]; exact h3.mono (Nat.le_succ _)), k3⟩
    · go_enter Tryz.func41, Tryz.ntmps41
      go_wp2_with (at_builtin; refine app_u8 rfl _ _ rfl (BS.new' (w.alloc (.cells #[.int .i64 mj, .int .i64 n, .int .i64 1] 60)) (w.heap.size + 1) (by simp)) rfl (h' _ _) rfl (by omega) (by simp) ?_; intro A1 c1 w1 h1 hb1; rw [Nat.zero_add, List.nil_append] at h1; obtain ⟨B1, k1⟩ := blk3 hb1; obtain ⟨q0, q1, q2⟩ := B1.cells3)
      refine (s_HeadOk _ _ _ _).mono ?_; rintro e w2 ⟨rfl, hb2⟩
      rw [HK.out]
      have B2 := B1.below hb2 B1.lt
      obtain ⟨r0, r1, r2⟩ := B2.cells3
      have h2 := h1.below hb2
      have k2 := k1.up hb2
      have hz : w.heap.size + 1 ≤ w2.heap.size := B2.lt
      clear hb1 hb2 h1 k1 q0 q1 q2
      go_wp2_with (at_builtin; refine app_u8 rfl _ _ rfl (h2.alloc _) rfl (lit1 w2 _ (by omega)) rfl (by omega) (by simp; omega) ?_; intro A3 c3 w3 h3 hb3; obtain ⟨B3, k3⟩ := blk_app hb3 B2 k2; obtain ⟨s0, s1, s2⟩ := B3.cells3)
      refine (s_PutBig A3 (m + 1) c3 _ n 1 _ _ h3.sl (Nat.le_refl _) (by omega) hn).mono ?_; rintro e w5 ⟨A5, n5, c5, rfl, h5, hb5⟩
      go_wp2_with fail
      go_ret
      exact ⟨_, _, _, rfl, by rw [HP.out, ← List.append_assoc, show ((32 * mj + infoOf n 1).toNat % 256) = (32 * mj + 24).toNat from by rw [show infoOf n 1 = 24 from rfl]; omega]; exact h5.mono k3.size, k3.up hb5⟩
    · go_enter Tryz.func41, Tryz.ntmps41
      go_wp2_with (at_builtin; refine app_u8 rfl _ _ rfl (BS.new' (w.alloc (.cells #[.int .i64 mj, .int .i64 n, .int .i64 2] 60)) (w.heap.size + 1) (by simp)) rfl (h' _ _) rfl (by omega) (by simp) ?_; intro A1 c1 w1 h1 hb1; rw [Nat.zero_add, List.nil_append] at h1; obtain ⟨B1, k1⟩ := blk3 hb1; obtain ⟨q0, q1, q2⟩ := B1.cells3)
      refine (s_HeadOk _ _ _ _).mono ?_; rintro e w2 ⟨rfl, hb2⟩
      rw [HK.out]
      have B2 := B1.below hb2 B1.lt
      obtain ⟨r0, r1, r2⟩ := B2.cells3
      have h2 := h1.below hb2
      have k2 := k1.up hb2
      have hz : w.heap.size + 1 ≤ w2.heap.size := B2.lt
      clear hb1 hb2 h1 k1 q0 q1 q2
      go_wp2_with (at_builtin; refine app_u8 rfl _ _ rfl (h2.alloc _) rfl (lit1 w2 _ (by omega)) rfl (by omega) (by simp; omega) ?_; intro A3 c3 w3 h3 hb3; obtain ⟨B3, k3⟩ := blk_app hb3 B2 k2; obtain ⟨s0, s1, s2⟩ := B3.cells3)
      refine (s_PutBig A3 (m + 1) c3 _ n 2 _ _ h3.sl (Nat.le_refl _) (by omega) hn).mono ?_; rintro e w5 ⟨A5, n5, c5, rfl, h5, hb5⟩
      go_wp2_with fail
      go_ret
      exact ⟨_, _, _, rfl, by rw [HP.out, ← List.append_assoc, show ((32 * mj + infoOf n 2).toNat % 256) = (32 * mj + 25).toNat from by rw [show infoOf n 2 = 25 from rfl]; omega]; exact h5.mono k3.size, k3.up hb5⟩
    · go_enter Tryz.func41, Tryz.ntmps41
      go_wp2_with (at_builtin; refine app_u8 rfl _ _ rfl (BS.new' (w.alloc (.cells #[.int .i64 mj, .int .i64 n, .int .i64 4] 60)) (w.heap.size + 1) (by simp)) rfl (h' _ _) rfl (by omega) (by simp) ?_; intro A1 c1 w1 h1 hb1; rw [Nat.zero_add, List.nil_append] at h1; obtain ⟨B1, k1⟩ := blk3 hb1; obtain ⟨q0, q1, q2⟩ := B1.cells3)
      refine (s_HeadOk _ _ _ _).mono ?_; rintro e w2 ⟨rfl, hb2⟩
      rw [HK.out]
      have B2 := B1.below hb2 B1.lt
      obtain ⟨r0, r1, r2⟩ := B2.cells3
      have h2 := h1.below hb2
      have k2 := k1.up hb2
      have hz : w.heap.size + 1 ≤ w2.heap.size := B2.lt
      clear hb1 hb2 h1 k1 q0 q1 q2
      go_wp2_with (at_builtin; refine app_u8 rfl _ _ rfl (h2.alloc _) rfl (lit1 w2 _ (by omega)) rfl (by omega) (by simp; omega) ?_; intro A3 c3 w3 h3 hb3; obtain ⟨B3, k3⟩ := blk_app hb3 B2 k2; obtain ⟨s0, s1, s2⟩ := B3.cells3)
      refine (s_PutBig A3 (m + 1) c3 _ n 4 _ _ h3.sl (Nat.le_refl _) (by omega) hn).mono ?_; rintro e w5 ⟨A5, n5, c5, rfl, h5, hb5⟩
      go_wp2_with fail
      go_ret
      exact ⟨_, _, _, rfl, by rw [HP.out, ← List.append_assoc, show ((32 * mj + infoOf n 4).toNat % 256) = (32 * mj + 26).toNat from by rw [show infoOf n 4 = 26 from rfl]; omega]; exact h5.mono k3.size, k3.up hb5⟩
    · go_enter Tryz.func41, Tryz.ntmps41
      go_wp2_with (at_builtin; refine app_u8 rfl _ _ rfl (BS.new' (w.alloc (.cells #[.int .i64 mj, .int .i64 n, .int .i64 8] 60)) (w.heap.size + 1) (by simp)) rfl (h' _ _) rfl (by omega) (by simp) ?_; intro A1 c1 w1 h1 hb1; rw [Nat.zero_add, List.nil_append] at h1; obtain ⟨B1, k1⟩ := blk3 hb1; obtain ⟨q0, q1, q2⟩ := B1.cells3)
      refine (s_HeadOk _ _ _ _).mono ?_; rintro e w2 ⟨rfl, hb2⟩
      rw [HK.out]
      have B2 := B1.below hb2 B1.lt
      obtain ⟨r0, r1, r2⟩ := B2.cells3
      have h2 := h1.below hb2
      have k2 := k1.up hb2
      have hz : w.heap.size + 1 ≤ w2.heap.size := B2.lt
      clear hb1 hb2 h1 k1 q0 q1 q2
      go_wp2_with (at_builtin; refine app_u8 rfl _ _ rfl (h2.alloc _) rfl (lit1 w2 _ (by omega)) rfl (by omega) (by simp; omega) ?_; intro A3 c3 w3 h3 hb3; obtain ⟨B3, k3⟩ := blk_app hb3 B2 k2; obtain ⟨s0, s1, s2⟩ := B3.cells3)
      refine (s_PutBig A3 (m + 1) c3 _ n 8 _ _ h3.sl (Nat.le_refl _) (by omega) hn).mono ?_; rintro e w5 ⟨A5, n5, c5, rfl, h5, hb5⟩
      go_wp2_with fail
      go_ret
      exact ⟨_, _, _, rfl, by rw [HP.out, ← List.append_assoc, show ((32 * mj + infoOf n 8).toNat % 256) = (32 * mj + 27).toNat from by rw [show infoOf n 8 = 27 from rfl]; omega]; exact h5.mono k3.size, k3.up hb5⟩
end Go.Proofs.YtmnlkedacnemcaaGreatDoor
