/- GetMark whole: the edge cases, and what it gives. -/
import Derived.Test.YtihhedmehlemmaaMkGetMarkS
set_option linter.unusedVariables false
set_option maxRecDepth 100000
set_option linter.unusedSimpArgs false
namespace Go.Proofs.Ytihhedmehlemmaa
open Go.RowKit

/-- A mark read: its kind, its number, where it ends, the code. -/
def markRet (k n x c : Int) : Value := .tuple #[.agg #[.int .i64 k, .int .i64 n], .int .i64 x, .int .i64 c]
theorem shortM_no {k : Int} (hk : 0 ≤ k ∧ k ≤ 255) (h : (shortM k).2.2 = false) : shortM k = (0, 0, false) ∧ (k = 193 ∨ (196 ≤ k ∧ k ≤ 223)) := by
  revert h; unfold shortM; (repeat' split) <;> intro h <;> first | (exfalso; simp at h; done) | exact ⟨rfl, by omega⟩
/-- What a byte begins has no bytes, or 1, 2, 4 or 8. -/
theorem formM_cases (k : Int) : formM k = (0, 0) ∨ (k = 212 ∧ formM k = (5, 2)) ∨ (k = 202 ∧ formM k = (4, 4)) ∨ ((formM k).1 = 3 ∧ 204 ≤ k ∧ k ≤ 211 ∧ ∃ v : Nat, (v = 1 ∨ v = 2 ∨ v = 4 ∨ v = 8) ∧ formM k = (3, (v : Int))) ∨ (¬ (204 ≤ k ∧ k ≤ 211) ∧ ∃ (K : Int) (v : Nat), 7 ≤ K ∧ K ≤ 10 ∧ (v = 1 ∨ v = 2 ∨ v = 4) ∧ formM k = (K, (v : Int))) := by
  have h : (k = 196 ∨ k = 197 ∨ k = 198 ∨ k = 202 ∨ k = 204 ∨ k = 205 ∨ k = 206 ∨ k = 207 ∨ k = 208 ∨ k = 209 ∨ k = 210 ∨ k = 211 ∨ k = 212 ∨ k = 217 ∨ k = 218 ∨ k = 219 ∨ k = 220 ∨ k = 221 ∨ k = 222 ∨ k = 223) ∨ formM k = (0, 0) := by
    unfold formM
    (repeat' split) <;> first | (right; rfl) | (left; omega)
  rcases h with (rfl | rfl | rfl | rfl | rfl | rfl | rfl | rfl | rfl | rfl | rfl | rfl | rfl | rfl | rfl | rfl | rfl | rfl | rfl | rfl) | h
  case inr => exact .inl h
  case inl.inr.inr.inr.inl => exact .inr (.inr (.inl ⟨rfl, rfl⟩))
  all_goals first
    | exact .inr (.inl ⟨rfl, rfl⟩)
    | exact .inr (.inr (.inr (.inl ⟨rfl, by decide, by decide, 1, by decide, rfl⟩)))
    | exact .inr (.inr (.inr (.inl ⟨rfl, by decide, by decide, 2, by decide, rfl⟩)))
    | exact .inr (.inr (.inr (.inl ⟨rfl, by decide, by decide, 4, by decide, rfl⟩)))
    | exact .inr (.inr (.inr (.inl ⟨rfl, by decide, by decide, 8, by decide, rfl⟩)))
    | exact .inr (.inr (.inr (.inr ⟨by decide, _, 1, by decide, by decide, by decide, rfl⟩)))
    | exact .inr (.inr (.inr (.inr ⟨by decide, _, 2, by decide, by decide, by decide, rfl⟩)))
    | exact .inr (.inr (.inr (.inr ⟨by decide, _, 4, by decide, by decide, by decide, rfl⟩)))
set_option maxHeartbeats 1000000 in
theorem i_GetMark_out (A : Option Addr) (m c : Nat) (i : Int) (w : World) (hm : m ≤ 1048576) (hi : -9223372036854775808 ≤ i ∧ i ≤ 9223372036854775807) (hr : ¬ (0 ≤ i ∧ i < m)) :
    Calls Try.prog 27 #[.slice A m c, .int .i64 i] w fun e w' => e = .returned (markRet 0 0 0 1) ∧ Below w.heap.size w w' := by
  have r1 : (inR 1 0 m && inR i 0 (m - 1)) = false := by rw [Bool.and_eq_false_iff]; simp only [inR_not]; omega
  unfold markRet
  go_enter Try.func27, Try.ntmps27
  go_wp2_with (go_at_call 56; refine (i_exist _ m c _ _ _ (by omega) (by omega)).mono ?_; rintro e w' ⟨rfl, rfl⟩; rw [r1])
  exact bodyPost_ret (results_blk3 Try.results27 Try.isAgg36 (by exact Try.sizeOf36) rfl (Blk.new w _ _)) rfl ⟨rfl, Below.one _ _⟩
set_option maxHeartbeats 1000000 in
theorem i_GetMark_one (m c : Nat) (b : List UInt8) (j g o k : Nat) (w : World) (B : Nat) (hs : Sl w B 1 (some ⟨g, o, none⟩) m c (u8s b)) (hB : B ≤ w.heap.size) (hg : g < B) (hm : m ≤ 1048576) (hj : j < m) (hc : w.cell? ⟨g, o + j, none⟩ = some (.int .u8 (k : Int))) (hk : k < 256) (K n : Int) (hS : shortM k = (K, n, true)) :
    Calls Try.prog 27 #[.slice (some ⟨g, o, none⟩) m c, .int .i64 j] w fun e w' => e = .returned (markRet K n (j + 1 : Nat) 0) ∧ Below w.heap.size w w' := by
  have hl := hs.blen
  have hgw : g < w.heap.size := by omega
  have hcA : ∀ x, (w.alloc x).cell? ⟨g, o + j, none⟩ = some (.int .u8 (k : Int)) := fun x => (World.cell?_alloc_lt w x _ (by exact hgw)).trans hc
  have r1 : (inR 1 0 m && inR (j : Int) 0 (m - 1)) = true := by rw [Bool.and_eq_true]; exact ⟨inR_yes (by omega) (by omega), inR_yes (by omega) (by omega)⟩
  have h1 := fun w => i_shortMark k w (by omega)
  rw [hS] at h1
  have hk0 : (k : Int) ≤ 255 := by omega
  clear hS
  unfold markRet
  go_enter Try.func27, Try.ntmps27
  go_wp2_with (go_at_call 56; refine (i_exist _ m c _ _ _ (by omega) (by omega)).mono ?_; rintro e w' ⟨rfl, rfl⟩; rw [r1])
  refine (h1 _).mono ?_; rintro e w1 ⟨rfl, hb1⟩
  have hb0 := (Below.one w _).up hb1
  have hR := (Blk.new w 36 #[.int .i64 0, .int .i64 0]).below hb1 (by simp)
  obtain ⟨r0, r2, rf0, rf1, rlt⟩ := hR.at2
  go_wp2_with fail
  exact bodyPost_ret (results_blk3 Try.results27 Try.isAgg36 (by exact Try.sizeOf36) rfl ((hR.two _ _).alloc _)) rfl ⟨rfl, ((hb0.setCell (by exact Nat.le_refl _) _).setCell (by exact Nat.le_refl _) _).up (Below.one _ _)⟩
set_option maxHeartbeats 1000000 in
theorem i_GetMark_no (m c : Nat) (b : List UInt8) (j g o k : Nat) (w : World) (B : Nat) (hs : Sl w B 1 (some ⟨g, o, none⟩) m c (u8s b)) (hB : B ≤ w.heap.size) (hg : g < B) (hm : m ≤ 1048576) (hj : j < m) (hc : w.cell? ⟨g, o + j, none⟩ = some (.int .u8 (k : Int))) (hk : k = 193 ∨ (196 ≤ k ∧ k ≤ 223)) (hS : shortM k = (0, 0, false)) (K : Int) (v : Nat) (hF : formM k = (K, (v : Int))) (hv8 : v ≤ 8) (hno : (K == 0) = true ∨ ((K == 0) = false ∧ m < j + 1 + v)) :
    Calls Try.prog 27 #[.slice (some ⟨g, o, none⟩) m c, .int .i64 j] w fun e w' => e = .returned (markRet 0 0 0 1) ∧ Below w.heap.size w w' := by
  have hl := hs.blen
  have hgw : g < w.heap.size := by omega
  have hcA : ∀ x, (w.alloc x).cell? ⟨g, o + j, none⟩ = some (.int .u8 (k : Int)) := fun x => (World.cell?_alloc_lt w x _ (by exact hgw)).trans hc
  have r1 : (inR 1 0 m && inR (j : Int) 0 (m - 1)) = true := by rw [Bool.and_eq_true]; exact ⟨inR_yes (by omega) (by omega), inR_yes (by omega) (by omega)⟩
  have h1 := fun w => i_shortMark k w (by omega)
  rw [hS] at h1
  have h2 := fun w => i_markForm k w (by omega)
  rw [hF] at h2
  have hk0 : (k : Int) ≤ 255 := by omega
  clear hS hk hF
  unfold markRet
  have HN := Lib.hid hno
  rcases HN.out with hz | ⟨hz, hz2⟩
  · clear hno
    go_enter Try.func27, Try.ntmps27
    go_wp2_with (go_at_call 56; refine (i_exist _ m c _ _ _ (by omega) (by omega)).mono ?_; rintro e w' ⟨rfl, rfl⟩; rw [r1])
    refine (h1 _).mono ?_; rintro e w1 ⟨rfl, hb1⟩
    have hb0 := (Below.one w _).up hb1
    have hR := (Blk.new w 36 #[.int .i64 0, .int .i64 0]).below hb1 (by simp)
    obtain ⟨r0, r2, rf0, rf1, rlt⟩ := hR.at2
    go_wp2_with (go_at_call 58; refine (h2 _).mono ?_; rintro e w' ⟨rfl, rfl⟩)
    exact bodyPost_ret (results_blk3 Try.results27 Try.isAgg36 (by exact Try.sizeOf36) rfl ((hR.two _ _).alloc _)) rfl ⟨rfl, ((hb0.setCell (by exact Nat.le_refl _) _).setCell (by exact Nat.le_refl _) _).up (Below.one _ _)⟩
  · have r2 : (inR (v : Int) 0 m && inR ((j : Int) + 1) 0 (m - v)) = false := by rw [Bool.and_eq_false_iff]; simp only [inR_not]; omega
    clear hno
    go_enter Try.func27, Try.ntmps27
    go_wp2_with (go_at_call 56; refine (i_exist _ m c _ _ _ (by omega) (by omega)).mono ?_; rintro e w' ⟨rfl, rfl⟩; rw [r1])
    refine (h1 _).mono ?_; rintro e w1 ⟨rfl, hb1⟩
    have hb0 := (Below.one w _).up hb1
    have hR := (Blk.new w 36 #[.int .i64 0, .int .i64 0]).below hb1 (by simp)
    obtain ⟨r0, r3, rf0, rf1, rlt⟩ := hR.at2
    go_wp2_with (go_at_call 58; refine (h2 _).mono ?_; rintro e w' ⟨rfl, rfl⟩)
    refine (i_exist _ m c _ _ _ (by omega) (by omega)).mono ?_; rintro e w' ⟨rfl, rfl⟩; rw [r2]
    go_wp2_with fail
    exact bodyPost_ret (results_blk3 Try.results27 Try.isAgg36 (by exact Try.sizeOf36) rfl ((hR.two _ _).alloc _)) rfl ⟨rfl, ((hb0.setCell (by exact Nat.le_refl _) _).setCell (by exact Nat.le_refl _) _).up (Below.one _ _)⟩
set_option maxHeartbeats 1000000 in
theorem s_GetMark_out (A : Option Addr) (m c : Nat) (i : Int) (w : World) (hm : m ≤ 1048576) (hi : -9223372036854775808 ≤ i ∧ i ≤ 9223372036854775807) (hr : i < 0 ∨ (0 ≤ i ∧ (m : Int) ≤ i)) :
    Calls Try.prog 29 #[.slice A m c, .int .i64 i] w fun e w' => e = .returned (markRet 0 0 0 1) ∧ Below w.heap.size w w' := by
  unfold markRet
  have HB : ∀ a b, Blk (((w.alloc (.cells #[a, b] 36)).alloc (.cells #[.int .i64 0, .int .i64 0] 36))) w.heap.size 36 #[a, b] := fun a b => (Blk.new w _ _).alloc _
  rcases hr with h | ⟨h, h2⟩
  all_goals
    go_enter Try.func29, Try.ntmps29
    go_wp2_with fail
    exact bodyPost_ret (results_blk3 Try.results29 Try.isAgg36 (by exact Try.sizeOf36) rfl (HB _ _)) rfl ⟨rfl, Below.two _ _ _⟩
set_option maxHeartbeats 1000000 in
theorem s_GetMark_one (m c : Nat) (b : List UInt8) (j g o k : Nat) (w : World) (B : Nat) (hs : Sl w B 1 (some ⟨g, o, none⟩) m c (u8s b)) (hB : B ≤ w.heap.size) (hg : g < B) (hm : m ≤ 1048576) (hj : j < m) (hc : w.cell? ⟨g, o + j, none⟩ = some (.int .u8 (k : Int))) (hk : k < 256) (K n : Int) (hS : shortM k = (K, n, true)) :
    Calls Try.prog 29 #[.slice (some ⟨g, o, none⟩) m c, .int .i64 j] w fun e w' => e = .returned (markRet K n (j + 1 : Nat) 0) ∧ Below w.heap.size w w' := by
  have hl := hs.blen
  have hgw : g < w.heap.size := by omega
  have hcA : ∀ x, (w.alloc x).cell? ⟨g, o + j, none⟩ = some (.int .u8 (k : Int)) := fun x => (World.cell?_alloc_lt w x _ (by exact hgw)).trans hc
  have hcB : ∀ x y, ((w.alloc x).alloc y).cell? ⟨g, o + j, none⟩ = some (.int .u8 (k : Int)) := fun x y => (World.cell?_alloc_lt _ y _ (by simp; omega)).trans (hcA x)
  have h1 := fun w => s_l15Byte k w (by omega)
  rw [hS] at h1
  have hk0 : (k : Int) ≤ 255 := by omega
  clear hS
  unfold markRet
  go_enter Try.func29, Try.ntmps29
  go_wp2_with fail
  refine (h1 _).mono ?_; rintro e w1 ⟨rfl, hb1⟩
  have hb0 := (Below.two w _ _).up hb1
  have hR := ((Blk.new w 36 #[.int .i64 0, .int .i64 0]).alloc (.cells #[.int .i64 0, .int .i64 0] 36)).below hb1 (by simp; omega)
  obtain ⟨r0, r2, rf0, rf1, rlt⟩ := hR.at2
  go_wp2_with fail
  exact bodyPost_ret (results_blk3 Try.results29 Try.isAgg36 (by exact Try.sizeOf36) rfl ((hR.two _ _).alloc _)) rfl ⟨rfl, ((hb0.setCell (by exact Nat.le_refl _) _).setCell (by exact Nat.le_refl _) _).up (Below.one _ _)⟩
set_option maxHeartbeats 1000000 in
theorem s_GetMark_none (m c : Nat) (b : List UInt8) (j g o k : Nat) (w : World) (B : Nat) (hs : Sl w B 1 (some ⟨g, o, none⟩) m c (u8s b)) (hB : B ≤ w.heap.size) (hg : g < B) (hm : m ≤ 1048576) (hj : j < m) (hc : w.cell? ⟨g, o + j, none⟩ = some (.int .u8 (k : Int))) (hk : k = 193 ∨ (196 ≤ k ∧ k ≤ 223)) (hS : shortM k = (0, 0, false)) (hF : formM k = (0, 0)) :
    Calls Try.prog 29 #[.slice (some ⟨g, o, none⟩) m c, .int .i64 j] w fun e w' => e = .returned (markRet 0 0 0 1) ∧ Below w.heap.size w w' := by
  have hl := hs.blen
  have hgw : g < w.heap.size := by omega
  have hcA : ∀ x, (w.alloc x).cell? ⟨g, o + j, none⟩ = some (.int .u8 (k : Int)) := fun x => (World.cell?_alloc_lt w x _ (by exact hgw)).trans hc
  have hcB : ∀ x y, ((w.alloc x).alloc y).cell? ⟨g, o + j, none⟩ = some (.int .u8 (k : Int)) := fun x y => (World.cell?_alloc_lt _ y _ (by simp; omega)).trans (hcA x)
  have h1 := fun w => s_l15Byte k w (by omega)
  rw [hS] at h1
  have h2 := fun w => s_l15Kind k w (by omega)
  have hk0 : (k : Int) ≤ 255 := by omega
  unfold markRet
  have hsg : ¬ ((208 : Int) ≤ k ∧ (k : Int) ≤ 211) := by intro h; have h : k = 208 ∨ k = 209 ∨ k = 210 ∨ k = 211 := by omega
                                                         rcases h with rfl | rfl | rfl | rfl <;> revert hF <;> decide
  rw [hF, if_neg hsg] at h2
  clear hS hk hF
  go_enter Try.func29, Try.ntmps29
  go_wp2_with fail
  refine (h1 _).mono ?_; rintro e w1 ⟨rfl, hb1⟩
  have hb0 := (Below.two w _ _).up hb1
  have hcw := (hb0.cell (p := ⟨g, o + j, none⟩) (by exact hgw)).trans hc
  have hgz : g < w1.heap.size := by have := hb0.size; omega
  have hR1 := ((Blk.new w 36 #[.int .i64 0, .int .i64 0]).alloc (.cells #[.int .i64 0, .int .i64 0] 36)).below hb1 (by simp; omega)
  have hN1 := (Blk.newAt (w := w.alloc (.cells #[.int .i64 0, .int .i64 0] 36)) (g := w.heap.size + 1) (T := 36) (cs := #[.int .i64 0, .int .i64 0]) (by simp)).below hb1 (by simp)
  clear hb1
  go_wp2_with fail
  refine (h2 _).mono ?_; rintro e w2 ⟨rfl, d, rfl⟩
  obtain ⟨r0, r1, rf0, rf1, rlt⟩ := hR1.at2
  obtain ⟨n0, n1, nf0, nf1, nlt⟩ := hN1.at2
  go_wp2_with fail
  exact bodyPost_ret (results_blk3 Try.results29 Try.isAgg36 (by exact Try.sizeOf36) rfl ((hR1.alloc _).two _ _)) rfl ⟨rfl, ((below_drewN (hb0.up (Below.one _ _)) d).setCell (by exact Nat.le_refl _) _).setCell (by exact Nat.le_refl _) _⟩
set_option maxHeartbeats 1000000 in
theorem s_GetMark_short (m c : Nat) (b : List UInt8) (j g o k : Nat) (w : World) (B : Nat) (hs : Sl w B 1 (some ⟨g, o, none⟩) m c (u8s b)) (hB : B ≤ w.heap.size) (hg : g < B) (hm : m ≤ 1048576) (hj : j < m) (hc : w.cell? ⟨g, o + j, none⟩ = some (.int .u8 (k : Int))) (hk : k = 193 ∨ (196 ≤ k ∧ k ≤ 223)) (hS : shortM k = (0, 0, false)) (hsg : ¬ (208 ≤ k ∧ k ≤ 211)) (K : Int) (v : Nat) (hF : formM k = (K, (v : Int))) (hK : 0 < K) (hjv : m < j + 1 + v) (hv8 : v ≤ 8) (hv1 : 1 ≤ v) :
    Calls Try.prog 29 #[.slice (some ⟨g, o, none⟩) m c, .int .i64 j] w fun e w' => e = .returned (markRet 0 0 0 1) ∧ Below w.heap.size w w' := by
  have hl := hs.blen
  have hgw : g < w.heap.size := by omega
  have hcA : ∀ x, (w.alloc x).cell? ⟨g, o + j, none⟩ = some (.int .u8 (k : Int)) := fun x => (World.cell?_alloc_lt w x _ (by exact hgw)).trans hc
  have hcB : ∀ x y, ((w.alloc x).alloc y).cell? ⟨g, o + j, none⟩ = some (.int .u8 (k : Int)) := fun x y => (World.cell?_alloc_lt _ y _ (by simp; omega)).trans (hcA x)
  have h1 := fun w => s_l15Byte k w (by omega)
  rw [hS] at h1
  have h2 := fun w => s_l15Kind k w (by omega)
  have hk0 : (k : Int) ≤ 255 := by omega
  unfold markRet
  have hv0 : ((v : Int) == 0) = false := by simp; omega
  rw [hF, if_neg (by omega)] at h2
  have kz : ¬ K < 0 := by omega
  clear hS hk hF
  go_enter Try.func29, Try.ntmps29
  go_wp2_with fail
  refine (h1 _).mono ?_; rintro e w1 ⟨rfl, hb1⟩
  have hb0 := (Below.two w _ _).up hb1
  have hcw := (hb0.cell (p := ⟨g, o + j, none⟩) (by exact hgw)).trans hc
  have hgz : g < w1.heap.size := by have := hb0.size; omega
  have hR1 := ((Blk.new w 36 #[.int .i64 0, .int .i64 0]).alloc (.cells #[.int .i64 0, .int .i64 0] 36)).below hb1 (by simp; omega)
  have hN1 := (Blk.newAt (w := w.alloc (.cells #[.int .i64 0, .int .i64 0] 36)) (g := w.heap.size + 1) (T := 36) (cs := #[.int .i64 0, .int .i64 0]) (by simp)).below hb1 (by simp)
  clear hb1
  go_wp2_with fail
  refine (h2 _).mono ?_; rintro e w2 ⟨rfl, d, rfl⟩
  go_wp2_with fail
  have hb5 := (below_drewN (hb0.up (Below.one w1 (.cells #[.int .i64 0, .int .i64 0] 36))) d).up (Below.one _ (.cells #[.int .i64 K, .int .i64 0] 36))
  refine (s_l15Wide_short _ m c (j + 1) v _ hm (by omega) hv8 (by omega)).mono ?_; rintro e w6 ⟨rfl, rfl⟩
  have hR5 := ((hR1.alloc (.cells #[.int .i64 0, .int .i64 0] 36)).drewN d).alloc (.cells #[.int .i64 K, .int .i64 0] 36)
  have hN5 := ((hN1.alloc (.cells #[.int .i64 0, .int .i64 0] 36)).drewN d).alloc (.cells #[.int .i64 K, .int .i64 0] 36)
  have hM5 := Blk.newAt (w := (w1.alloc (.cells #[.int .i64 0, .int .i64 0] 36)).drewN d) (g := w1.heap.size + 1) (T := 36) (cs := #[.int .i64 K, .int .i64 0]) (by simp)
  have hgm : w.heap.size + 1 < w1.heap.size + 1 := by have := hR1.lt; omega
  generalize (((w1.alloc (.cells #[.int .i64 0, .int .i64 0] 36)).drewN d).alloc (.cells #[.int .i64 K, .int .i64 0] 36)) = w5 at hb5 hR5 hN5 hM5 ⊢
  generalize w1.heap.size + 1 = gm at hM5 hgm ⊢
  clear hb0 hcw hgz hR1 hN1
  have hgr : w.heap.size ≠ gm := by omega
  have hgr2 : w.heap.size ≤ gm := by omega
  obtain ⟨r0, r1, rf0, rf1, rlt⟩ := hR5.at2
  obtain ⟨n0, n1, nf0, nf1, nlt⟩ := hN5.at2
  obtain ⟨m0, m1, mf0, mf1, mlt⟩ := hM5.at2
  have HB2 : ∀ a b, Blk ((w5.setCell ⟨w.heap.size, 0, none⟩ a).setCell ⟨w.heap.size, 1, none⟩ b) w.heap.size 36 #[a, b] := fun a b => hR5.two a b
  have HK2 : ∀ a b, Below w.heap.size w ((w5.setCell ⟨w.heap.size, 0, none⟩ a).setCell ⟨w.heap.size, 1, none⟩ b) := fun a b => (hb5.setCell (by exact Nat.le_refl _) _).setCell (by exact Nat.le_refl _) _
  have HB5 : ∀ p a b, Blk (((w5.setCell ⟨gm, 0, none⟩ p).setCell ⟨w.heap.size, 0, none⟩ a).setCell ⟨w.heap.size, 1, none⟩ b) w.heap.size 36 #[a, b] := fun p a b => (hR5.far (by exact hgr) p).two a b
  have HK5 : ∀ p a b, Below w.heap.size w (((w5.setCell ⟨gm, 0, none⟩ p).setCell ⟨w.heap.size, 0, none⟩ a).setCell ⟨w.heap.size, 1, none⟩ b) := fun p a b => ((hb5.setCell (by exact hgr2) _).setCell (by exact Nat.le_refl _) _).setCell (by exact Nat.le_refl _) _
  go_wp2_with fail
  all_goals exact bodyPost_ret (results_blk3 Try.results29 Try.isAgg36 (by exact Try.sizeOf36) rfl (HB2 _ _)) rfl ⟨rfl, HK2 _ _⟩
set_option maxHeartbeats 1000000 in
theorem s_GetMark_short_neg (m c : Nat) (b : List UInt8) (j g o k : Nat) (w : World) (B : Nat) (hs : Sl w B 1 (some ⟨g, o, none⟩) m c (u8s b)) (hB : B ≤ w.heap.size) (hg : g < B) (hm : m ≤ 1048576) (hj : j < m) (hc : w.cell? ⟨g, o + j, none⟩ = some (.int .u8 (k : Int))) (hk : k = 193 ∨ (196 ≤ k ∧ k ≤ 223)) (hS : shortM k = (0, 0, false)) (hsg : 208 ≤ k ∧ k ≤ 211) (K : Int) (v : Nat) (hF : formM k = (K, (v : Int))) (hjv : m < j + 1 + v) (hv8 : v ≤ 8) (hv1 : 1 ≤ v) :
    Calls Try.prog 29 #[.slice (some ⟨g, o, none⟩) m c, .int .i64 j] w fun e w' => e = .returned (markRet 0 0 0 1) ∧ Below w.heap.size w w' := by
  have hl := hs.blen
  have hgw : g < w.heap.size := by omega
  have hcA : ∀ x, (w.alloc x).cell? ⟨g, o + j, none⟩ = some (.int .u8 (k : Int)) := fun x => (World.cell?_alloc_lt w x _ (by exact hgw)).trans hc
  have hcB : ∀ x y, ((w.alloc x).alloc y).cell? ⟨g, o + j, none⟩ = some (.int .u8 (k : Int)) := fun x y => (World.cell?_alloc_lt _ y _ (by simp; omega)).trans (hcA x)
  have h1 := fun w => s_l15Byte k w (by omega)
  rw [hS] at h1
  have h2 := fun w => s_l15Kind k w (by omega)
  have hk0 : (k : Int) ≤ 255 := by omega
  unfold markRet
  have hv0 : ((v : Int) == 0) = false := by simp; omega
  rw [hF, if_pos (by omega)] at h2
  clear hS hk hF
  go_enter Try.func29, Try.ntmps29
  go_wp2_with fail
  refine (h1 _).mono ?_; rintro e w1 ⟨rfl, hb1⟩
  have hb0 := (Below.two w _ _).up hb1
  have hcw := (hb0.cell (p := ⟨g, o + j, none⟩) (by exact hgw)).trans hc
  have hgz : g < w1.heap.size := by have := hb0.size; omega
  have hR1 := ((Blk.new w 36 #[.int .i64 0, .int .i64 0]).alloc (.cells #[.int .i64 0, .int .i64 0] 36)).below hb1 (by simp; omega)
  have hN1 := (Blk.newAt (w := w.alloc (.cells #[.int .i64 0, .int .i64 0] 36)) (g := w.heap.size + 1) (T := 36) (cs := #[.int .i64 0, .int .i64 0]) (by simp)).below hb1 (by simp)
  clear hb1
  go_wp2_with fail
  refine (h2 _).mono ?_; rintro e w2 ⟨rfl, d, rfl⟩
  go_wp2_with fail
  have hb5 := (below_drewN (hb0.up (Below.one w1 (.cells #[.int .i64 0, .int .i64 0] 36))) d).up (Below.one _ (.cells #[.int .i64 (-3), .int .i64 0] 36))
  refine (s_l15Wide_short _ m c (j + 1) v _ hm (by omega) hv8 (by omega)).mono ?_; rintro e w6 ⟨rfl, rfl⟩
  have hR5 := ((hR1.alloc (.cells #[.int .i64 0, .int .i64 0] 36)).drewN d).alloc (.cells #[.int .i64 (-3), .int .i64 0] 36)
  have hN5 := ((hN1.alloc (.cells #[.int .i64 0, .int .i64 0] 36)).drewN d).alloc (.cells #[.int .i64 (-3), .int .i64 0] 36)
  have hM5 := Blk.newAt (w := (w1.alloc (.cells #[.int .i64 0, .int .i64 0] 36)).drewN d) (g := w1.heap.size + 1) (T := 36) (cs := #[.int .i64 (-3), .int .i64 0]) (by simp)
  have hgm : w.heap.size + 1 < w1.heap.size + 1 := by have := hR1.lt; omega
  generalize (((w1.alloc (.cells #[.int .i64 0, .int .i64 0] 36)).drewN d).alloc (.cells #[.int .i64 (-3), .int .i64 0] 36)) = w5 at hb5 hR5 hN5 hM5 ⊢
  generalize w1.heap.size + 1 = gm at hM5 hgm ⊢
  clear hb0 hcw hgz hR1 hN1
  have hgr : w.heap.size ≠ gm := by omega
  have hgr2 : w.heap.size ≤ gm := by omega
  obtain ⟨r0, r1, rf0, rf1, rlt⟩ := hR5.at2
  obtain ⟨n0, n1, nf0, nf1, nlt⟩ := hN5.at2
  obtain ⟨m0, m1, mf0, mf1, mlt⟩ := hM5.at2
  have HB2 : ∀ a b, Blk ((w5.setCell ⟨w.heap.size, 0, none⟩ a).setCell ⟨w.heap.size, 1, none⟩ b) w.heap.size 36 #[a, b] := fun a b => hR5.two a b
  have HK2 : ∀ a b, Below w.heap.size w ((w5.setCell ⟨w.heap.size, 0, none⟩ a).setCell ⟨w.heap.size, 1, none⟩ b) := fun a b => (hb5.setCell (by exact Nat.le_refl _) _).setCell (by exact Nat.le_refl _) _
  have HB5 : ∀ p a b, Blk (((w5.setCell ⟨gm, 0, none⟩ p).setCell ⟨w.heap.size, 0, none⟩ a).setCell ⟨w.heap.size, 1, none⟩ b) w.heap.size 36 #[a, b] := fun p a b => (hR5.far (by exact hgr) p).two a b
  have HK5 : ∀ p a b, Below w.heap.size w (((w5.setCell ⟨gm, 0, none⟩ p).setCell ⟨w.heap.size, 0, none⟩ a).setCell ⟨w.heap.size, 1, none⟩ b) := fun p a b => ((hb5.setCell (by exact hgr2) _).setCell (by exact Nat.le_refl _) _).setCell (by exact Nat.le_refl _) _
  go_wp2_with fail
  refine (s_l15Below_short _ m c (j + 1) v _ hm (by omega) hv8 (by omega)).mono ?_; rintro e w6 ⟨rfl, rfl⟩
  go_wp2_with fail
  exact bodyPost_ret (results_blk3 Try.results29 Try.isAgg36 (by exact Try.sizeOf36) rfl (HB5 _ _ _)) rfl ⟨rfl, HK5 _ _ _⟩
end Go.Proofs.Ytihhedmehlemmaa
