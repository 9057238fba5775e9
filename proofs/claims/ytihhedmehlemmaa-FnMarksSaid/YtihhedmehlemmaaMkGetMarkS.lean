/- The reference's GetMark, a case at a time. -/
import Derived.Test.YtihhedmehlemmaaMkGetMarkI
set_option linter.unusedVariables false
set_option maxRecDepth 100000
set_option linter.unusedSimpArgs false
namespace Go.Proofs.Ytihhedmehlemmaa
open Go.RowKit

theorem Blk.at2 {w : World} {g : Nat} {T : TypeId} {a b : Value} (h : Blk w g T #[a, b]) : w.cell? ⟨g, 0, none⟩ = some a ∧ w.cell? ⟨g, 1, none⟩ = some b ∧ w.frozen? ⟨g, 0, none⟩ = false ∧ w.frozen? ⟨g, 1, none⟩ = false ∧ g < w.heap.size := ⟨h.cell 0, h.cell 1, h.frozen 0, h.frozen 1, h.lt⟩
theorem Blk.newAt {w : World} {g : Nat} {T : TypeId} {cs : Array Value} (h : w.heap.size = g) : Blk (w.alloc (.cells cs T)) g T cs := by subst h; exact Blk.new w T cs
set_option maxHeartbeats 1600000 in
theorem s_GetMark_int (m c : Nat) (b : List UInt8) (j g o k v : Nat) (w : World) (B : Nat) (hs : Sl w B 1 (some ⟨g, o, none⟩) m c (u8s b)) (hB : B ≤ w.heap.size) (hg : g < B) (hm : m ≤ 1048576) (hj : j < m) (hc : w.cell? ⟨g, o + j, none⟩ = some (.int .u8 (k : Int))) (hk : k = 193 ∨ (196 ≤ k ∧ k ≤ 223)) (hsg : ¬ (208 ≤ k ∧ k ≤ 211)) (hS : shortM k = (0, 0, false)) (hF : formM k = (3, (v : Int))) (hv : v = 1 ∨ v = 2 ∨ v = 4 ∨ v = 8) (hjv : j + 1 + v ≤ m)
    (x q : Int) (hx : ∀ w1, Sl w1 B 1 (some ⟨g, o, none⟩) m c (u8s b) → Calls Try.prog 65 #[.slice (some ⟨g, o, none⟩) m c, .int .i64 ((j : Int) + 1), .int .i64 v] w1 fun e w2 => e = .returned (.tuple #[.int .i64 x, .int .i64 q]) ∧ w1 = w2)
    (n1 K1 nx cd : Int) (hr : (q = 0 ∧ 3 = K1 ∧ n1 = x ∧ nx = (j + 1 + v : Nat) ∧ cd = 0) ∨ (q = 2 ∧ K1 = 0 ∧ n1 = 0 ∧ nx = 0 ∧ cd = 2)) :
    Calls Try.prog 29 #[.slice (some ⟨g, o, none⟩) m c, .int .i64 j] w fun e w' => e = .returned (.tuple #[.agg #[.int .i64 K1, .int .i64 n1], .int .i64 nx, .int .i64 cd]) ∧ Below w.heap.size w w' := by
  have hl := hs.blen
  have hcap := hs.cap
  have hgw : g < w.heap.size := by omega
  have hcA : ∀ x, (w.alloc x).cell? ⟨g, o + j, none⟩ = some (.int .u8 (k : Int)) := fun x => (World.cell?_alloc_lt w x _ (by exact hgw)).trans hc
  have hcB : ∀ x y, ((w.alloc x).alloc y).cell? ⟨g, o + j, none⟩ = some (.int .u8 (k : Int)) := fun x y => (World.cell?_alloc_lt _ y _ (by simp; omega)).trans (hcA x)
  have h1 := fun w => s_l15Byte k w (by omega)
  rw [hS] at h1
  have h2 := fun w => s_l15Kind k w (by omega)
  have hn : True := by trivial
  rw [hF, if_neg (by omega)] at h2
  have hk0 : (k : Int) ≤ 255 := by omega
  have hv8 : v ≤ 8 := by omega
  have hv1 : 1 ≤ v := by omega
  have hv0 : ((v : Int) == 0) = false := by simp; omega
  clear hk hF hS hsg hv hn
  rcases hr with ⟨rfl, rfl, rfl, rfl, rfl⟩ | ⟨rfl, rfl, rfl, rfl, rfl⟩
  · skip
    go_enter Try.func29, Try.ntmps29
    go_wp2_with fail
    refine (h1 _).mono ?_; rintro e w1 ⟨rfl, hb1⟩
    have hb0 := (Below.two w _ _).up hb1
    have hcw := (hb0.cell (p := ⟨g, o + j, none⟩) (by exact hgw)).trans hc
    have hgz : g < w1.heap.size := by have := hb0.size; omega
    have hR1 := ((Blk.new w 36 #[.int .i64 0, .int .i64 0]).alloc (.cells #[.int .i64 0, .int .i64 0] 36)).below hb1 (by simp; omega)
    have hN1 := (Blk.newAt (w := w.alloc (.cells #[.int .i64 0, .int .i64 0] 36)) (g := w.heap.size + 1) (T := 36) (cs := #[.int .i64 0, .int .i64 0]) (by simp)).below hb1 (by simp)
    clear hb1
    go_wp2_with fail
    refine (h2 _).mono ?_; rintro e w2 ⟨rfl, d, rfl⟩
    go_wp2_with fail
    have hb5 := (below_drewN (hb0.up (Below.one w1 (.cells #[.int .i64 0, .int .i64 0] 36))) d).up (Below.one _ (.cells #[.int .i64 3, .int .i64 0] 36))
    refine (hx _ (hs.below (hb5.mono hB))).mono ?_; rintro e w6 ⟨rfl, rfl⟩
    have hR5 := ((hR1.alloc (.cells #[.int .i64 0, .int .i64 0] 36)).drewN d).alloc (.cells #[.int .i64 3, .int .i64 0] 36)
    have hN5 := ((hN1.alloc (.cells #[.int .i64 0, .int .i64 0] 36)).drewN d).alloc (.cells #[.int .i64 3, .int .i64 0] 36)
    have hM5 := Blk.newAt (w := (w1.alloc (.cells #[.int .i64 0, .int .i64 0] 36)).drewN d) (g := w1.heap.size + 1) (T := 36) (cs := #[.int .i64 3, .int .i64 0]) (by simp)
    have hgm : w.heap.size + 1 < w1.heap.size + 1 := by have := hR1.lt; omega
    generalize (((w1.alloc (.cells #[.int .i64 0, .int .i64 0] 36)).drewN d).alloc (.cells #[.int .i64 3, .int .i64 0] 36)) = w5 at hb5 hR5 hN5 hM5 ⊢
    generalize w1.heap.size + 1 = gm at hM5 hgm ⊢
    clear hb0 hcw hgz hR1 hN1
    have hgr : w.heap.size ≠ gm := by omega
    have hgr2 : w.heap.size ≤ gm := by omega
    obtain ⟨r0, r1, rf0, rf1, rlt⟩ := hR5.at2
    obtain ⟨n0, n1, nf0, nf1, nlt⟩ := hN5.at2
    obtain ⟨m0, m1, mf0, mf1, mlt⟩ := hM5.at2
    have HB2 : ∀ a b, Blk ((w5.setCell ⟨w.heap.size, 0, none⟩ a).setCell ⟨w.heap.size, 1, none⟩ b) w.heap.size 36 #[a, b] := fun a b => hR5.two a b
    have HK2 : ∀ a b, Below w.heap.size w ((w5.setCell ⟨w.heap.size, 0, none⟩ a).setCell ⟨w.heap.size, 1, none⟩ b) := fun a b => (hb5.setCell (by exact Nat.le_refl _) _).setCell (by exact Nat.le_refl _) _
    have HB3 : ∀ p a b, Blk (((w5.setCell ⟨gm, 1, none⟩ p).setCell ⟨w.heap.size, 0, none⟩ a).setCell ⟨w.heap.size, 1, none⟩ b) w.heap.size 36 #[a, b] := fun p a b => (hR5.far (by exact hgr) p).two a b
    have HK3 : ∀ p a b, Below w.heap.size w (((w5.setCell ⟨gm, 1, none⟩ p).setCell ⟨w.heap.size, 0, none⟩ a).setCell ⟨w.heap.size, 1, none⟩ b) := fun p a b => ((hb5.setCell (by exact hgr2) _).setCell (by exact Nat.le_refl _) _).setCell (by exact Nat.le_refl _) _
    go_wp2_with fail
    exact bodyPost_ret (results_blk3 Try.results29 Try.isAgg36 (by exact Try.sizeOf36) rfl (HB3 _ _ _)) rfl ⟨rfl, HK3 _ _ _⟩
  · skip
    go_enter Try.func29, Try.ntmps29
    go_wp2_with fail
    refine (h1 _).mono ?_; rintro e w1 ⟨rfl, hb1⟩
    have hb0 := (Below.two w _ _).up hb1
    have hcw := (hb0.cell (p := ⟨g, o + j, none⟩) (by exact hgw)).trans hc
    have hgz : g < w1.heap.size := by have := hb0.size; omega
    have hR1 := ((Blk.new w 36 #[.int .i64 0, .int .i64 0]).alloc (.cells #[.int .i64 0, .int .i64 0] 36)).below hb1 (by simp; omega)
    have hN1 := (Blk.newAt (w := w.alloc (.cells #[.int .i64 0, .int .i64 0] 36)) (g := w.heap.size + 1) (T := 36) (cs := #[.int .i64 0, .int .i64 0]) (by simp)).below hb1 (by simp)
    clear hb1
    go_wp2_with fail
    refine (h2 _).mono ?_; rintro e w2 ⟨rfl, d, rfl⟩
    go_wp2_with fail
    have hb5 := (below_drewN (hb0.up (Below.one w1 (.cells #[.int .i64 0, .int .i64 0] 36))) d).up (Below.one _ (.cells #[.int .i64 3, .int .i64 0] 36))
    refine (hx _ (hs.below (hb5.mono hB))).mono ?_; rintro e w6 ⟨rfl, rfl⟩
    have hR5 := ((hR1.alloc (.cells #[.int .i64 0, .int .i64 0] 36)).drewN d).alloc (.cells #[.int .i64 3, .int .i64 0] 36)
    have hN5 := ((hN1.alloc (.cells #[.int .i64 0, .int .i64 0] 36)).drewN d).alloc (.cells #[.int .i64 3, .int .i64 0] 36)
    have hM5 := Blk.newAt (w := (w1.alloc (.cells #[.int .i64 0, .int .i64 0] 36)).drewN d) (g := w1.heap.size + 1) (T := 36) (cs := #[.int .i64 3, .int .i64 0]) (by simp)
    have hgm : w.heap.size + 1 < w1.heap.size + 1 := by have := hR1.lt; omega
    generalize (((w1.alloc (.cells #[.int .i64 0, .int .i64 0] 36)).drewN d).alloc (.cells #[.int .i64 3, .int .i64 0] 36)) = w5 at hb5 hR5 hN5 hM5 ⊢
    generalize w1.heap.size + 1 = gm at hM5 hgm ⊢
    clear hb0 hcw hgz hR1 hN1
    have hgr : w.heap.size ≠ gm := by omega
    have hgr2 : w.heap.size ≤ gm := by omega
    obtain ⟨r0, r1, rf0, rf1, rlt⟩ := hR5.at2
    obtain ⟨n0, n1, nf0, nf1, nlt⟩ := hN5.at2
    obtain ⟨m0, m1, mf0, mf1, mlt⟩ := hM5.at2
    have HB2 : ∀ a b, Blk ((w5.setCell ⟨w.heap.size, 0, none⟩ a).setCell ⟨w.heap.size, 1, none⟩ b) w.heap.size 36 #[a, b] := fun a b => hR5.two a b
    have HK2 : ∀ a b, Below w.heap.size w ((w5.setCell ⟨w.heap.size, 0, none⟩ a).setCell ⟨w.heap.size, 1, none⟩ b) := fun a b => (hb5.setCell (by exact Nat.le_refl _) _).setCell (by exact Nat.le_refl _) _
    have HB3 : ∀ p a b, Blk (((w5.setCell ⟨gm, 1, none⟩ p).setCell ⟨w.heap.size, 0, none⟩ a).setCell ⟨w.heap.size, 1, none⟩ b) w.heap.size 36 #[a, b] := fun p a b => (hR5.far (by exact hgr) p).two a b
    have HK3 : ∀ p a b, Below w.heap.size w (((w5.setCell ⟨gm, 1, none⟩ p).setCell ⟨w.heap.size, 0, none⟩ a).setCell ⟨w.heap.size, 1, none⟩ b) := fun p a b => ((hb5.setCell (by exact hgr2) _).setCell (by exact Nat.le_refl _) _).setCell (by exact Nat.le_refl _) _
    go_wp2_with fail
    exact bodyPost_ret (results_blk3 Try.results29 Try.isAgg36 (by exact Try.sizeOf36) rfl (HB2 _ _)) rfl ⟨rfl, HK2 _ _⟩
set_option maxHeartbeats 1600000 in
theorem s_GetMark_big (m c : Nat) (b : List UInt8) (j g o k v : Nat) (w : World) (B : Nat) (hs : Sl w B 1 (some ⟨g, o, none⟩) m c (u8s b)) (hB : B ≤ w.heap.size) (hg : g < B) (hm : m ≤ 1048576) (hj : j < m) (hc : w.cell? ⟨g, o + j, none⟩ = some (.int .u8 (k : Int))) (hk : k = 193 ∨ (196 ≤ k ∧ k ≤ 223)) (hsg : ¬ (208 ≤ k ∧ k ≤ 211)) (hS : shortM k = (0, 0, false)) (K : Int) (hK : 7 ≤ K ∧ K ≤ 10) (hF : formM k = (K, (v : Int))) (hv : v = 1 ∨ v = 2 ∨ v = 4 ∨ v = 8) (hjv : j + 1 + v ≤ m)
    (x q : Int) (hx : ∀ w1, Sl w1 B 1 (some ⟨g, o, none⟩) m c (u8s b) → Calls Try.prog 65 #[.slice (some ⟨g, o, none⟩) m c, .int .i64 ((j : Int) + 1), .int .i64 v] w1 fun e w2 => e = .returned (.tuple #[.int .i64 x, .int .i64 q]) ∧ w1 = w2)
    (hq : q = 0) (n1 K1 nx cd : Int) (hr : (x ≤ 65535 ∧ K = K1 ∧ n1 = x ∧ nx = (j + 1 + v : Nat) ∧ cd = 0) ∨ (65535 < x ∧ K1 = 0 ∧ n1 = 0 ∧ nx = 0 ∧ cd = 2)) :
    Calls Try.prog 29 #[.slice (some ⟨g, o, none⟩) m c, .int .i64 j] w fun e w' => e = .returned (.tuple #[.agg #[.int .i64 K1, .int .i64 n1], .int .i64 nx, .int .i64 cd]) ∧ Below w.heap.size w w' := by
  have hl := hs.blen
  have hcap := hs.cap
  have hgw : g < w.heap.size := by omega
  have hcA : ∀ x, (w.alloc x).cell? ⟨g, o + j, none⟩ = some (.int .u8 (k : Int)) := fun x => (World.cell?_alloc_lt w x _ (by exact hgw)).trans hc
  have hcB : ∀ x y, ((w.alloc x).alloc y).cell? ⟨g, o + j, none⟩ = some (.int .u8 (k : Int)) := fun x y => (World.cell?_alloc_lt _ y _ (by simp; omega)).trans (hcA x)
  have h1 := fun w => s_l15Byte k w (by omega)
  rw [hS] at h1
  have h2 := fun w => s_l15Kind k w (by omega)
  have hn : True := by trivial
  rw [hF, if_neg (by omega)] at h2
  have hk0 : (k : Int) ≤ 255 := by omega
  have hv8 : v ≤ 8 := by omega
  have hv1 : 1 ≤ v := by omega
  have hv0 : ((v : Int) == 0) = false := by simp; omega
  clear hk hF hS hsg hv hn
  have k0 : (K == 0) = false := by simp; omega
  have k3 : (K == 3) = false := by simp; omega
  have k4 : (K == 4) = false := by simp; omega
  have k5 : (K == 5) = false := by simp; omega
  subst hq
  rcases hr with ⟨hr, rfl, rfl, rfl, rfl⟩ | ⟨hr, rfl, rfl, rfl, rfl⟩
  · skip
    go_enter Try.func29, Try.ntmps29
    go_wp2_with fail
    refine (h1 _).mono ?_; rintro e w1 ⟨rfl, hb1⟩
    have hb0 := (Below.two w _ _).up hb1
    have hcw := (hb0.cell (p := ⟨g, o + j, none⟩) (by exact hgw)).trans hc
    have hgz : g < w1.heap.size := by have := hb0.size; omega
    have hR1 := ((Blk.new w 36 #[.int .i64 0, .int .i64 0]).alloc (.cells #[.int .i64 0, .int .i64 0] 36)).below hb1 (by simp; omega)
    have hN1 := (Blk.newAt (w := w.alloc (.cells #[.int .i64 0, .int .i64 0] 36)) (g := w.heap.size + 1) (T := 36) (cs := #[.int .i64 0, .int .i64 0]) (by simp)).below hb1 (by simp)
    clear hb1
    go_wp2_with fail
    refine (h2 _).mono ?_; rintro e w2 ⟨rfl, d, rfl⟩
    go_wp2_with fail
    have hb5 := (below_drewN (hb0.up (Below.one w1 (.cells #[.int .i64 0, .int .i64 0] 36))) d).up (Below.one _ (.cells #[.int .i64 K, .int .i64 0] 36))
    refine (hx _ (hs.below (hb5.mono hB))).mono ?_; rintro e w6 ⟨rfl, rfl⟩
    have hR5 := ((hR1.alloc (.cells #[.int .i64 0, .int .i64 0] 36)).drewN d).alloc (.cells #[.int .i64 K, .int .i64 0] 36)
    have hN5 := ((hN1.alloc (.cells #[.int .i64 0, .int .i64 0] 36)).drewN d).alloc (.cells #[.int .i64 K, .int .i64 0] 36)
    have hM5 := Blk.newAt (w := (w1.alloc (.cells #[.int .i64 0, .int .i64 0] 36)).drewN d) (g := w1.heap.size + 1) (T := 36) (cs := #[.int .i64 K, .int .i64 0]) (by simp)
    have hgm : w.heap.size + 1 < w1.heap.size + 1 := by have := hR1.lt; omega
    generalize (((w1.alloc (.cells #[.int .i64 0, .int .i64 0] 36)).drewN d).alloc (.cells #[.int .i64 K, .int .i64 0] 36)) = w5 at hb5 hR5 hN5 hM5 ⊢
    generalize w1.heap.size + 1 = gm at hM5 hgm ⊢
    clear hb0 hcw hgz hR1 hN1
    have hgr : w.heap.size ≠ gm := by omega
    have hgr2 : w.heap.size ≤ gm := by omega
    obtain ⟨r0, r1, rf0, rf1, rlt⟩ := hR5.at2
    obtain ⟨n0, n1, nf0, nf1, nlt⟩ := hN5.at2
    obtain ⟨m0, m1, mf0, mf1, mlt⟩ := hM5.at2
    have HB2 : ∀ a b, Blk ((w5.setCell ⟨w.heap.size, 0, none⟩ a).setCell ⟨w.heap.size, 1, none⟩ b) w.heap.size 36 #[a, b] := fun a b => hR5.two a b
    have HK2 : ∀ a b, Below w.heap.size w ((w5.setCell ⟨w.heap.size, 0, none⟩ a).setCell ⟨w.heap.size, 1, none⟩ b) := fun a b => (hb5.setCell (by exact Nat.le_refl _) _).setCell (by exact Nat.le_refl _) _
    have HB3 : ∀ p a b, Blk (((w5.setCell ⟨gm, 1, none⟩ p).setCell ⟨w.heap.size, 0, none⟩ a).setCell ⟨w.heap.size, 1, none⟩ b) w.heap.size 36 #[a, b] := fun p a b => (hR5.far (by exact hgr) p).two a b
    have HK3 : ∀ p a b, Below w.heap.size w (((w5.setCell ⟨gm, 1, none⟩ p).setCell ⟨w.heap.size, 0, none⟩ a).setCell ⟨w.heap.size, 1, none⟩ b) := fun p a b => ((hb5.setCell (by exact hgr2) _).setCell (by exact Nat.le_refl _) _).setCell (by exact Nat.le_refl _) _
    go_wp2_with fail
    exact bodyPost_ret (results_blk3 Try.results29 Try.isAgg36 (by exact Try.sizeOf36) rfl (HB3 _ _ _)) rfl ⟨rfl, HK3 _ _ _⟩
  · skip
    go_enter Try.func29, Try.ntmps29
    go_wp2_with fail
    refine (h1 _).mono ?_; rintro e w1 ⟨rfl, hb1⟩
    have hb0 := (Below.two w _ _).up hb1
    have hcw := (hb0.cell (p := ⟨g, o + j, none⟩) (by exact hgw)).trans hc
    have hgz : g < w1.heap.size := by have := hb0.size; omega
    have hR1 := ((Blk.new w 36 #[.int .i64 0, .int .i64 0]).alloc (.cells #[.int .i64 0, .int .i64 0] 36)).below hb1 (by simp; omega)
    have hN1 := (Blk.newAt (w := w.alloc (.cells #[.int .i64 0, .int .i64 0] 36)) (g := w.heap.size + 1) (T := 36) (cs := #[.int .i64 0, .int .i64 0]) (by simp)).below hb1 (by simp)
    clear hb1
    go_wp2_with fail
    refine (h2 _).mono ?_; rintro e w2 ⟨rfl, d, rfl⟩
    go_wp2_with fail
    have hb5 := (below_drewN (hb0.up (Below.one w1 (.cells #[.int .i64 0, .int .i64 0] 36))) d).up (Below.one _ (.cells #[.int .i64 K, .int .i64 0] 36))
    refine (hx _ (hs.below (hb5.mono hB))).mono ?_; rintro e w6 ⟨rfl, rfl⟩
    have hR5 := ((hR1.alloc (.cells #[.int .i64 0, .int .i64 0] 36)).drewN d).alloc (.cells #[.int .i64 K, .int .i64 0] 36)
    have hN5 := ((hN1.alloc (.cells #[.int .i64 0, .int .i64 0] 36)).drewN d).alloc (.cells #[.int .i64 K, .int .i64 0] 36)
    have hM5 := Blk.newAt (w := (w1.alloc (.cells #[.int .i64 0, .int .i64 0] 36)).drewN d) (g := w1.heap.size + 1) (T := 36) (cs := #[.int .i64 K, .int .i64 0]) (by simp)
    have hgm : w.heap.size + 1 < w1.heap.size + 1 := by have := hR1.lt; omega
    generalize (((w1.alloc (.cells #[.int .i64 0, .int .i64 0] 36)).drewN d).alloc (.cells #[.int .i64 K, .int .i64 0] 36)) = w5 at hb5 hR5 hN5 hM5 ⊢
    generalize w1.heap.size + 1 = gm at hM5 hgm ⊢
    clear hb0 hcw hgz hR1 hN1
    have hgr : w.heap.size ≠ gm := by omega
    have hgr2 : w.heap.size ≤ gm := by omega
    obtain ⟨r0, r1, rf0, rf1, rlt⟩ := hR5.at2
    obtain ⟨n0, n1, nf0, nf1, nlt⟩ := hN5.at2
    obtain ⟨m0, m1, mf0, mf1, mlt⟩ := hM5.at2
    have HB2 : ∀ a b, Blk ((w5.setCell ⟨w.heap.size, 0, none⟩ a).setCell ⟨w.heap.size, 1, none⟩ b) w.heap.size 36 #[a, b] := fun a b => hR5.two a b
    have HK2 : ∀ a b, Below w.heap.size w ((w5.setCell ⟨w.heap.size, 0, none⟩ a).setCell ⟨w.heap.size, 1, none⟩ b) := fun a b => (hb5.setCell (by exact Nat.le_refl _) _).setCell (by exact Nat.le_refl _) _
    have HB3 : ∀ p a b, Blk (((w5.setCell ⟨gm, 1, none⟩ p).setCell ⟨w.heap.size, 0, none⟩ a).setCell ⟨w.heap.size, 1, none⟩ b) w.heap.size 36 #[a, b] := fun p a b => (hR5.far (by exact hgr) p).two a b
    have HK3 : ∀ p a b, Below w.heap.size w (((w5.setCell ⟨gm, 1, none⟩ p).setCell ⟨w.heap.size, 0, none⟩ a).setCell ⟨w.heap.size, 1, none⟩ b) := fun p a b => ((hb5.setCell (by exact hgr2) _).setCell (by exact Nat.le_refl _) _).setCell (by exact Nat.le_refl _) _
    go_wp2_with fail
    exact bodyPost_ret (results_blk3 Try.results29 Try.isAgg36 (by exact Try.sizeOf36) rfl (HB2 _ _)) rfl ⟨rfl, HK2 _ _⟩
set_option maxHeartbeats 1600000 in
theorem s_GetMark_odd (m c : Nat) (b : List UInt8) (j g o k v : Nat) (w : World) (B : Nat) (hs : Sl w B 1 (some ⟨g, o, none⟩) m c (u8s b)) (hB : B ≤ w.heap.size) (hg : g < B) (hm : m ≤ 1048576) (hj : j < m) (hc : w.cell? ⟨g, o + j, none⟩ = some (.int .u8 (k : Int))) (hk : k = 193 ∨ (196 ≤ k ∧ k ≤ 223)) (hsg : ¬ (208 ≤ k ∧ k ≤ 211)) (hS : shortM k = (0, 0, false)) (hF : formM k = (5, (v : Int))) (hv : v = 2) (hjv : j + 1 + v ≤ m)
    (x q : Int) (hx : ∀ w1, Sl w1 B 1 (some ⟨g, o, none⟩) m c (u8s b) → Calls Try.prog 65 #[.slice (some ⟨g, o, none⟩) m c, .int .i64 ((j : Int) + 1), .int .i64 v] w1 fun e w2 => e = .returned (.tuple #[.int .i64 x, .int .i64 q]) ∧ w1 = w2)
    (hq : q = 0) (n1 K1 nx cd : Int) (hr : (inR x 256 258 = true ∧ (256 ≤ x ∧ x ≤ 258) ∧ K1 = 5 ∧ n1 = x - 256 ∧ nx = (j + 1 + v : Nat) ∧ cd = 0) ∨ (inR x 256 258 = false ∧ K1 = 0 ∧ n1 = 0 ∧ nx = 0 ∧ cd = 1)) :
    Calls Try.prog 29 #[.slice (some ⟨g, o, none⟩) m c, .int .i64 j] w fun e w' => e = .returned (.tuple #[.agg #[.int .i64 K1, .int .i64 n1], .int .i64 nx, .int .i64 cd]) ∧ Below w.heap.size w w' := by
  have hl := hs.blen
  have hcap := hs.cap
  have hgw : g < w.heap.size := by omega
  have hcA : ∀ x, (w.alloc x).cell? ⟨g, o + j, none⟩ = some (.int .u8 (k : Int)) := fun x => (World.cell?_alloc_lt w x _ (by exact hgw)).trans hc
  have hcB : ∀ x y, ((w.alloc x).alloc y).cell? ⟨g, o + j, none⟩ = some (.int .u8 (k : Int)) := fun x y => (World.cell?_alloc_lt _ y _ (by simp; omega)).trans (hcA x)
  have h1 := fun w => s_l15Byte k w (by omega)
  rw [hS] at h1
  have h2 := fun w => s_l15Kind k w (by omega)
  have hn : True := by trivial
  rw [hF, if_neg (by omega)] at h2
  have hk0 : (k : Int) ≤ 255 := by omega
  have hv8 : v ≤ 8 := by omega
  have hv1 : 1 ≤ v := by omega
  have hv0 : ((v : Int) == 0) = false := by simp; omega
  clear hk hF hS hsg hv hn
  subst hq
  rcases hr with ⟨hr, ⟨hr2, hr3⟩, rfl, rfl, rfl, rfl⟩ | ⟨hr, rfl, rfl, rfl, rfl⟩
  · skip
    go_enter Try.func29, Try.ntmps29
    go_wp2_with fail
    refine (h1 _).mono ?_; rintro e w1 ⟨rfl, hb1⟩
    have hb0 := (Below.two w _ _).up hb1
    have hcw := (hb0.cell (p := ⟨g, o + j, none⟩) (by exact hgw)).trans hc
    have hgz : g < w1.heap.size := by have := hb0.size; omega
    have hR1 := ((Blk.new w 36 #[.int .i64 0, .int .i64 0]).alloc (.cells #[.int .i64 0, .int .i64 0] 36)).below hb1 (by simp; omega)
    have hN1 := (Blk.newAt (w := w.alloc (.cells #[.int .i64 0, .int .i64 0] 36)) (g := w.heap.size + 1) (T := 36) (cs := #[.int .i64 0, .int .i64 0]) (by simp)).below hb1 (by simp)
    clear hb1
    go_wp2_with fail
    refine (h2 _).mono ?_; rintro e w2 ⟨rfl, d, rfl⟩
    go_wp2_with fail
    have hb5 := (below_drewN (hb0.up (Below.one w1 (.cells #[.int .i64 0, .int .i64 0] 36))) d).up (Below.one _ (.cells #[.int .i64 5, .int .i64 0] 36))
    refine (hx _ (hs.below (hb5.mono hB))).mono ?_; rintro e w6 ⟨rfl, rfl⟩
    have hR5 := ((hR1.alloc (.cells #[.int .i64 0, .int .i64 0] 36)).drewN d).alloc (.cells #[.int .i64 5, .int .i64 0] 36)
    have hN5 := ((hN1.alloc (.cells #[.int .i64 0, .int .i64 0] 36)).drewN d).alloc (.cells #[.int .i64 5, .int .i64 0] 36)
    have hM5 := Blk.newAt (w := (w1.alloc (.cells #[.int .i64 0, .int .i64 0] 36)).drewN d) (g := w1.heap.size + 1) (T := 36) (cs := #[.int .i64 5, .int .i64 0]) (by simp)
    have hgm : w.heap.size + 1 < w1.heap.size + 1 := by have := hR1.lt; omega
    generalize (((w1.alloc (.cells #[.int .i64 0, .int .i64 0] 36)).drewN d).alloc (.cells #[.int .i64 5, .int .i64 0] 36)) = w5 at hb5 hR5 hN5 hM5 ⊢
    generalize w1.heap.size + 1 = gm at hM5 hgm ⊢
    clear hb0 hcw hgz hR1 hN1
    have hgr : w.heap.size ≠ gm := by omega
    have hgr2 : w.heap.size ≤ gm := by omega
    obtain ⟨r0, r1, rf0, rf1, rlt⟩ := hR5.at2
    obtain ⟨n0, n1, nf0, nf1, nlt⟩ := hN5.at2
    obtain ⟨m0, m1, mf0, mf1, mlt⟩ := hM5.at2
    have HB2 : ∀ a b, Blk ((w5.setCell ⟨w.heap.size, 0, none⟩ a).setCell ⟨w.heap.size, 1, none⟩ b) w.heap.size 36 #[a, b] := fun a b => hR5.two a b
    have HK2 : ∀ a b, Below w.heap.size w ((w5.setCell ⟨w.heap.size, 0, none⟩ a).setCell ⟨w.heap.size, 1, none⟩ b) := fun a b => (hb5.setCell (by exact Nat.le_refl _) _).setCell (by exact Nat.le_refl _) _
    have HB3 : ∀ p a b, Blk (((w5.setCell ⟨gm, 1, none⟩ p).setCell ⟨w.heap.size, 0, none⟩ a).setCell ⟨w.heap.size, 1, none⟩ b) w.heap.size 36 #[a, b] := fun p a b => (hR5.far (by exact hgr) p).two a b
    have HK3 : ∀ p a b, Below w.heap.size w (((w5.setCell ⟨gm, 1, none⟩ p).setCell ⟨w.heap.size, 0, none⟩ a).setCell ⟨w.heap.size, 1, none⟩ b) := fun p a b => ((hb5.setCell (by exact hgr2) _).setCell (by exact Nat.le_refl _) _).setCell (by exact Nat.le_refl _) _
    go_wp2_with (go_at_call 53; refine (s_l1In _ _ _ _).mono ?_; rintro e w' ⟨rfl, rfl⟩; rw [hr])
    exact bodyPost_ret (results_blk3 Try.results29 Try.isAgg36 (by exact Try.sizeOf36) rfl (HB3 _ _ _)) rfl ⟨rfl, HK3 _ _ _⟩
  · skip
    go_enter Try.func29, Try.ntmps29
    go_wp2_with fail
    refine (h1 _).mono ?_; rintro e w1 ⟨rfl, hb1⟩
    have hb0 := (Below.two w _ _).up hb1
    have hcw := (hb0.cell (p := ⟨g, o + j, none⟩) (by exact hgw)).trans hc
    have hgz : g < w1.heap.size := by have := hb0.size; omega
    have hR1 := ((Blk.new w 36 #[.int .i64 0, .int .i64 0]).alloc (.cells #[.int .i64 0, .int .i64 0] 36)).below hb1 (by simp; omega)
    have hN1 := (Blk.newAt (w := w.alloc (.cells #[.int .i64 0, .int .i64 0] 36)) (g := w.heap.size + 1) (T := 36) (cs := #[.int .i64 0, .int .i64 0]) (by simp)).below hb1 (by simp)
    clear hb1
    go_wp2_with fail
    refine (h2 _).mono ?_; rintro e w2 ⟨rfl, d, rfl⟩
    go_wp2_with fail
    have hb5 := (below_drewN (hb0.up (Below.one w1 (.cells #[.int .i64 0, .int .i64 0] 36))) d).up (Below.one _ (.cells #[.int .i64 5, .int .i64 0] 36))
    refine (hx _ (hs.below (hb5.mono hB))).mono ?_; rintro e w6 ⟨rfl, rfl⟩
    have hR5 := ((hR1.alloc (.cells #[.int .i64 0, .int .i64 0] 36)).drewN d).alloc (.cells #[.int .i64 5, .int .i64 0] 36)
    have hN5 := ((hN1.alloc (.cells #[.int .i64 0, .int .i64 0] 36)).drewN d).alloc (.cells #[.int .i64 5, .int .i64 0] 36)
    have hM5 := Blk.newAt (w := (w1.alloc (.cells #[.int .i64 0, .int .i64 0] 36)).drewN d) (g := w1.heap.size + 1) (T := 36) (cs := #[.int .i64 5, .int .i64 0]) (by simp)
    have hgm : w.heap.size + 1 < w1.heap.size + 1 := by have := hR1.lt; omega
    generalize (((w1.alloc (.cells #[.int .i64 0, .int .i64 0] 36)).drewN d).alloc (.cells #[.int .i64 5, .int .i64 0] 36)) = w5 at hb5 hR5 hN5 hM5 ⊢
    generalize w1.heap.size + 1 = gm at hM5 hgm ⊢
    clear hb0 hcw hgz hR1 hN1
    have hgr : w.heap.size ≠ gm := by omega
    have hgr2 : w.heap.size ≤ gm := by omega
    obtain ⟨r0, r1, rf0, rf1, rlt⟩ := hR5.at2
    obtain ⟨n0, n1, nf0, nf1, nlt⟩ := hN5.at2
    obtain ⟨m0, m1, mf0, mf1, mlt⟩ := hM5.at2
    have HB2 : ∀ a b, Blk ((w5.setCell ⟨w.heap.size, 0, none⟩ a).setCell ⟨w.heap.size, 1, none⟩ b) w.heap.size 36 #[a, b] := fun a b => hR5.two a b
    have HK2 : ∀ a b, Below w.heap.size w ((w5.setCell ⟨w.heap.size, 0, none⟩ a).setCell ⟨w.heap.size, 1, none⟩ b) := fun a b => (hb5.setCell (by exact Nat.le_refl _) _).setCell (by exact Nat.le_refl _) _
    have HB3 : ∀ p a b, Blk (((w5.setCell ⟨gm, 1, none⟩ p).setCell ⟨w.heap.size, 0, none⟩ a).setCell ⟨w.heap.size, 1, none⟩ b) w.heap.size 36 #[a, b] := fun p a b => (hR5.far (by exact hgr) p).two a b
    have HK3 : ∀ p a b, Below w.heap.size w (((w5.setCell ⟨gm, 1, none⟩ p).setCell ⟨w.heap.size, 0, none⟩ a).setCell ⟨w.heap.size, 1, none⟩ b) := fun p a b => ((hb5.setCell (by exact hgr2) _).setCell (by exact Nat.le_refl _) _).setCell (by exact Nat.le_refl _) _
    go_wp2_with (go_at_call 53; refine (s_l1In _ _ _ _).mono ?_; rintro e w' ⟨rfl, rfl⟩; rw [hr])
    exact bodyPost_ret (results_blk3 Try.results29 Try.isAgg36 (by exact Try.sizeOf36) rfl (HB2 _ _)) rfl ⟨rfl, HK2 _ _⟩
set_option maxHeartbeats 1600000 in
theorem s_GetMark_neg (m c : Nat) (b : List UInt8) (j g o k v : Nat) (w : World) (B : Nat) (hs : Sl w B 1 (some ⟨g, o, none⟩) m c (u8s b)) (hB : B ≤ w.heap.size) (hg : g < B) (hm : m ≤ 1048576) (hj : j < m) (hc : w.cell? ⟨g, o + j, none⟩ = some (.int .u8 (k : Int))) (hk : k = 193 ∨ (196 ≤ k ∧ k ≤ 223)) (hsg : 208 ≤ k ∧ k ≤ 211) (hS : shortM k = (0, 0, false)) (hF : formM k = (3, (v : Int))) (hv : v = 1 ∨ v = 2 ∨ v = 4 ∨ v = 8) (hjv : j + 1 + v ≤ m)
    (x q : Int) (hx : ∀ w1, Sl w1 B 1 (some ⟨g, o, none⟩) m c (u8s b) → Calls Try.prog 65 #[.slice (some ⟨g, o, none⟩) m c, .int .i64 ((j : Int) + 1), .int .i64 v] w1 fun e w2 => e = .returned (.tuple #[.int .i64 x, .int .i64 q]) ∧ w1 = w2)
    (x2 q2 : Int) (hx2 : ∀ w1, Sl w1 B 1 (some ⟨g, o, none⟩) m c (u8s b) → Calls Try.prog 66 #[.slice (some ⟨g, o, none⟩) m c, .int .i64 ((j : Int) + 1), .int .i64 v] w1 fun e w2 => e = .returned (.tuple #[.int .i64 x2, .int .i64 q2]) ∧ w1 = w2) (n1 K1 nx cd : Int) (hr : (q2 = 0 ∧ 3 = K1 ∧ n1 = x2 ∧ nx = (j + 1 + v : Nat) ∧ cd = 0) ∨ (q2 = 2 ∧ K1 = 0 ∧ n1 = 0 ∧ nx = 0 ∧ cd = 2)) :
    Calls Try.prog 29 #[.slice (some ⟨g, o, none⟩) m c, .int .i64 j] w fun e w' => e = .returned (.tuple #[.agg #[.int .i64 K1, .int .i64 n1], .int .i64 nx, .int .i64 cd]) ∧ Below w.heap.size w w' := by
  have hl := hs.blen
  have hcap := hs.cap
  have hgw : g < w.heap.size := by omega
  have hcA : ∀ x, (w.alloc x).cell? ⟨g, o + j, none⟩ = some (.int .u8 (k : Int)) := fun x => (World.cell?_alloc_lt w x _ (by exact hgw)).trans hc
  have hcB : ∀ x y, ((w.alloc x).alloc y).cell? ⟨g, o + j, none⟩ = some (.int .u8 (k : Int)) := fun x y => (World.cell?_alloc_lt _ y _ (by simp; omega)).trans (hcA x)
  have h1 := fun w => s_l15Byte k w (by omega)
  rw [hS] at h1
  have h2 := fun w => s_l15Kind k w (by omega)
  have hn : (208 : Int) ≤ k ∧ (k : Int) ≤ 211 := by omega
  rw [hF, if_pos hn] at h2
  have hk0 : (k : Int) ≤ 255 := by omega
  have hv8 : v ≤ 8 := by omega
  have hv1 : 1 ≤ v := by omega
  have hv0 : ((v : Int) == 0) = false := by simp; omega
  clear hk hF hS hsg hv hn
  rcases hr with ⟨rfl, rfl, rfl, rfl, rfl⟩ | ⟨rfl, rfl, rfl, rfl, rfl⟩
  · skip
    go_enter Try.func29, Try.ntmps29
    go_wp2_with fail
    refine (h1 _).mono ?_; rintro e w1 ⟨rfl, hb1⟩
    have hb0 := (Below.two w _ _).up hb1
    have hcw := (hb0.cell (p := ⟨g, o + j, none⟩) (by exact hgw)).trans hc
    have hgz : g < w1.heap.size := by have := hb0.size; omega
    have hR1 := ((Blk.new w 36 #[.int .i64 0, .int .i64 0]).alloc (.cells #[.int .i64 0, .int .i64 0] 36)).below hb1 (by simp; omega)
    have hN1 := (Blk.newAt (w := w.alloc (.cells #[.int .i64 0, .int .i64 0] 36)) (g := w.heap.size + 1) (T := 36) (cs := #[.int .i64 0, .int .i64 0]) (by simp)).below hb1 (by simp)
    clear hb1
    go_wp2_with fail
    refine (h2 _).mono ?_; rintro e w2 ⟨rfl, d, rfl⟩
    go_wp2_with fail
    have hb5 := (below_drewN (hb0.up (Below.one w1 (.cells #[.int .i64 0, .int .i64 0] 36))) d).up (Below.one _ (.cells #[.int .i64 (-3), .int .i64 0] 36))
    refine (hx _ (hs.below (hb5.mono hB))).mono ?_; rintro e w6 ⟨rfl, rfl⟩
    have hR5 := ((hR1.alloc (.cells #[.int .i64 0, .int .i64 0] 36)).drewN d).alloc (.cells #[.int .i64 (-3), .int .i64 0] 36)
    have hN5 := ((hN1.alloc (.cells #[.int .i64 0, .int .i64 0] 36)).drewN d).alloc (.cells #[.int .i64 (-3), .int .i64 0] 36)
    have hM5 := Blk.newAt (w := (w1.alloc (.cells #[.int .i64 0, .int .i64 0] 36)).drewN d) (g := w1.heap.size + 1) (T := 36) (cs := #[.int .i64 (-3), .int .i64 0]) (by simp)
    have hgm : w.heap.size + 1 < w1.heap.size + 1 := by have := hR1.lt; omega
    generalize (((w1.alloc (.cells #[.int .i64 0, .int .i64 0] 36)).drewN d).alloc (.cells #[.int .i64 (-3), .int .i64 0] 36)) = w5 at hb5 hR5 hN5 hM5 ⊢
    generalize w1.heap.size + 1 = gm at hM5 hgm ⊢
    clear hb0 hcw hgz hR1 hN1
    have hgr : w.heap.size ≠ gm := by omega
    have hgr2 : w.heap.size ≤ gm := by omega
    obtain ⟨r0, r1, rf0, rf1, rlt⟩ := hR5.at2
    obtain ⟨n0, n1, nf0, nf1, nlt⟩ := hN5.at2
    obtain ⟨m0, m1, mf0, mf1, mlt⟩ := hM5.at2
    have HB2 : ∀ a b, Blk ((w5.setCell ⟨w.heap.size, 0, none⟩ a).setCell ⟨w.heap.size, 1, none⟩ b) w.heap.size 36 #[a, b] := fun a b => hR5.two a b
    have HK2 : ∀ a b, Below w.heap.size w ((w5.setCell ⟨w.heap.size, 0, none⟩ a).setCell ⟨w.heap.size, 1, none⟩ b) := fun a b => (hb5.setCell (by exact Nat.le_refl _) _).setCell (by exact Nat.le_refl _) _
    have HB3 : ∀ p a b, Blk (((w5.setCell ⟨gm, 1, none⟩ p).setCell ⟨w.heap.size, 0, none⟩ a).setCell ⟨w.heap.size, 1, none⟩ b) w.heap.size 36 #[a, b] := fun p a b => (hR5.far (by exact hgr) p).two a b
    have HK3 : ∀ p a b, Below w.heap.size w (((w5.setCell ⟨gm, 1, none⟩ p).setCell ⟨w.heap.size, 0, none⟩ a).setCell ⟨w.heap.size, 1, none⟩ b) := fun p a b => ((hb5.setCell (by exact hgr2) _).setCell (by exact Nat.le_refl _) _).setCell (by exact Nat.le_refl _) _
    go_wp2_with fail
    refine (hx2 _ ((hs.below (hb5.mono hB)).setCell (by simp only; omega) _)).mono ?_; rintro e w6 ⟨rfl, rfl⟩
    have HB4 : ∀ p p2 a b, Blk ((((w5.setCell ⟨gm, 0, none⟩ p).setCell ⟨gm, 1, none⟩ p2).setCell ⟨w.heap.size, 0, none⟩ a).setCell ⟨w.heap.size, 1, none⟩ b) w.heap.size 36 #[a, b] := fun p p2 a b => ((hR5.far (by exact hgr) p).far (by exact hgr) p2).two a b
    have HK4 : ∀ p p2 a b, Below w.heap.size w ((((w5.setCell ⟨gm, 0, none⟩ p).setCell ⟨gm, 1, none⟩ p2).setCell ⟨w.heap.size, 0, none⟩ a).setCell ⟨w.heap.size, 1, none⟩ b) := fun p p2 a b => (((hb5.setCell (by exact hgr2) _).setCell (by exact hgr2) _).setCell (by exact Nat.le_refl _) _).setCell (by exact Nat.le_refl _) _
    have HB5 : ∀ p a b, Blk (((w5.setCell ⟨gm, 0, none⟩ p).setCell ⟨w.heap.size, 0, none⟩ a).setCell ⟨w.heap.size, 1, none⟩ b) w.heap.size 36 #[a, b] := fun p a b => (hR5.far (by exact hgr) p).two a b
    have HK5 : ∀ p a b, Below w.heap.size w (((w5.setCell ⟨gm, 0, none⟩ p).setCell ⟨w.heap.size, 0, none⟩ a).setCell ⟨w.heap.size, 1, none⟩ b) := fun p a b => ((hb5.setCell (by exact hgr2) _).setCell (by exact Nat.le_refl _) _).setCell (by exact Nat.le_refl _) _
    go_wp2_with fail
    exact bodyPost_ret (results_blk3 Try.results29 Try.isAgg36 (by exact Try.sizeOf36) rfl (HB4 _ _ _ _)) rfl ⟨rfl, HK4 _ _ _ _⟩
  · skip
    go_enter Try.func29, Try.ntmps29
    go_wp2_with fail
    refine (h1 _).mono ?_; rintro e w1 ⟨rfl, hb1⟩
    have hb0 := (Below.two w _ _).up hb1
    have hcw := (hb0.cell (p := ⟨g, o + j, none⟩) (by exact hgw)).trans hc
    have hgz : g < w1.heap.size := by have := hb0.size; omega
    have hR1 := ((Blk.new w 36 #[.int .i64 0, .int .i64 0]).alloc (.cells #[.int .i64 0, .int .i64 0] 36)).below hb1 (by simp; omega)
    have hN1 := (Blk.newAt (w := w.alloc (.cells #[.int .i64 0, .int .i64 0] 36)) (g := w.heap.size + 1) (T := 36) (cs := #[.int .i64 0, .int .i64 0]) (by simp)).below hb1 (by simp)
    clear hb1
    go_wp2_with fail
    refine (h2 _).mono ?_; rintro e w2 ⟨rfl, d, rfl⟩
    go_wp2_with fail
    have hb5 := (below_drewN (hb0.up (Below.one w1 (.cells #[.int .i64 0, .int .i64 0] 36))) d).up (Below.one _ (.cells #[.int .i64 (-3), .int .i64 0] 36))
    refine (hx _ (hs.below (hb5.mono hB))).mono ?_; rintro e w6 ⟨rfl, rfl⟩
    have hR5 := ((hR1.alloc (.cells #[.int .i64 0, .int .i64 0] 36)).drewN d).alloc (.cells #[.int .i64 (-3), .int .i64 0] 36)
    have hN5 := ((hN1.alloc (.cells #[.int .i64 0, .int .i64 0] 36)).drewN d).alloc (.cells #[.int .i64 (-3), .int .i64 0] 36)
    have hM5 := Blk.newAt (w := (w1.alloc (.cells #[.int .i64 0, .int .i64 0] 36)).drewN d) (g := w1.heap.size + 1) (T := 36) (cs := #[.int .i64 (-3), .int .i64 0]) (by simp)
    have hgm : w.heap.size + 1 < w1.heap.size + 1 := by have := hR1.lt; omega
    generalize (((w1.alloc (.cells #[.int .i64 0, .int .i64 0] 36)).drewN d).alloc (.cells #[.int .i64 (-3), .int .i64 0] 36)) = w5 at hb5 hR5 hN5 hM5 ⊢
    generalize w1.heap.size + 1 = gm at hM5 hgm ⊢
    clear hb0 hcw hgz hR1 hN1
    have hgr : w.heap.size ≠ gm := by omega
    have hgr2 : w.heap.size ≤ gm := by omega
    obtain ⟨r0, r1, rf0, rf1, rlt⟩ := hR5.at2
    obtain ⟨n0, n1, nf0, nf1, nlt⟩ := hN5.at2
    obtain ⟨m0, m1, mf0, mf1, mlt⟩ := hM5.at2
    have HB2 : ∀ a b, Blk ((w5.setCell ⟨w.heap.size, 0, none⟩ a).setCell ⟨w.heap.size, 1, none⟩ b) w.heap.size 36 #[a, b] := fun a b => hR5.two a b
    have HK2 : ∀ a b, Below w.heap.size w ((w5.setCell ⟨w.heap.size, 0, none⟩ a).setCell ⟨w.heap.size, 1, none⟩ b) := fun a b => (hb5.setCell (by exact Nat.le_refl _) _).setCell (by exact Nat.le_refl _) _
    have HB3 : ∀ p a b, Blk (((w5.setCell ⟨gm, 1, none⟩ p).setCell ⟨w.heap.size, 0, none⟩ a).setCell ⟨w.heap.size, 1, none⟩ b) w.heap.size 36 #[a, b] := fun p a b => (hR5.far (by exact hgr) p).two a b
    have HK3 : ∀ p a b, Below w.heap.size w (((w5.setCell ⟨gm, 1, none⟩ p).setCell ⟨w.heap.size, 0, none⟩ a).setCell ⟨w.heap.size, 1, none⟩ b) := fun p a b => ((hb5.setCell (by exact hgr2) _).setCell (by exact Nat.le_refl _) _).setCell (by exact Nat.le_refl _) _
    go_wp2_with fail
    refine (hx2 _ ((hs.below (hb5.mono hB)).setCell (by simp only; omega) _)).mono ?_; rintro e w6 ⟨rfl, rfl⟩
    have HB4 : ∀ p p2 a b, Blk ((((w5.setCell ⟨gm, 0, none⟩ p).setCell ⟨gm, 1, none⟩ p2).setCell ⟨w.heap.size, 0, none⟩ a).setCell ⟨w.heap.size, 1, none⟩ b) w.heap.size 36 #[a, b] := fun p p2 a b => ((hR5.far (by exact hgr) p).far (by exact hgr) p2).two a b
    have HK4 : ∀ p p2 a b, Below w.heap.size w ((((w5.setCell ⟨gm, 0, none⟩ p).setCell ⟨gm, 1, none⟩ p2).setCell ⟨w.heap.size, 0, none⟩ a).setCell ⟨w.heap.size, 1, none⟩ b) := fun p p2 a b => (((hb5.setCell (by exact hgr2) _).setCell (by exact hgr2) _).setCell (by exact Nat.le_refl _) _).setCell (by exact Nat.le_refl _) _
    have HB5 : ∀ p a b, Blk (((w5.setCell ⟨gm, 0, none⟩ p).setCell ⟨w.heap.size, 0, none⟩ a).setCell ⟨w.heap.size, 1, none⟩ b) w.heap.size 36 #[a, b] := fun p a b => (hR5.far (by exact hgr) p).two a b
    have HK5 : ∀ p a b, Below w.heap.size w (((w5.setCell ⟨gm, 0, none⟩ p).setCell ⟨w.heap.size, 0, none⟩ a).setCell ⟨w.heap.size, 1, none⟩ b) := fun p a b => ((hb5.setCell (by exact hgr2) _).setCell (by exact Nat.le_refl _) _).setCell (by exact Nat.le_refl _) _
    go_wp2_with fail
    exact bodyPost_ret (results_blk3 Try.results29 Try.isAgg36 (by exact Try.sizeOf36) rfl (HB5 _ _ _)) rfl ⟨rfl, HK5 _ _ _⟩
set_option maxHeartbeats 1600000 in
theorem s_GetMark_flt_no (m c : Nat) (b : List UInt8) (j g o k v : Nat) (w : World) (B : Nat) (hs : Sl w B 1 (some ⟨g, o, none⟩) m c (u8s b)) (hB : B ≤ w.heap.size) (hg : g < B) (hm : m ≤ 1048576) (hj : j < m) (hc : w.cell? ⟨g, o + j, none⟩ = some (.int .u8 (k : Int))) (hk : k = 193 ∨ (196 ≤ k ∧ k ≤ 223)) (hsg : ¬ (208 ≤ k ∧ k ≤ 211)) (hS : shortM k = (0, 0, false)) (hF : formM k = (4, (v : Int))) (hv : v = 4) (hjv : j + 1 + v ≤ m)
    (x q : Int) (hx : ∀ w1, Sl w1 B 1 (some ⟨g, o, none⟩) m c (u8s b) → Calls Try.prog 65 #[.slice (some ⟨g, o, none⟩) m c, .int .i64 ((j : Int) + 1), .int .i64 v] w1 fun e w2 => e = .returned (.tuple #[.int .i64 x, .int .i64 q]) ∧ w1 = w2)
    (hq : q = 0) (a e0 : Int) (hy : bitsFltV x = fltV a e0 false) :
    Calls Try.prog 29 #[.slice (some ⟨g, o, none⟩) m c, .int .i64 j] w fun e w' => e = .returned (.tuple #[.agg #[.int .i64 0, .int .i64 0], .int .i64 0, .int .i64 1]) ∧ Below w.heap.size w w' := by
  have hl := hs.blen
  have hcap := hs.cap
  have hgw : g < w.heap.size := by omega
  have hcA : ∀ x, (w.alloc x).cell? ⟨g, o + j, none⟩ = some (.int .u8 (k : Int)) := fun x => (World.cell?_alloc_lt w x _ (by exact hgw)).trans hc
  have hcB : ∀ x y, ((w.alloc x).alloc y).cell? ⟨g, o + j, none⟩ = some (.int .u8 (k : Int)) := fun x y => (World.cell?_alloc_lt _ y _ (by simp; omega)).trans (hcA x)
  have h1 := fun w => s_l15Byte k w (by omega)
  rw [hS] at h1
  have h2 := fun w => s_l15Kind k w (by omega)
  have hn : True := by trivial
  rw [hF, if_neg (by omega)] at h2
  have hk0 : (k : Int) ≤ 255 := by omega
  have hv8 : v ≤ 8 := by omega
  have hv1 : 1 ≤ v := by omega
  have hv0 : ((v : Int) == 0) = false := by simp; omega
  clear hk hF hS hsg hv hn
  have HV := Lib.hid hy
  subst hq
  clear hy
  · skip
    go_enter Try.func29, Try.ntmps29
    go_wp2_with fail
    refine (h1 _).mono ?_; rintro e w1 ⟨rfl, hb1⟩
    have hb0 := (Below.two w _ _).up hb1
    have hcw := (hb0.cell (p := ⟨g, o + j, none⟩) (by exact hgw)).trans hc
    have hgz : g < w1.heap.size := by have := hb0.size; omega
    have hR1 := ((Blk.new w 36 #[.int .i64 0, .int .i64 0]).alloc (.cells #[.int .i64 0, .int .i64 0] 36)).below hb1 (by simp; omega)
    have hN1 := (Blk.newAt (w := w.alloc (.cells #[.int .i64 0, .int .i64 0] 36)) (g := w.heap.size + 1) (T := 36) (cs := #[.int .i64 0, .int .i64 0]) (by simp)).below hb1 (by simp)
    clear hb1
    go_wp2_with fail
    refine (h2 _).mono ?_; rintro e w2 ⟨rfl, d, rfl⟩
    go_wp2_with fail
    have hb5 := (below_drewN (hb0.up (Below.one w1 (.cells #[.int .i64 0, .int .i64 0] 36))) d).up (Below.one _ (.cells #[.int .i64 4, .int .i64 0] 36))
    refine (hx _ (hs.below (hb5.mono hB))).mono ?_; rintro e w6 ⟨rfl, rfl⟩
    have hR5 := ((hR1.alloc (.cells #[.int .i64 0, .int .i64 0] 36)).drewN d).alloc (.cells #[.int .i64 4, .int .i64 0] 36)
    have hN5 := ((hN1.alloc (.cells #[.int .i64 0, .int .i64 0] 36)).drewN d).alloc (.cells #[.int .i64 4, .int .i64 0] 36)
    have hM5 := Blk.newAt (w := (w1.alloc (.cells #[.int .i64 0, .int .i64 0] 36)).drewN d) (g := w1.heap.size + 1) (T := 36) (cs := #[.int .i64 4, .int .i64 0]) (by simp)
    have hgm : w.heap.size + 1 < w1.heap.size + 1 := by have := hR1.lt; omega
    generalize (((w1.alloc (.cells #[.int .i64 0, .int .i64 0] 36)).drewN d).alloc (.cells #[.int .i64 4, .int .i64 0] 36)) = w5 at hb5 hR5 hN5 hM5 ⊢
    generalize w1.heap.size + 1 = gm at hM5 hgm ⊢
    clear hb0 hcw hgz hR1 hN1
    have hgr : w.heap.size ≠ gm := by omega
    have hgr2 : w.heap.size ≤ gm := by omega
    obtain ⟨r0, r1, rf0, rf1, rlt⟩ := hR5.at2
    obtain ⟨n0, n1, nf0, nf1, nlt⟩ := hN5.at2
    obtain ⟨m0, m1, mf0, mf1, mlt⟩ := hM5.at2
    have HB2 : ∀ a b, Blk ((w5.setCell ⟨w.heap.size, 0, none⟩ a).setCell ⟨w.heap.size, 1, none⟩ b) w.heap.size 36 #[a, b] := fun a b => hR5.two a b
    have HK2 : ∀ a b, Below w.heap.size w ((w5.setCell ⟨w.heap.size, 0, none⟩ a).setCell ⟨w.heap.size, 1, none⟩ b) := fun a b => (hb5.setCell (by exact Nat.le_refl _) _).setCell (by exact Nat.le_refl _) _
    have HB3 : ∀ p a b, Blk (((w5.setCell ⟨gm, 1, none⟩ p).setCell ⟨w.heap.size, 0, none⟩ a).setCell ⟨w.heap.size, 1, none⟩ b) w.heap.size 36 #[a, b] := fun p a b => (hR5.far (by exact hgr) p).two a b
    have HK3 : ∀ p a b, Below w.heap.size w (((w5.setCell ⟨gm, 1, none⟩ p).setCell ⟨w.heap.size, 0, none⟩ a).setCell ⟨w.heap.size, 1, none⟩ b) := fun p a b => ((hb5.setCell (by exact hgr2) _).setCell (by exact Nat.le_refl _) _).setCell (by exact Nat.le_refl _) _
    go_wp2_with (go_at_call 54; refine (s_BitsFlt _ _).mono ?_; rintro e w6 ⟨rfl, hb6⟩; rw [HV.out]; unfold fltV; have hR6 := hR5.below hb6 hR5.lt; have hN6 := hN5.below hb6 hN5.lt; have hM6 := hM5.below hb6 hM5.lt; obtain ⟨r0, r1, rf0, rf1, rlt⟩ := hR6.at2; obtain ⟨n0, n1, nf0, nf1, nlt⟩ := hN6.at2; obtain ⟨m0, m1, mf0, mf1, mlt⟩ := hM6.at2; have hk6 := hb5.up hb6)
    exact bodyPost_ret (results_blk3 Try.results29 Try.isAgg36 (by exact Try.sizeOf36) rfl ((hR6.two _ _).alloc _)) rfl ⟨rfl, ((hk6.setCell (by exact Nat.le_refl _) _).setCell (by exact Nat.le_refl _) _).up (Below.one _ _)⟩
set_option maxHeartbeats 1600000 in
theorem s_GetMark_flt_yes (m c : Nat) (b : List UInt8) (j g o k v : Nat) (w : World) (B : Nat) (hs : Sl w B 1 (some ⟨g, o, none⟩) m c (u8s b)) (hB : B ≤ w.heap.size) (hg : g < B) (hm : m ≤ 1048576) (hj : j < m) (hc : w.cell? ⟨g, o + j, none⟩ = some (.int .u8 (k : Int))) (hk : k = 193 ∨ (196 ≤ k ∧ k ≤ 223)) (hsg : ¬ (208 ≤ k ∧ k ≤ 211)) (hS : shortM k = (0, 0, false)) (hF : formM k = (4, (v : Int))) (hv : v = 4) (hjv : j + 1 + v ≤ m)
    (x q : Int) (hx : ∀ w1, Sl w1 B 1 (some ⟨g, o, none⟩) m c (u8s b) → Calls Try.prog 65 #[.slice (some ⟨g, o, none⟩) m c, .int .i64 ((j : Int) + 1), .int .i64 v] w1 fun e w2 => e = .returned (.tuple #[.int .i64 x, .int .i64 q]) ∧ w1 = w2)
    (hq : q = 0) (a e0 : Int) (hy : bitsFltV x = fltV a e0 true) :
    Calls Try.prog 29 #[.slice (some ⟨g, o, none⟩) m c, .int .i64 j] w fun e w' => e = .returned (.tuple #[.agg #[.int .i64 4, .int .i64 (fltBits a e0)], .int .i64 (j + 1 + v : Nat), .int .i64 0]) ∧ Below w.heap.size w w' := by
  have hl := hs.blen
  have hcap := hs.cap
  have hgw : g < w.heap.size := by omega
  have hcA : ∀ x, (w.alloc x).cell? ⟨g, o + j, none⟩ = some (.int .u8 (k : Int)) := fun x => (World.cell?_alloc_lt w x _ (by exact hgw)).trans hc
  have hcB : ∀ x y, ((w.alloc x).alloc y).cell? ⟨g, o + j, none⟩ = some (.int .u8 (k : Int)) := fun x y => (World.cell?_alloc_lt _ y _ (by simp; omega)).trans (hcA x)
  have h1 := fun w => s_l15Byte k w (by omega)
  rw [hS] at h1
  have h2 := fun w => s_l15Kind k w (by omega)
  have hn : True := by trivial
  rw [hF, if_neg (by omega)] at h2
  have hk0 : (k : Int) ≤ 255 := by omega
  have hv8 : v ≤ 8 := by omega
  have hv1 : 1 ≤ v := by omega
  have hv0 : ((v : Int) == 0) = false := by simp; omega
  clear hk hF hS hsg hv hn
  have HV := Lib.hid hy
  have hbe := bitsFlt_e hy
  subst hq
  clear hy
  · skip
    go_enter Try.func29, Try.ntmps29
    go_wp2_with fail
    refine (h1 _).mono ?_; rintro e w1 ⟨rfl, hb1⟩
    have hb0 := (Below.two w _ _).up hb1
    have hcw := (hb0.cell (p := ⟨g, o + j, none⟩) (by exact hgw)).trans hc
    have hgz : g < w1.heap.size := by have := hb0.size; omega
    have hR1 := ((Blk.new w 36 #[.int .i64 0, .int .i64 0]).alloc (.cells #[.int .i64 0, .int .i64 0] 36)).below hb1 (by simp; omega)
    have hN1 := (Blk.newAt (w := w.alloc (.cells #[.int .i64 0, .int .i64 0] 36)) (g := w.heap.size + 1) (T := 36) (cs := #[.int .i64 0, .int .i64 0]) (by simp)).below hb1 (by simp)
    clear hb1
    go_wp2_with fail
    refine (h2 _).mono ?_; rintro e w2 ⟨rfl, d, rfl⟩
    go_wp2_with fail
    have hb5 := (below_drewN (hb0.up (Below.one w1 (.cells #[.int .i64 0, .int .i64 0] 36))) d).up (Below.one _ (.cells #[.int .i64 4, .int .i64 0] 36))
    refine (hx _ (hs.below (hb5.mono hB))).mono ?_; rintro e w6 ⟨rfl, rfl⟩
    have hR5 := ((hR1.alloc (.cells #[.int .i64 0, .int .i64 0] 36)).drewN d).alloc (.cells #[.int .i64 4, .int .i64 0] 36)
    have hN5 := ((hN1.alloc (.cells #[.int .i64 0, .int .i64 0] 36)).drewN d).alloc (.cells #[.int .i64 4, .int .i64 0] 36)
    have hM5 := Blk.newAt (w := (w1.alloc (.cells #[.int .i64 0, .int .i64 0] 36)).drewN d) (g := w1.heap.size + 1) (T := 36) (cs := #[.int .i64 4, .int .i64 0]) (by simp)
    have hgm : w.heap.size + 1 < w1.heap.size + 1 := by have := hR1.lt; omega
    generalize (((w1.alloc (.cells #[.int .i64 0, .int .i64 0] 36)).drewN d).alloc (.cells #[.int .i64 4, .int .i64 0] 36)) = w5 at hb5 hR5 hN5 hM5 ⊢
    generalize w1.heap.size + 1 = gm at hM5 hgm ⊢
    clear hb0 hcw hgz hR1 hN1
    have hgr : w.heap.size ≠ gm := by omega
    have hgr2 : w.heap.size ≤ gm := by omega
    obtain ⟨r0, r1, rf0, rf1, rlt⟩ := hR5.at2
    obtain ⟨n0, n1, nf0, nf1, nlt⟩ := hN5.at2
    obtain ⟨m0, m1, mf0, mf1, mlt⟩ := hM5.at2
    have HB2 : ∀ a b, Blk ((w5.setCell ⟨w.heap.size, 0, none⟩ a).setCell ⟨w.heap.size, 1, none⟩ b) w.heap.size 36 #[a, b] := fun a b => hR5.two a b
    have HK2 : ∀ a b, Below w.heap.size w ((w5.setCell ⟨w.heap.size, 0, none⟩ a).setCell ⟨w.heap.size, 1, none⟩ b) := fun a b => (hb5.setCell (by exact Nat.le_refl _) _).setCell (by exact Nat.le_refl _) _
    have HB3 : ∀ p a b, Blk (((w5.setCell ⟨gm, 1, none⟩ p).setCell ⟨w.heap.size, 0, none⟩ a).setCell ⟨w.heap.size, 1, none⟩ b) w.heap.size 36 #[a, b] := fun p a b => (hR5.far (by exact hgr) p).two a b
    have HK3 : ∀ p a b, Below w.heap.size w (((w5.setCell ⟨gm, 1, none⟩ p).setCell ⟨w.heap.size, 0, none⟩ a).setCell ⟨w.heap.size, 1, none⟩ b) := fun p a b => ((hb5.setCell (by exact hgr2) _).setCell (by exact Nat.le_refl _) _).setCell (by exact Nat.le_refl _) _
    go_wp2_with (go_at_call 54; refine (s_BitsFlt _ _).mono ?_; rintro e w6 ⟨rfl, hb6⟩; rw [HV.out]; unfold fltV; have hR6 := hR5.below hb6 hR5.lt; have hN6 := hN5.below hb6 hN5.lt; have hM6 := hM5.below hb6 hM5.lt; obtain ⟨r0, r1, rf0, rf1, rlt⟩ := hR6.at2; obtain ⟨n0, n1, nf0, nf1, nlt⟩ := hN6.at2; obtain ⟨m0, m1, mf0, mf1, mlt⟩ := hM6.at2; have hk6 := hb5.up hb6)
    have hk7 := hk6.up (Below.one w6 (.cells #[.int .i64 a, .int .i64 e0] 73))
    refine (s_FltBits _ _ _ hbe).mono ?_; rintro e w7 ⟨rfl, hb7⟩
    have hR7 := (hR6.alloc (.cells #[.int .i64 a, .int .i64 e0] 73)).below hb7 (hR6.alloc _).lt
    have hM7 := (hM6.alloc (.cells #[.int .i64 a, .int .i64 e0] 73)).below hb7 (hM6.alloc _).lt
    obtain ⟨r0, r1, rf0, rf1, rlt⟩ := hR7.at2
    obtain ⟨m0, m1, mf0, mf1, mlt⟩ := hM7.at2
    have hk8 := hk7.up hb7
    have HB7 : ∀ p a b, Blk (((w7.setCell ⟨gm, 1, none⟩ p).setCell ⟨w.heap.size, 0, none⟩ a).setCell ⟨w.heap.size, 1, none⟩ b) w.heap.size 36 #[a, b] := fun p a b => (hR7.far (by exact hgr) p).two a b
    have HK7 : ∀ p a b, Below w.heap.size w (((w7.setCell ⟨gm, 1, none⟩ p).setCell ⟨w.heap.size, 0, none⟩ a).setCell ⟨w.heap.size, 1, none⟩ b) := fun p a b => ((hk8.setCell (by exact hgr2) _).setCell (by exact Nat.le_refl _) _).setCell (by exact Nat.le_refl _) _
    go_wp2_with fail
    exact bodyPost_ret (results_blk3 Try.results29 Try.isAgg36 (by exact Try.sizeOf36) rfl (HB7 _ _ _)) rfl ⟨rfl, HK7 _ _ _⟩
end Go.Proofs.Ytihhedmehlemmaa
