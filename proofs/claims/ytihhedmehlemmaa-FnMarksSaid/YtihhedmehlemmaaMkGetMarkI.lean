/- The program's GetMark, a case at a time. -/
import Derived.Test.YtihhedmehlemmaaMkM43
import Derived.Deep.QuietTactic
import Derived.BigQuiet
set_option linter.unusedVariables false
set_option maxRecDepth 100000
set_option linter.unusedSimpArgs false
namespace Go.Proofs.Ytihhedmehlemmaa
open Go.RowKit

theorem Sl.sub_ {w : World} {B m c g o : Nat} {b : List UInt8} (h : Sl w B 1 (some ⟨g, o, none⟩) m c (u8s b)) (i v : Nat) (hi : i + v ≤ m) (hv : 0 < v) : Sl w B 1 (some ⟨g, o + i, none⟩) v (c - i) (u8s (part b i v)) := by
  have hl := h.blen
  have hc := h.cap
  have hm := h.max
  obtain ⟨g', o', e, hg, hk⟩ := h.at_ (by omega)
  cases e
  refine ⟨by rw [u8s_len, part_len (by omega)]; omega, by omega, by omega, fun _ => ⟨g, o + i, rfl, hg, fun j u hu => ?_⟩⟩
  rw [Nat.add_assoc]
  refine hk (i + j) u ?_
  have hj : j < v := by have := (List.getElem?_eq_some_iff.1 hu).1; rw [u8s_len, part_len (by omega)] at this; exact this
  rw [← hu]
  simp [u8s, part, List.getElem?_take, hj]
set_option maxHeartbeats 1600000 in
theorem i_GetMark_int (m c : Nat) (b : List UInt8) (j g o k v : Nat) (w : World) (B : Nat) (hs : Sl w B 1 (some ⟨g, o, none⟩) m c (u8s b)) (hB : B ≤ w.heap.size) (hg : g < B) (hm : m ≤ 1048576) (hj : j < m) (hc : w.cell? ⟨g, o + j, none⟩ = some (.int .u8 (k : Int))) (hk : k = 193 ∨ (196 ≤ k ∧ k ≤ 223)) (hS : shortM k = (0, 0, false)) (hF : formM k = (3, (v : Int))) (hv : v = 1 ∨ v = 2 ∨ v = 4 ∨ v = 8) (hjv : j + 1 + v ≤ m)
    (x : Int) (ok : Bool) (sg : Bool) (hsg : inR k 208 211 = sg) (hx : ∀ w1, Sl w1 B 1 (some ⟨g, o + (j + 1), none⟩) v (c - (j + 1)) (u8s (part b (j + 1) v)) → Calls Try.prog 59 #[.slice (some ⟨g, o + (j + 1), none⟩) v (c - (j + 1)), .bool sg] w1 fun e w2 => e = .returned (.tuple #[.int .i64 x, .bool ok]) ∧ w1 = w2) :
    Calls Try.prog 27 #[.slice (some ⟨g, o, none⟩) m c, .int .i64 j] w fun e w' => e = .returned (.tuple #[.agg #[.int .i64 (if ok = true then 3 else 0), .int .i64 (if ok = true then x else 0)], .int .i64 (if ok = true then (j + 1 + v : Nat) else 0), .int .i64 (if ok = true then 0 else 2)]) ∧ Below w.heap.size w w' := by
  have hl := hs.blen
  have hcap := hs.cap
  have hgw : g < w.heap.size := by omega
  have hcA : ∀ x, (w.alloc x).cell? ⟨g, o + j, none⟩ = some (.int .u8 (k : Int)) := fun x => (World.cell?_alloc_lt w x _ (by exact hgw)).trans hc
  have r1 : (inR 1 0 m && inR (j : Int) 0 (m - 1)) = true := by rw [Bool.and_eq_true]; exact ⟨inR_yes (by omega) (by omega), inR_yes (by omega) (by omega)⟩
  have r2 : (inR (v : Int) 0 m && inR ((j : Int) + 1) 0 (m - v)) = true := by rw [Bool.and_eq_true]; exact ⟨inR_yes (by omega) (by omega), inR_yes (by omega) (by omega)⟩
  have h1 := fun w => i_shortMark k w (by omega)
  rw [hS] at h1
  have h2 := fun w => i_markForm k w (by omega)
  rw [hF] at h2
  have hwi := fun w => i_within k 208 211 w
  rw [hsg] at hwi
  have hsub := hs.sub_ (j + 1) v (by omega) (by omega)
  have hsw : ∀ w1 n, Below w.heap.size w w1 → Sl (w1.drewN n) B 1 (some ⟨g, o + (j + 1), none⟩) v (c - (j + 1)) (u8s (part b (j + 1) v)) := fun w1 n hb => (hsub.below (hb.mono hB)).drewN n
  have hk0 : (k : Int) ≤ 255 := by omega
  have hv8 : v ≤ 8 := by omega
  have hv1 : 1 ≤ v := by omega
  have e1 : (0 : Int) ≤ (j : Int) + 1 + v := by omega
  have e2 : (j : Int) + 1 + v ≤ (c : Int) := by omega
  have e3 : IntKind.i64.wrap ((j : Int) + 1) = (j : Int) + 1 := by rw [IntKind.wrap_i64]; omega
  have e4 : (0 : Int) ≤ (j : Int) + 1 := by omega
  have e5 : max ((j : Int) + 1 + v) 0 = (j : Int) + 1 + v := by omega
  have e6 : (j : Int) + 1 ≤ (j : Int) + 1 + v := by omega
  have e7 : ((j : Int) + 1).toNat = j + 1 := by omega
  have e8 : ((j : Int) + 1 + v).toNat = j + 1 + v := by omega
  have e9 : j + 1 + v - (j + 1) = v := by omega
  have hjc : ¬ c = j + 1 := by omega
  clear hk hF hS
  cases ok
  all_goals
    go_enter Try.func27, Try.ntmps27
    go_wp2_with (go_at_call 56; refine (i_exist _ m c _ _ _ (by omega) (by omega)).mono ?_; rintro e w' ⟨rfl, rfl⟩; rw [r1])
    refine (h1 _).mono ?_; rintro e w1 ⟨rfl, hb1⟩
    have hb0 := (Below.one w _).up hb1
    obtain ⟨hc1, hf1⟩ := bcell hb1
    have hz1 : w.heap.size < w1.heap.size := by have := hb1.size; simp at this; omega
    go_wp2_with (go_at_call 58; refine (h2 _).mono ?_; rintro e w' ⟨rfl, rfl⟩)
    refine (i_exist _ m c _ _ _ (by omega) (by omega)).mono ?_; rintro e w' ⟨rfl, rfl⟩; rw [r2]
    have hg4 : g < w1.heap.size := by omega
    have hw5 : ∀ x, Below w.heap.size w (w1.alloc x) := fun x => hb0.up (Below.one _ x)
    have hB1 := (Blk.new w 36 #[.int .i64 0, .int .i64 0]).below hb1 (by simp)
    have hF0 : ∀ x, (w1.alloc x).frozen? ⟨w.heap.size, 0, none⟩ = false := fun x => (hB1.alloc x).frozen 0
    have hF1 : ∀ x, (w1.alloc x).frozen? ⟨w.heap.size, 1, none⟩ = false := fun x => (hB1.alloc x).frozen 1
    have hb4 := hB1.alloc (.cells #[.int .i64 0, .int .i64 0] 36)
    go_wp2_with fail
    go_quiet (first | (go_at_call 50; exact quiet_left (hwi _)) | (go_at_call 59; exact quiet_left (hx _ (hsw _ _ (hw5 _)))))
    go_wp2_with fail
    exact bodyPost_ret (results_blk3 Try.results27 Try.isAgg36 (by exact Try.sizeOf36) rfl (hb4.two _ _)) rfl ⟨rfl, ((below_drewN (hw5 _) _).setCell (by simp) _).setCell (by simp) _⟩
set_option maxHeartbeats 1600000 in
theorem i_GetMark_big (m c : Nat) (b : List UInt8) (j g o k v : Nat) (w : World) (B : Nat) (hs : Sl w B 1 (some ⟨g, o, none⟩) m c (u8s b)) (hB : B ≤ w.heap.size) (hg : g < B) (hm : m ≤ 1048576) (hj : j < m) (hc : w.cell? ⟨g, o + j, none⟩ = some (.int .u8 (k : Int))) (hk : k = 193 ∨ (196 ≤ k ∧ k ≤ 223)) (hS : shortM k = (0, 0, false)) (K : Int) (hK : 7 ≤ K ∧ K ≤ 10) (hF : formM k = (K, (v : Int))) (hv : v = 1 ∨ v = 2 ∨ v = 4 ∨ v = 8) (hjv : j + 1 + v ≤ m)
    (x : Int) (ok : Bool) (sg : Bool) (hsg : inR k 208 211 = sg) (hx : ∀ w1, Sl w1 B 1 (some ⟨g, o + (j + 1), none⟩) v (c - (j + 1)) (u8s (part b (j + 1) v)) → Calls Try.prog 59 #[.slice (some ⟨g, o + (j + 1), none⟩) v (c - (j + 1)), .bool sg] w1 fun e w2 => e = .returned (.tuple #[.int .i64 x, .bool ok]) ∧ w1 = w2) (n1 K1 nx cd : Int) (hr : (x ≤ 65535 ∧ K1 = K ∧ n1 = x ∧ nx = (j + 1 + v : Nat) ∧ cd = 0) ∨ (65535 < x ∧ K1 = 0 ∧ n1 = 0 ∧ nx = 0 ∧ cd = 2)) :
    Calls Try.prog 27 #[.slice (some ⟨g, o, none⟩) m c, .int .i64 j] w fun e w' => e = .returned (.tuple #[.agg #[.int .i64 K1, .int .i64 n1], .int .i64 nx, .int .i64 cd]) ∧ Below w.heap.size w w' := by
  have hl := hs.blen
  have hcap := hs.cap
  have hgw : g < w.heap.size := by omega
  have hcA : ∀ x, (w.alloc x).cell? ⟨g, o + j, none⟩ = some (.int .u8 (k : Int)) := fun x => (World.cell?_alloc_lt w x _ (by exact hgw)).trans hc
  have r1 : (inR 1 0 m && inR (j : Int) 0 (m - 1)) = true := by rw [Bool.and_eq_true]; exact ⟨inR_yes (by omega) (by omega), inR_yes (by omega) (by omega)⟩
  have r2 : (inR (v : Int) 0 m && inR ((j : Int) + 1) 0 (m - v)) = true := by rw [Bool.and_eq_true]; exact ⟨inR_yes (by omega) (by omega), inR_yes (by omega) (by omega)⟩
  have h1 := fun w => i_shortMark k w (by omega)
  rw [hS] at h1
  have h2 := fun w => i_markForm k w (by omega)
  rw [hF] at h2
  have hwi := fun w => i_within k 208 211 w
  rw [hsg] at hwi
  have hsub := hs.sub_ (j + 1) v (by omega) (by omega)
  have hsw : ∀ w1 n, Below w.heap.size w w1 → Sl (w1.drewN n) B 1 (some ⟨g, o + (j + 1), none⟩) v (c - (j + 1)) (u8s (part b (j + 1) v)) := fun w1 n hb => (hsub.below (hb.mono hB)).drewN n
  have hk0 : (k : Int) ≤ 255 := by omega
  have hv8 : v ≤ 8 := by omega
  have hv1 : 1 ≤ v := by omega
  have e1 : (0 : Int) ≤ (j : Int) + 1 + v := by omega
  have e2 : (j : Int) + 1 + v ≤ (c : Int) := by omega
  have e3 : IntKind.i64.wrap ((j : Int) + 1) = (j : Int) + 1 := by rw [IntKind.wrap_i64]; omega
  have e4 : (0 : Int) ≤ (j : Int) + 1 := by omega
  have e5 : max ((j : Int) + 1 + v) 0 = (j : Int) + 1 + v := by omega
  have e6 : (j : Int) + 1 ≤ (j : Int) + 1 + v := by omega
  have e7 : ((j : Int) + 1).toNat = j + 1 := by omega
  have e8 : ((j : Int) + 1 + v).toNat = j + 1 + v := by omega
  have e9 : j + 1 + v - (j + 1) = v := by omega
  have hjc : ¬ c = j + 1 := by omega
  clear hk hF hS
  have k0 : (K == 0) = false := by simp; omega
  have k3 : (K == 3) = false := by simp; omega
  have k4 : (K == 4) = false := by simp; omega
  have k5 : (K == 5) = false := by simp; omega
  rcases hr with ⟨hr, rfl, rfl, rfl, rfl⟩ | ⟨hr, rfl, rfl, rfl, rfl⟩
  all_goals
    go_enter Try.func27, Try.ntmps27
    go_wp2_with (go_at_call 56; refine (i_exist _ m c _ _ _ (by omega) (by omega)).mono ?_; rintro e w' ⟨rfl, rfl⟩; rw [r1])
    refine (h1 _).mono ?_; rintro e w1 ⟨rfl, hb1⟩
    have hb0 := (Below.one w _).up hb1
    obtain ⟨hc1, hf1⟩ := bcell hb1
    have hz1 : w.heap.size < w1.heap.size := by have := hb1.size; simp at this; omega
    go_wp2_with (go_at_call 58; refine (h2 _).mono ?_; rintro e w' ⟨rfl, rfl⟩)
    refine (i_exist _ m c _ _ _ (by omega) (by omega)).mono ?_; rintro e w' ⟨rfl, rfl⟩; rw [r2]
    have hg4 : g < w1.heap.size := by omega
    have hw5 : ∀ x, Below w.heap.size w (w1.alloc x) := fun x => hb0.up (Below.one _ x)
    have hB1 := (Blk.new w 36 #[.int .i64 0, .int .i64 0]).below hb1 (by simp)
    have hF0 : ∀ x, (w1.alloc x).frozen? ⟨w.heap.size, 0, none⟩ = false := fun x => (hB1.alloc x).frozen 0
    have hF1 : ∀ x, (w1.alloc x).frozen? ⟨w.heap.size, 1, none⟩ = false := fun x => (hB1.alloc x).frozen 1
    have hb4 := hB1.alloc (.cells #[.int .i64 0, .int .i64 0] 36)
    go_wp2_with fail
    go_quiet (first | (go_at_call 50; exact quiet_left (hwi _)) | (go_at_call 59; exact quiet_left (hx _ (hsw _ _ (hw5 _)))))
    go_wp2_with fail
    exact bodyPost_ret (results_blk3 Try.results27 Try.isAgg36 (by exact Try.sizeOf36) rfl (hb4.two _ _)) rfl ⟨rfl, ((below_drewN (hw5 _) _).setCell (by simp) _).setCell (by simp) _⟩
set_option maxHeartbeats 1600000 in
theorem i_GetMark_odd (m c : Nat) (b : List UInt8) (j g o k v : Nat) (w : World) (B : Nat) (hs : Sl w B 1 (some ⟨g, o, none⟩) m c (u8s b)) (hB : B ≤ w.heap.size) (hg : g < B) (hm : m ≤ 1048576) (hj : j < m) (hc : w.cell? ⟨g, o + j, none⟩ = some (.int .u8 (k : Int))) (hk : k = 193 ∨ (196 ≤ k ∧ k ≤ 223)) (hS : shortM k = (0, 0, false)) (hF : formM k = (5, (v : Int))) (hv : v = 2) (hjv : j + 1 + v ≤ m)
    (x : Int) (ok : Bool) (sg : Bool) (hsg : inR k 208 211 = sg) (hx : ∀ w1, Sl w1 B 1 (some ⟨g, o + (j + 1), none⟩) v (c - (j + 1)) (u8s (part b (j + 1) v)) → Calls Try.prog 59 #[.slice (some ⟨g, o + (j + 1), none⟩) v (c - (j + 1)), .bool sg] w1 fun e w2 => e = .returned (.tuple #[.int .i64 x, .bool ok]) ∧ w1 = w2) (n1 K1 nx cd : Int) (hy : ∃ c1 c2 : Nat, w.cell? ⟨g, o + (j + 1), none⟩ = some (.int .u8 (c1 : Int)) ∧ w.cell? ⟨g, o + (j + 2), none⟩ = some (.int .u8 (c2 : Int)) ∧ c1 < 256 ∧ c2 < 256 ∧ ((c1 = 1 ∧ c2 ≤ 2 ∧ n1 = c2 ∧ K1 = 5 ∧ nx = (j + 1 + v : Nat) ∧ cd = 0) ∨ (c1 ≠ 1 ∧ n1 = 0 ∧ K1 = 0 ∧ nx = 0 ∧ cd = 1) ∨ (c1 = 1 ∧ 2 < c2 ∧ n1 = 0 ∧ K1 = 0 ∧ nx = 0 ∧ cd = 1))) :
    Calls Try.prog 27 #[.slice (some ⟨g, o, none⟩) m c, .int .i64 j] w fun e w' => e = .returned (.tuple #[.agg #[.int .i64 K1, .int .i64 n1], .int .i64 nx, .int .i64 cd]) ∧ Below w.heap.size w w' := by
  have hl := hs.blen
  have hcap := hs.cap
  have hgw : g < w.heap.size := by omega
  have hcA : ∀ x, (w.alloc x).cell? ⟨g, o + j, none⟩ = some (.int .u8 (k : Int)) := fun x => (World.cell?_alloc_lt w x _ (by exact hgw)).trans hc
  have r1 : (inR 1 0 m && inR (j : Int) 0 (m - 1)) = true := by rw [Bool.and_eq_true]; exact ⟨inR_yes (by omega) (by omega), inR_yes (by omega) (by omega)⟩
  have r2 : (inR (v : Int) 0 m && inR ((j : Int) + 1) 0 (m - v)) = true := by rw [Bool.and_eq_true]; exact ⟨inR_yes (by omega) (by omega), inR_yes (by omega) (by omega)⟩
  have h1 := fun w => i_shortMark k w (by omega)
  rw [hS] at h1
  have h2 := fun w => i_markForm k w (by omega)
  rw [hF] at h2
  have hwi := fun w => i_within k 208 211 w
  rw [hsg] at hwi
  have hsub := hs.sub_ (j + 1) v (by omega) (by omega)
  have hsw : ∀ w1 n, Below w.heap.size w w1 → Sl (w1.drewN n) B 1 (some ⟨g, o + (j + 1), none⟩) v (c - (j + 1)) (u8s (part b (j + 1) v)) := fun w1 n hb => (hsub.below (hb.mono hB)).drewN n
  have hk0 : (k : Int) ≤ 255 := by omega
  have hv8 : v ≤ 8 := by omega
  have hv1 : 1 ≤ v := by omega
  have e1 : (0 : Int) ≤ (j : Int) + 1 + v := by omega
  have e2 : (j : Int) + 1 + v ≤ (c : Int) := by omega
  have e3 : IntKind.i64.wrap ((j : Int) + 1) = (j : Int) + 1 := by rw [IntKind.wrap_i64]; omega
  have e4 : (0 : Int) ≤ (j : Int) + 1 := by omega
  have e5 : max ((j : Int) + 1 + v) 0 = (j : Int) + 1 + v := by omega
  have e6 : (j : Int) + 1 ≤ (j : Int) + 1 + v := by omega
  have e7 : ((j : Int) + 1).toNat = j + 1 := by omega
  have e8 : ((j : Int) + 1 + v).toNat = j + 1 + v := by omega
  have e9 : j + 1 + v - (j + 1) = v := by omega
  have hjc : ¬ c = j + 1 := by omega
  clear hk hF hS
  obtain ⟨c1, c2, hy1, hy2, hl1, hl2, hq⟩ := hy
  have hcB : ∀ w1 x, Below w.heap.size w w1 → (w1.alloc x).cell? ⟨g, o + (j + 1), none⟩ = some (.int .u8 (c1 : Int)) ∧ (w1.alloc x).cell? ⟨g, o + (j + 2), none⟩ = some (.int .u8 (c2 : Int)) := fun w1 x hb => by
    have hz := hb.size
    rw [World.cell?_alloc_lt _ _ _ (by show g < w1.heap.size; omega), World.cell?_alloc_lt _ _ _ (by show g < w1.heap.size; omega), hb.cell (by exact hgw), hb.cell (by exact hgw)]
    exact ⟨hy1, hy2⟩
  have e10 : (j : Int) + 1 < (m : Int) := by omega
  have e11 : (j : Int) + 2 < (m : Int) := by omega
  clear hv
  rcases hq with ⟨q1, q2, rfl, rfl, rfl, rfl⟩ | ⟨q1, rfl, rfl, rfl, rfl⟩ | ⟨q1, q2, rfl, rfl, rfl, rfl⟩
  all_goals
    first
      | have q0 : ((c1 : Int) != 1) = false := by (simp; omega)
      | have q0 : ((c1 : Int) != 1) = true := by (simp; omega)
    first
      | have q0' : ((c1 : Int) == 1) = true := by (simp; omega)
      | have q0' : ((c1 : Int) == 1) = false := by (simp; omega)
    clear q1
    go_enter Try.func27, Try.ntmps27
    go_wp2_with (go_at_call 56; refine (i_exist _ m c _ _ _ (by omega) (by omega)).mono ?_; rintro e w' ⟨rfl, rfl⟩; rw [r1])
    refine (h1 _).mono ?_; rintro e w1 ⟨rfl, hb1⟩
    have hb0 := (Below.one w _).up hb1
    obtain ⟨hc1, hf1⟩ := bcell hb1
    have hz1 : w.heap.size < w1.heap.size := by have := hb1.size; simp at this; omega
    go_wp2_with (go_at_call 58; refine (h2 _).mono ?_; rintro e w' ⟨rfl, rfl⟩)
    refine (i_exist _ m c _ _ _ (by omega) (by omega)).mono ?_; rintro e w' ⟨rfl, rfl⟩; rw [r2]
    have hg4 : g < w1.heap.size := by omega
    have hw5 : ∀ x, Below w.heap.size w (w1.alloc x) := fun x => hb0.up (Below.one _ x)
    have hB1 := (Blk.new w 36 #[.int .i64 0, .int .i64 0]).below hb1 (by simp)
    have hF0 : ∀ x, (w1.alloc x).frozen? ⟨w.heap.size, 0, none⟩ = false := fun x => (hB1.alloc x).frozen 0
    have hF1 : ∀ x, (w1.alloc x).frozen? ⟨w.heap.size, 1, none⟩ = false := fun x => (hB1.alloc x).frozen 1
    have hb4 := hB1.alloc (.cells #[.int .i64 0, .int .i64 0] 36)
    go_wp2_with fail
    go_quiet (first | (go_at_call 50; exact quiet_left (hwi _)) | (go_at_call 59; exact quiet_left (hx _ (hsw _ _ (hw5 _)))))
    obtain ⟨hd1, hd2⟩ := hcB w1 (.cells #[.int .i64 0, .int .i64 0] 36) hb0
    go_wp2_with fail
    exact bodyPost_ret (results_blk3 Try.results27 Try.isAgg36 (by exact Try.sizeOf36) rfl (hb4.two _ _)) rfl ⟨rfl, ((below_drewN (hw5 _) _).setCell (by simp) _).setCell (by simp) _⟩
set_option maxHeartbeats 1600000 in
theorem i_GetMark_flt_no (m c : Nat) (b : List UInt8) (j g o k v : Nat) (w : World) (B : Nat) (hs : Sl w B 1 (some ⟨g, o, none⟩) m c (u8s b)) (hB : B ≤ w.heap.size) (hg : g < B) (hm : m ≤ 1048576) (hj : j < m) (hc : w.cell? ⟨g, o + j, none⟩ = some (.int .u8 (k : Int))) (hk : k = 193 ∨ (196 ≤ k ∧ k ≤ 223)) (hS : shortM k = (0, 0, false)) (hF : formM k = (4, (v : Int))) (hv : v = 4) (hjv : j + 1 + v ≤ m)
    (x : Int) (ok : Bool) (sg : Bool) (hsg : inR k 208 211 = sg) (hx : ∀ w1, Sl w1 B 1 (some ⟨g, o + (j + 1), none⟩) v (c - (j + 1)) (u8s (part b (j + 1) v)) → Calls Try.prog 59 #[.slice (some ⟨g, o + (j + 1), none⟩) v (c - (j + 1)), .bool sg] w1 fun e w2 => e = .returned (.tuple #[.int .i64 x, .bool ok]) ∧ w1 = w2) (a e0 : Int) (hy : bitsFltV x = fltV a e0 false) :
    Calls Try.prog 27 #[.slice (some ⟨g, o, none⟩) m c, .int .i64 j] w fun e w' => e = .returned (.tuple #[.agg #[.int .i64 0, .int .i64 0], .int .i64 0, .int .i64 1]) ∧ Below w.heap.size w w' := by
  have hl := hs.blen
  have hcap := hs.cap
  have hgw : g < w.heap.size := by omega
  have hcA : ∀ x, (w.alloc x).cell? ⟨g, o + j, none⟩ = some (.int .u8 (k : Int)) := fun x => (World.cell?_alloc_lt w x _ (by exact hgw)).trans hc
  have r1 : (inR 1 0 m && inR (j : Int) 0 (m - 1)) = true := by rw [Bool.and_eq_true]; exact ⟨inR_yes (by omega) (by omega), inR_yes (by omega) (by omega)⟩
  have r2 : (inR (v : Int) 0 m && inR ((j : Int) + 1) 0 (m - v)) = true := by rw [Bool.and_eq_true]; exact ⟨inR_yes (by omega) (by omega), inR_yes (by omega) (by omega)⟩
  have h1 := fun w => i_shortMark k w (by omega)
  rw [hS] at h1
  have h2 := fun w => i_markForm k w (by omega)
  rw [hF] at h2
  have hwi := fun w => i_within k 208 211 w
  rw [hsg] at hwi
  have hsub := hs.sub_ (j + 1) v (by omega) (by omega)
  have hsw : ∀ w1 n, Below w.heap.size w w1 → Sl (w1.drewN n) B 1 (some ⟨g, o + (j + 1), none⟩) v (c - (j + 1)) (u8s (part b (j + 1) v)) := fun w1 n hb => (hsub.below (hb.mono hB)).drewN n
  have hk0 : (k : Int) ≤ 255 := by omega
  have hv8 : v ≤ 8 := by omega
  have hv1 : 1 ≤ v := by omega
  have e1 : (0 : Int) ≤ (j : Int) + 1 + v := by omega
  have e2 : (j : Int) + 1 + v ≤ (c : Int) := by omega
  have e3 : IntKind.i64.wrap ((j : Int) + 1) = (j : Int) + 1 := by rw [IntKind.wrap_i64]; omega
  have e4 : (0 : Int) ≤ (j : Int) + 1 := by omega
  have e5 : max ((j : Int) + 1 + v) 0 = (j : Int) + 1 + v := by omega
  have e6 : (j : Int) + 1 ≤ (j : Int) + 1 + v := by omega
  have e7 : ((j : Int) + 1).toNat = j + 1 := by omega
  have e8 : ((j : Int) + 1 + v).toNat = j + 1 + v := by omega
  have e9 : j + 1 + v - (j + 1) = v := by omega
  have hjc : ¬ c = j + 1 := by omega
  clear hk hF hS
  have HV := Lib.hid hy
  clear hy hv
  · skip
    go_enter Try.func27, Try.ntmps27
    go_wp2_with (go_at_call 56; refine (i_exist _ m c _ _ _ (by omega) (by omega)).mono ?_; rintro e w' ⟨rfl, rfl⟩; rw [r1])
    refine (h1 _).mono ?_; rintro e w1 ⟨rfl, hb1⟩
    have hb0 := (Below.one w _).up hb1
    obtain ⟨hc1, hf1⟩ := bcell hb1
    have hz1 : w.heap.size < w1.heap.size := by have := hb1.size; simp at this; omega
    go_wp2_with (go_at_call 58; refine (h2 _).mono ?_; rintro e w' ⟨rfl, rfl⟩)
    refine (i_exist _ m c _ _ _ (by omega) (by omega)).mono ?_; rintro e w' ⟨rfl, rfl⟩; rw [r2]
    have hg4 : g < w1.heap.size := by omega
    have hw5 : ∀ x, Below w.heap.size w (w1.alloc x) := fun x => hb0.up (Below.one _ x)
    have hB1 := (Blk.new w 36 #[.int .i64 0, .int .i64 0]).below hb1 (by simp)
    have hF0 : ∀ x, (w1.alloc x).frozen? ⟨w.heap.size, 0, none⟩ = false := fun x => (hB1.alloc x).frozen 0
    have hF1 : ∀ x, (w1.alloc x).frozen? ⟨w.heap.size, 1, none⟩ = false := fun x => (hB1.alloc x).frozen 1
    have hb4 := hB1.alloc (.cells #[.int .i64 0, .int .i64 0] 36)
    go_wp2_with fail
    go_quiet (first | (go_at_call 50; exact quiet_left (hwi _)) | (go_at_call 59; exact quiet_left (hx _ (hsw _ _ (hw5 _)))))
    go_wp2_with (go_at_call 51; refine (i_BitsFlt _ _).mono ?_; rintro e w6 ⟨rfl, hb6⟩; rw [HV.out]; unfold fltV; have hB6 := (hb4.drewN nq).below hb6 (hb4.drewN nq).lt; have G0 : ∀ x, (w6.alloc x).frozen? ⟨w.heap.size, 0, none⟩ = false := fun x => (hB6.alloc x).frozen 0; have G1 : ∀ x, (w6.alloc x).frozen? ⟨w.heap.size, 1, none⟩ = false := fun x => (hB6.alloc x).frozen 1; have C0 : w6.cell? ⟨w.heap.size, 0, none⟩ = some (.int .i64 0) := hB6.cell 0; have C1 : w6.cell? ⟨w.heap.size, 1, none⟩ = some (.int .i64 0) := hB6.cell 1; have K0 := hB6.frozen 0; have K1 := hB6.frozen 1; have hz6 : w.heap.size < w6.heap.size := hB6.lt; have hk6 := (below_drewN (hw5 (.cells #[.int .i64 0, .int .i64 0] 36)) nq).up hb6)
    exact bodyPost_ret (results_blk3 Try.results27 Try.isAgg36 (by exact Try.sizeOf36) rfl ((hB6.two _ _).alloc _)) rfl ⟨rfl, ((hk6.setCell (Nat.le_refl _) _).setCell (Nat.le_refl _) _).up (Below.one _ _)⟩
set_option maxHeartbeats 1600000 in
theorem i_GetMark_flt_yes (m c : Nat) (b : List UInt8) (j g o k v : Nat) (w : World) (B : Nat) (hs : Sl w B 1 (some ⟨g, o, none⟩) m c (u8s b)) (hB : B ≤ w.heap.size) (hg : g < B) (hm : m ≤ 1048576) (hj : j < m) (hc : w.cell? ⟨g, o + j, none⟩ = some (.int .u8 (k : Int))) (hk : k = 193 ∨ (196 ≤ k ∧ k ≤ 223)) (hS : shortM k = (0, 0, false)) (hF : formM k = (4, (v : Int))) (hv : v = 4) (hjv : j + 1 + v ≤ m)
    (x : Int) (ok : Bool) (sg : Bool) (hsg : inR k 208 211 = sg) (hx : ∀ w1, Sl w1 B 1 (some ⟨g, o + (j + 1), none⟩) v (c - (j + 1)) (u8s (part b (j + 1) v)) → Calls Try.prog 59 #[.slice (some ⟨g, o + (j + 1), none⟩) v (c - (j + 1)), .bool sg] w1 fun e w2 => e = .returned (.tuple #[.int .i64 x, .bool ok]) ∧ w1 = w2) (a e0 : Int) (hy : bitsFltV x = fltV a e0 true) :
    Calls Try.prog 27 #[.slice (some ⟨g, o, none⟩) m c, .int .i64 j] w fun e w' => e = .returned (.tuple #[.agg #[.int .i64 4, .int .i64 (fltBits a e0)], .int .i64 (j + 1 + v : Nat), .int .i64 0]) ∧ Below w.heap.size w w' := by
  have hl := hs.blen
  have hcap := hs.cap
  have hgw : g < w.heap.size := by omega
  have hcA : ∀ x, (w.alloc x).cell? ⟨g, o + j, none⟩ = some (.int .u8 (k : Int)) := fun x => (World.cell?_alloc_lt w x _ (by exact hgw)).trans hc
  have r1 : (inR 1 0 m && inR (j : Int) 0 (m - 1)) = true := by rw [Bool.and_eq_true]; exact ⟨inR_yes (by omega) (by omega), inR_yes (by omega) (by omega)⟩
  have r2 : (inR (v : Int) 0 m && inR ((j : Int) + 1) 0 (m - v)) = true := by rw [Bool.and_eq_true]; exact ⟨inR_yes (by omega) (by omega), inR_yes (by omega) (by omega)⟩
  have h1 := fun w => i_shortMark k w (by omega)
  rw [hS] at h1
  have h2 := fun w => i_markForm k w (by omega)
  rw [hF] at h2
  have hwi := fun w => i_within k 208 211 w
  rw [hsg] at hwi
  have hsub := hs.sub_ (j + 1) v (by omega) (by omega)
  have hsw : ∀ w1 n, Below w.heap.size w w1 → Sl (w1.drewN n) B 1 (some ⟨g, o + (j + 1), none⟩) v (c - (j + 1)) (u8s (part b (j + 1) v)) := fun w1 n hb => (hsub.below (hb.mono hB)).drewN n
  have hk0 : (k : Int) ≤ 255 := by omega
  have hv8 : v ≤ 8 := by omega
  have hv1 : 1 ≤ v := by omega
  have e1 : (0 : Int) ≤ (j : Int) + 1 + v := by omega
  have e2 : (j : Int) + 1 + v ≤ (c : Int) := by omega
  have e3 : IntKind.i64.wrap ((j : Int) + 1) = (j : Int) + 1 := by rw [IntKind.wrap_i64]; omega
  have e4 : (0 : Int) ≤ (j : Int) + 1 := by omega
  have e5 : max ((j : Int) + 1 + v) 0 = (j : Int) + 1 + v := by omega
  have e6 : (j : Int) + 1 ≤ (j : Int) + 1 + v := by omega
  have e7 : ((j : Int) + 1).toNat = j + 1 := by omega
  have e8 : ((j : Int) + 1 + v).toNat = j + 1 + v := by omega
  have e9 : j + 1 + v - (j + 1) = v := by omega
  have hjc : ¬ c = j + 1 := by omega
  clear hk hF hS
  have HV := Lib.hid hy
  have hbe := bitsFlt_e hy
  clear hy hv
  · skip
    go_enter Try.func27, Try.ntmps27
    go_wp2_with (go_at_call 56; refine (i_exist _ m c _ _ _ (by omega) (by omega)).mono ?_; rintro e w' ⟨rfl, rfl⟩; rw [r1])
    refine (h1 _).mono ?_; rintro e w1 ⟨rfl, hb1⟩
    have hb0 := (Below.one w _).up hb1
    obtain ⟨hc1, hf1⟩ := bcell hb1
    have hz1 : w.heap.size < w1.heap.size := by have := hb1.size; simp at this; omega
    go_wp2_with (go_at_call 58; refine (h2 _).mono ?_; rintro e w' ⟨rfl, rfl⟩)
    refine (i_exist _ m c _ _ _ (by omega) (by omega)).mono ?_; rintro e w' ⟨rfl, rfl⟩; rw [r2]
    have hg4 : g < w1.heap.size := by omega
    have hw5 : ∀ x, Below w.heap.size w (w1.alloc x) := fun x => hb0.up (Below.one _ x)
    have hB1 := (Blk.new w 36 #[.int .i64 0, .int .i64 0]).below hb1 (by simp)
    have hF0 : ∀ x, (w1.alloc x).frozen? ⟨w.heap.size, 0, none⟩ = false := fun x => (hB1.alloc x).frozen 0
    have hF1 : ∀ x, (w1.alloc x).frozen? ⟨w.heap.size, 1, none⟩ = false := fun x => (hB1.alloc x).frozen 1
    have hb4 := hB1.alloc (.cells #[.int .i64 0, .int .i64 0] 36)
    go_wp2_with fail
    go_quiet (first | (go_at_call 50; exact quiet_left (hwi _)) | (go_at_call 59; exact quiet_left (hx _ (hsw _ _ (hw5 _)))))
    go_wp2_with (go_at_call 51; refine (i_BitsFlt _ _).mono ?_; rintro e w6 ⟨rfl, hb6⟩; rw [HV.out]; unfold fltV; have hB6 := (hb4.drewN nq).below hb6 (hb4.drewN nq).lt; have G0 : ∀ x, (w6.alloc x).frozen? ⟨w.heap.size, 0, none⟩ = false := fun x => (hB6.alloc x).frozen 0; have G1 : ∀ x, (w6.alloc x).frozen? ⟨w.heap.size, 1, none⟩ = false := fun x => (hB6.alloc x).frozen 1; have C0 : w6.cell? ⟨w.heap.size, 0, none⟩ = some (.int .i64 0) := hB6.cell 0; have C1 : w6.cell? ⟨w.heap.size, 1, none⟩ = some (.int .i64 0) := hB6.cell 1; have K0 := hB6.frozen 0; have K1 := hB6.frozen 1; have hz6 : w.heap.size < w6.heap.size := hB6.lt; have hk6 := (below_drewN (hw5 (.cells #[.int .i64 0, .int .i64 0] 36)) nq).up hb6)
    refine (i_FltBits _ _ _ hbe).mono ?_; rintro e w7 ⟨rfl, hb7⟩
    have hB7 := (hB6.alloc (.cells #[.int .i64 a, .int .i64 e0] 73)).below hb7 (hB6.alloc _).lt
    have D0 : w7.cell? ⟨w.heap.size, 0, none⟩ = some (.int .i64 0) := hB7.cell 0
    have D1 : w7.cell? ⟨w.heap.size, 1, none⟩ = some (.int .i64 0) := hB7.cell 1
    have H0 := hB7.frozen 0
    have H1 := hB7.frozen 1
    go_wp2_with fail
    exact bodyPost_ret (results_blk3 Try.results27 Try.isAgg36 (by exact Try.sizeOf36) rfl (hB7.two _ _)) rfl ⟨rfl, (((hk6.up (Below.one _ _)).up hb7).setCell (by simp) _).setCell (by simp) _⟩
end Go.Proofs.Ytihhedmehlemmaa
