/- impl.Flt and spec.Flt: valid numbers, bits. The cursor made; numbers and halves drawn. -/
import Derived.Test.YtpafgmlkbbbmhaaDoorPqM0
import Derived.Test.YtpafgmlkbbbmhaaDoorPqM15
import Derived.Deep.LoopGhost
set_option linter.unusedVariables false
set_option maxRecDepth 100000
set_option linter.unusedSimpArgs false
namespace Go.Proofs.YtpafgmlkbbbmhaaDoor
open Go.RowKit

/-- A floating-point number is valid. -/
def fltOk (m e : Int) : Bool :=
  if m = 0 then decide (e = 0) else decide (m % 2 ≠ 0 ∧ -65535 ≤ m ∧ m ≤ 65535 ∧ -16 ≤ e ∧ (e ≤ 30 ∨ (e ≤ 45 ∧ -65535 ≤ m * 2 ^ (e - 30).toNat ∧ m * 2 ^ (e - 30).toNat ≤ 65535)))

theorem tmod2 (m : Int) : m.tmod 2 = 0 ↔ m % 2 = 0 := by
  rw [← Int.dvd_iff_tmod_eq_zero, Int.dvd_iff_emod_eq_zero]
theorem tmod2_yes {m : Int} (h : m % 2 = 0) : (m.tmod 2 == 0) = true := by rw [beq_iff_eq]; exact (tmod2 m).2 h
theorem tmod2_no {m : Int} (h : ¬ m % 2 = 0) : (m.tmod 2 == 0) = false := by rw [beq_eq_false_iff_ne]; exact fun e => h ((tmod2 m).1 e)
theorem pow_bd {k : Nat} (h : k ≤ 16) : (1 : Int) ≤ 2 ^ k ∧ (2 : Int) ^ k ≤ 65536 := by
  have : k = 0 ∨ k = 1 ∨ k = 2 ∨ k = 3 ∨ k = 4 ∨ k = 5 ∨ k = 6 ∨ k = 7 ∨ k = 8 ∨ k = 9 ∨ k = 10 ∨ k = 11 ∨ k = 12 ∨ k = 13 ∨ k = 14 ∨ k = 15 ∨ k = 16 := by omega
  rcases this with rfl | rfl | rfl | rfl | rfl | rfl | rfl | rfl | rfl | rfl | rfl | rfl | rfl | rfl | rfl | rfl | rfl <;> decide
theorem mul_bd {m p : Int} (h1 : -65535 ≤ m) (h2 : m ≤ 65535) (h3 : 1 ≤ p) (h4 : p ≤ 65536) : -4294967296 ≤ m * p ∧ m * p ≤ 4294967296 := by
  have a1 : m * p ≤ 65535 * p := Int.mul_le_mul_of_nonneg_right h2 (by omega)
  have a2 : -65535 * p ≤ m * p := Int.mul_le_mul_of_nonneg_right h1 (by omega)
  omega
theorem shl_in {m e : Int} (h1 : -65535 ≤ m) (h2 : m ≤ 65535) (he : e ≤ 46) : wrap64 (m * 2 ^ (e - 30).toNat) = m * 2 ^ (e - 30).toNat := by
  have hp := pow_bd (k := (e - 30).toNat) (by omega)
  have hb := mul_bd h1 h2 hp.1 hp.2
  exact IntWalk.wrap64_in _ ⟨by omega, by omega⟩
theorem fltOk_zero (e : Int) : fltOk 0 e = decide (e = 0) := by simp [fltOk]
theorem fltOk_even {m e : Int} (h0 : m ≠ 0) (h : m % 2 = 0) : fltOk m e = false := by simp [fltOk, h0, h]
theorem fltOk_far {m e : Int} (h0 : m ≠ 0) (h : m < -65535 ∨ 65535 < m) : fltOk m e = false := by
  unfold fltOk; rw [if_neg h0, decide_eq_false_iff_not]; omega
theorem fltOk_low {m e : Int} (h0 : m ≠ 0) (h : e < -16) : fltOk m e = false := by
  unfold fltOk; rw [if_neg h0, decide_eq_false_iff_not]; omega
theorem fltOk_mid {m e : Int} (h0 : m % 2 ≠ 0) (h1 : -65535 ≤ m) (h2 : m ≤ 65535) (h3 : -16 ≤ e) (h4 : e ≤ 30) : fltOk m e = true := by
  unfold fltOk; rw [if_neg (by omega), decide_eq_true_eq]; exact ⟨h0, h1, h2, h3, Or.inl h4⟩
theorem fltOk_high {m e : Int} (h0 : m ≠ 0) (h : 45 < e) : fltOk m e = false := by
  unfold fltOk; rw [if_neg h0, decide_eq_false_iff_not]; omega
theorem fltOk_up {m e : Int} (h0 : m % 2 ≠ 0) (h1 : -65535 ≤ m) (h2 : m ≤ 65535) (h3 : 30 < e) (h4 : e ≤ 46) : fltOk m e = inR (wrap64 (m * 2 ^ (e - 30).toNat)) (-65535) 65535 := by
  rw [shl_in h1 h2 h4]
  unfold fltOk inR; rw [if_neg (by omega)]
  by_cases h : e ≤ 45
  · rw [decide_eq_decide]
    constructor
    · rintro ⟨_, _, _, _, hx⟩
      rcases hx with hx | hx
      · omega
      · exact hx.2
    · intro hx
      exact ⟨h0, h1, h2, by omega, Or.inr ⟨h, hx⟩⟩
  · obtain rfl : e = 46 := by omega
    have e16 : (46 - 30 : Int).toNat = 16 := by decide
    rw [e16, decide_eq_decide]
    constructor
    · rintro ⟨_, _, _, _, hx⟩; omega
    · intro hx; exfalso
      have : (2 : Int) ^ 16 = 65536 := by decide
      omega
set_option maxHeartbeats 1000000 in
theorem s_FltOk (m e : Int) (w : World) (hwe : e ≤ 9223372036854775807) :
    Calls Tryd.prog 70 #[.agg #[.int .i64 m, .int .i64 e]] w fun e' w' => e' = .returned (.bool (fltOk m e)) ∧ Below w.heap.size w w' := by
  by_cases hm0 : m = 0
  · subst hm0
    go_enter Tryd.func70, Tryd.ntmps70
    go_wp2_with fail
    go_ret
    exact ⟨ret_bool (by rw [fltOk_zero]; first | rfl | (rw [Bool.eq_iff_iff]; simp)), (Below.refl _ _).alloc (Nat.le_refl _) _⟩
  have h0 : (m == 0) = false := by simpa using hm0
  by_cases hm : -65535 ≤ m ∧ m ≤ 65535
  · have hb := inR_yes hm.1 hm.2
    obtain ⟨h1, h2⟩ := hm
    by_cases ho : m % 2 = 0
    · have h5 : (m.tmod 2 == 0) = true := tmod2_yes ho
      go_enter Tryd.func70, Tryd.ntmps70
      go_wp2_with (go_at_call 44; refine (s_l1In _ _ _ _).mono ?_; rintro e w' ⟨rfl, rfl⟩)
      go_ret
      exact ⟨ret_bool (fltOk_even hm0 ho).symm, (Below.refl _ _).alloc (Nat.le_refl _) _⟩
    have h5 : (m.tmod 2 == 0) = false := tmod2_no ho
    have HO := Lib.hid ho; have HM := Lib.hid hm0; clear ho hm0
    by_cases h3 : -16 ≤ e ∧ e ≤ 45
    · have hb2 := inR_yes h3.1 h3.2
      obtain ⟨h3a, h3b⟩ := h3
      by_cases h4 : e ≤ 30
      · go_enter Tryd.func70, Tryd.ntmps70
        go_wp2_with (go_at_call 44; refine (s_l1In _ _ _ _).mono ?_; rintro e w' ⟨rfl, rfl⟩)
        go_ret
        exact ⟨ret_bool (fltOk_mid HO.out h1 h2 (by omega) h4).symm, (Below.refl _ _).alloc (Nat.le_refl _) _⟩
      · go_enter Tryd.func70, Tryd.ntmps70
        go_wp2_with (go_at_call 44; refine (s_l1In _ _ _ _).mono ?_; rintro e w' ⟨rfl, rfl⟩)
        go_ret
        exact ⟨ret_bool (by rw [fltOk_up HO.out h1 h2 (by omega) (by omega), decide_eq_false (show ¬ e ≤ 30 by omega)]; rfl), (Below.refl _ _).alloc (Nat.le_refl _) _⟩
    · have hb2 : inR e (-16) 45 = false := inR_no (by omega)
      go_enter Tryd.func70, Tryd.ntmps70
      go_wp2_with (go_at_call 44; refine (s_l1In _ _ _ _).mono ?_; rintro e w' ⟨rfl, rfl⟩)
      go_ret
      refine ⟨ret_bool ?_, (Below.refl _ _).alloc (Nat.le_refl _) _⟩
      by_cases h6 : e < -16
      · exact (fltOk_low HM.out h6).symm
      · exact (fltOk_high HM.out (by omega)).symm
  · have hb : inR m (-65535) 65535 = false := inR_no (by omega)
    go_enter Tryd.func70, Tryd.ntmps70
    go_wp2_with (go_at_call 44; refine (s_l1In _ _ _ _).mono ?_; rintro e w' ⟨rfl, rfl⟩)
    go_ret
    exact ⟨ret_bool (fltOk_far hm0 (by omega)).symm, (Below.refl _ _).alloc (Nat.le_refl _) _⟩
def fltBits (m e : Int) : Int := if fltOk m e = true then 65536 * (e + 16) + (if m < 0 then 16777216 - m else m) else -1
theorem fltBits_no {m e : Int} (h : fltOk m e = false) : fltBits m e = -1 := by unfold fltBits; rw [h]; rfl
theorem fltBits_neg {m e : Int} (h : fltOk m e = true) (hm : m < 0) : fltBits m e = 65536 * (e + 16) + (16777216 - m) := by unfold fltBits; rw [if_pos h, if_pos hm]
theorem fltBits_pos {m e : Int} (h : fltOk m e = true) (hm : ¬ m < 0) : fltBits m e = 65536 * (e + 16) + m := by unfold fltBits; rw [if_pos h, if_neg hm]
theorem fltOk_bounds {m e : Int} (h : fltOk m e = true) : -65535 ≤ m ∧ m ≤ 65535 ∧ -16 ≤ e ∧ e ≤ 45 := by
  unfold fltOk at h
  split at h
  · simp at h; omega
  · simp at h; omega
end Go.Proofs.YtpafgmlkbbbmhaaDoor

namespace Go.Proofs.YtpafgmlkbbbmhaaDoor
open Go.RowKit

set_option maxHeartbeats 1000000 in
theorem s_l1New (A : Option Addr) (n c : Nat) (b : List UInt8) (w : World) (h : Sl w w.heap.size 1 A n c (u8s b)) (hn : n ≤ 1048576) :
    Calls Tryd.prog 23 #[.slice A n c] w fun r w' => r = .returned (.pointer (some ⟨w.heap.size, 0, none⟩)) ∧ Cur w' w.heap.size w.heap.size A n c b ∧ Below w.heap.size w w' := by
  go_enter Tryd.func23, Tryd.ntmps23
  go_wp2_with fail
  go_loopg [3, 4] n (fun f x i wr => ∃ (j : Nat) (y : Int), j + f = n ∧ x = .int .i64 y ∧ i = .int .i64 j ∧ wr = w)
  case atStart => exact ⟨0, _, by omega, rfl, rfl, rfl⟩
  case round =>
    obtain ⟨j, y, hjf, rfl, rfl, rfl⟩ := hrel
    by_cases hlt : j < n
    · by_cases h4 : j < 4000
      · obtain ⟨f, rfl⟩ : ∃ f, gk = f + 1 := ⟨gk - 1, by omega⟩
        obtain ⟨g2, o, rfl, hg2, hb, hc⟩ := h.byte hlt
        go_wp2_with fail
        go_roundg f
        case measure => omega
        case rel => exact ⟨j + 1, _, by omega, rfl, by go_num, rfl⟩
      · have h4i : (4000 : Int) ≤ (j : Int) := by omega
        go_wp2_with fail
        go_ret
        exact ⟨rfl, ⟨Nat.le_refl _, hn, h.alloc (Nat.le_refl _) _, 0, y, Nat.zero_le _, Blk.new _ _ _⟩, Below.one _ _⟩
    · go_wp2_with fail
      go_ret
      exact ⟨rfl, ⟨Nat.le_refl _, hn, h.alloc (Nat.le_refl _) _, 0, y, Nat.zero_le _, Blk.new _ _ _⟩, Below.one _ _⟩
theorem i64s_lit (w : World) (e : TypeId) (l : List Int) (cs : Array Value) (hc : cs.toList = i64s l) (hn : l.length ≤ 1000) : Sl (w.alloc (.cells cs e)) (w.alloc (.cells cs e)).heap.size 1 (some ⟨w.heap.size, 0, none⟩) l.length l.length (i64s l) := by
  have h := Sl.lit w e cs 1 l.length (by have := congrArg List.length hc; simp [i64s] at this; simpa using this) (by unfold maxLen; omega) (w.alloc (.cells cs e)).heap.size (by simp)
  rw [hc] at h
  exact h
theorem Blk.fr_' {w w' : World} {g : Nat} {T : TypeId} {cs : Array Value} {fp : List Nat} (h : Blk w g T cs) (hf : Fr fp w w') (hn : g ∉ fp) : Blk w' g T cs := (hf.block g h.lt hn).trans h
theorem lit_ne {g k : Nat} (h : g < k) : ∀ x ∈ blkOf (some ⟨k, 0, none⟩), x ≠ g := fun x hx => by
  simp [blkOf] at hx; omega
theorem Fr.new_ {w w' : World} {fp : List Nat} (h : Fr fp w w') {p : Addr} (hp : w.heap.size ≤ p.block) (u : Value) : Fr fp w (w'.setCell p u) :=
  ⟨h.os, h.tape, h.output, by have := h.size; simp [World.setCell]; exact this, fun k hk hn => (Below.heap_setCell w' p u k (by omega)).trans (h.block k hk hn)⟩
theorem Cur.set_ {w' : World} {B g n c k o : Nat} {A : Option Addr} {b : List UInt8} (h : Cur w' B g A n c b) (hk : g < k) (x : Value) : Cur (w'.setCell ⟨k, o, none⟩ x) B g A n c b := by
  obtain ⟨h1, h2, h3, i, z, h4, h5⟩ := h
  exact ⟨h1, h2, h3.setCell (by show B ≤ k; omega) _, i, z, h4, h5.far (by exact Nat.ne_of_lt hk) _⟩
theorem cur_two {w' : World} {B g n c k : Nat} {A : Option Addr} {b : List UInt8} {x y : Value} (h : Cur w' B g A n c b) (hk : k ≠ g) (hg : g < k) : Cur ((w'.setCell ⟨k, 0, none⟩ x).setCell ⟨k, 1, none⟩ y) B g A n c b := by
  obtain ⟨h1, h2, h3, i, z, h4, h5⟩ := h
  exact ⟨h1, h2, (h3.setCell (by show B ≤ k; omega) _).setCell (by show B ≤ k; omega) _, i, z, h4, (h5.far (by exact fun e => hk e.symm) _).far (by exact fun e => hk e.symm) _⟩
theorem Blk.at2' {w : World} {g : Nat} {T : TypeId} {a b : Value} (h : Blk w g T #[a, b]) : w.cell? ⟨g, 0, none⟩ = some a ∧ w.cell? ⟨g, 1, none⟩ = some b ∧ w.frozen? ⟨g, 0, none⟩ = false ∧ w.frozen? ⟨g, 1, none⟩ = false ∧ g < w.heap.size := ⟨h.cell 0, h.cell 1, h.frozen 0, h.frozen 1, h.lt⟩
set_option maxHeartbeats 4000000 in
theorem s_l5Draw (B g n c : Nat) (A : Option Addr) (b : List UInt8) (w : World) (h : Cur w B g A n c b) :
    Calls Tryd.prog 53 #[.pointer (some ⟨g, 0, none⟩)] w fun r w' => ∃ x y : Int, r = .returned (.agg #[.int .i64 x, .int .i64 y]) ∧ y ≤ 9223372036854775807 ∧ Cur w' B g A n c b ∧ Fr [g] w w' := by
  have hgl := h.lt
  have hgn : w.heap.size ≠ g := by omega
  have h0 := h.below (Below.one w (.cells #[.int .i64 0, .int .i64 0] 77))
  have hF0 : Fr [g] w (w.alloc (.cells #[.int .i64 0, .int .i64 0] 77)) := Fr.of_below (Below.one _ _)
  have hR : ∀ w', Fr [g] (w.alloc (.cells #[.int .i64 0, .int .i64 0] 77)) w' → Blk w' w.heap.size 77 #[.int .i64 0, .int .i64 0] := fun w' hf => Blk.fr_' (Blk.new w _ _) hf (by simpa using hgn)
  go_enter Tryd.func53, Tryd.ntmps53
  go_wp2_with fail
  refine (s_l1Below B g n c A b 32767 _ h0 (by decide)).mono ?_; rintro r w1 ⟨x1, rfl, hx1, hC1, hf1⟩
  go_wp2_with fail
  refine (s_l1Int B g n c A b (some ⟨w1.heap.size, 0, none⟩) 8 8 [0, 1, 3, 5, 255, 32767, 65535, wrap64 (1 + wrap64 (2 * x1))] _ (hC1.below (Below.one _ _)) (by exact i64s_lit _ _ [0, 1, 3, 5, 255, 32767, 65535, wrap64 (1 + wrap64 (2 * x1))] _ rfl (by exact Nat.le_of_ble_eq_true rfl)) (lit_ne hC1.lt) (by decide)).mono ?_; rintro r w2 ⟨m, rfl, hm, hCw2, hfw2⟩
  have hFw2 := (hf1.trans (Fr.of_below (Below.one _ _))).trans hfw2
  go_wp2_with fail
  refine (s_l1Below B g n c A b 47 _ hCw2 (by decide)).mono ?_; rintro r w3 ⟨x3, rfl, hx3, hC3, hf3⟩
  have hF3 := hFw2.trans hf3
  go_wp2_with fail
  refine (s_l1Int B g n c A b (some ⟨w3.heap.size, 0, none⟩) 7 7 [0, 0, 1, -1, -16, 30, wrap64 (x3 - 16)] _ (hC3.below (Below.one _ _)) (by exact i64s_lit _ _ [0, 0, 1, -1, -16, 30, wrap64 (x3 - 16)] _ rfl (by exact Nat.le_of_ble_eq_true rfl)) (lit_ne hC3.lt) (by decide)).mono ?_; rintro r w4 ⟨e, rfl, he, hCw4, hfw4⟩
  have hFw4 := (hF3.trans (Fr.of_below (Below.one _ _))).trans hfw4
  have heb : e ≤ 9223372036854775807 := by
    simp only [List.mem_cons, List.not_mem_nil, or_false] at he
    unfold wrap64 at he
    omega
  clear hx1 hx3 hC1 hC3 hf1 hf3 hCw2 hfw2 hFw2 hF3 hfw4 hm he h h0
  by_cases hm0 : m = 0
  · subst hm0
    go_wp2_with fail
    refine (s_l1Once B g n c A b 3 _ hCw4 (by decide)).mono ?_; rintro r w7 ⟨o7, rfl, hC7, hf7⟩
    have hF7 := hFw4.trans hf7
    have hR7 := hR w7 hF7
    obtain ⟨r0, r1, q0, q1, ql⟩ := hR7.at2'
    cases o7
    · go_wp2_with fail
      exact bodyPost_ret (results_blk Tryd.results53 Tryd.isAgg77 (by exact Tryd.sizeOf77) rfl (hR7.two _ _)) rfl ⟨_, _, rfl, by omega, cur_two hC7 hgn hgl, ((hF0.trans hF7).new_ (Nat.le_refl _) _).new_ (Nat.le_refl _) _⟩
    · go_wp2_with fail
      exact bodyPost_ret (results_blk Tryd.results53 Tryd.isAgg77 (by exact Tryd.sizeOf77) rfl (hR7.two _ _)) rfl ⟨_, _, rfl, by omega, cur_two hC7 hgn hgl, ((hF0.trans hF7).new_ (Nat.le_refl _) _).new_ (Nat.le_refl _) _⟩
  have hmz : (m == 0) = false := by simp [hm0]
  by_cases hm1 : m = 1
  · subst hm1
    go_wp2_with fail
    refine (s_l1Once B g n c A b 2 _ hCw4 (by decide)).mono ?_; rintro r w5 ⟨o5, rfl, hC5, hf5⟩
    have hF5 := hFw4.trans hf5
    cases o5
    · go_wp2_with fail
      refine (s_l1Once B g n c A b 3 _ hC5 (by decide)).mono ?_; rintro r w7 ⟨o7, rfl, hC7, hf7⟩
      have hF7 := hF5.trans hf7
      have hR7 := hR w7 hF7
      obtain ⟨r0, r1, q0, q1, ql⟩ := hR7.at2'
      cases o7
      · go_wp2_with fail
        exact bodyPost_ret (results_blk Tryd.results53 Tryd.isAgg77 (by exact Tryd.sizeOf77) rfl (hR7.two _ _)) rfl ⟨_, _, rfl, by omega, cur_two hC7 hgn hgl, ((hF0.trans hF7).new_ (Nat.le_refl _) _).new_ (Nat.le_refl _) _⟩
      · go_wp2_with fail
        exact bodyPost_ret (results_blk Tryd.results53 Tryd.isAgg77 (by exact Tryd.sizeOf77) rfl (hR7.two _ _)) rfl ⟨_, _, rfl, by omega, cur_two hC7 hgn hgl, ((hF0.trans hF7).new_ (Nat.le_refl _) _).new_ (Nat.le_refl _) _⟩
    · go_wp2_with fail
      refine (s_l1Int B g n c A b (some ⟨w5.heap.size, 0, none⟩) 2 2 [31, 45] _ (hC5.below (Below.one _ _)) (by exact i64s_lit _ _ [31, 45] _ rfl (by exact Nat.le_of_ble_eq_true rfl)) (lit_ne hC5.lt) (by decide)).mono ?_; rintro r w6 ⟨e2, rfl, he2, hCw6, hfw6⟩
      have hFw6 := (hF5.trans (Fr.of_below (Below.one _ _))).trans hfw6
      have heb2 : e2 ≤ 9223372036854775807 := by
        simp only [List.mem_cons, List.not_mem_nil, or_false] at he2
        omega
      clear he2
      go_wp2_with fail
      refine (s_l1Once B g n c A b 3 _ hCw6 (by decide)).mono ?_; rintro r w7 ⟨o7, rfl, hC7, hf7⟩
      have hF7 := hFw6.trans hf7
      have hR7 := hR w7 hF7
      obtain ⟨r0, r1, q0, q1, ql⟩ := hR7.at2'
      cases o7
      · go_wp2_with fail
        exact bodyPost_ret (results_blk Tryd.results53 Tryd.isAgg77 (by exact Tryd.sizeOf77) rfl (hR7.two _ _)) rfl ⟨_, _, rfl, by omega, cur_two hC7 hgn hgl, ((hF0.trans hF7).new_ (Nat.le_refl _) _).new_ (Nat.le_refl _) _⟩
      · go_wp2_with fail
        exact bodyPost_ret (results_blk Tryd.results53 Tryd.isAgg77 (by exact Tryd.sizeOf77) rfl (hR7.two _ _)) rfl ⟨_, _, rfl, by omega, cur_two hC7 hgn hgl, ((hF0.trans hF7).new_ (Nat.le_refl _) _).new_ (Nat.le_refl _) _⟩
  · have hmo : (m == 1) = false := by simp [hm1]
    go_wp2_with fail
    refine (s_l1Once B g n c A b 3 _ hCw4 (by decide)).mono ?_; rintro r w7 ⟨o7, rfl, hC7, hf7⟩
    have hF7 := hFw4.trans hf7
    have hR7 := hR w7 hF7
    obtain ⟨r0, r1, q0, q1, ql⟩ := hR7.at2'
    cases o7
    · go_wp2_with fail
      exact bodyPost_ret (results_blk Tryd.results53 Tryd.isAgg77 (by exact Tryd.sizeOf77) rfl (hR7.two _ _)) rfl ⟨_, _, rfl, by omega, cur_two hC7 hgn hgl, ((hF0.trans hF7).new_ (Nat.le_refl _) _).new_ (Nat.le_refl _) _⟩
    · go_wp2_with fail
      exact bodyPost_ret (results_blk Tryd.results53 Tryd.isAgg77 (by exact Tryd.sizeOf77) rfl (hR7.two _ _)) rfl ⟨_, _, rfl, by omega, cur_two hC7 hgn hgl, ((hF0.trans hF7).new_ (Nat.le_refl _) _).new_ (Nat.le_refl _) _⟩
end Go.Proofs.YtpafgmlkbbbmhaaDoor
