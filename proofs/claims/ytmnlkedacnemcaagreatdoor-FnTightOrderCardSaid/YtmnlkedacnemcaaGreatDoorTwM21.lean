/- The draws of numbers. Numbers drawn, bounded on both sides. Written by gen/tokdraws.py. UTF-8, plain: what a reader of one character says, over the model's own decoder. No function of the program in sight. -/
import Derived.Test.YtmnlkedacnemcaaGreatDoorTwM19
import Derived.Test.YtmnlkedacnemcaaGreatDoorTwFltNew
import Derived.Test.YtmnlkedacnemcaaGreatDoorTwM3
import Derived.Lib.ValidLaws
set_option linter.unusedVariables false
set_option maxRecDepth 100000
set_option linter.unusedSimpArgs false
namespace Go.Proofs.YtmnlkedacnemcaaGreatDoor
open Go.RowKit

theorem wrap64_top (x : Int) : wrap64 x ≤ 9223372036854775807 := by unfold wrap64; omega
set_option maxHeartbeats 2000000 in
theorem s_l1Num (B g n c : Nat) (A : Option Addr) (b : List UInt8) (w : World) (h : Cur w B g A n c b) :
    Calls Tryz.prog 72 #[.pointer (some ⟨g, 0, none⟩)] w fun r w' => ∃ x : Int, r = .returned (.int .i64 x) ∧ x ≤ 9223372036854775807 ∧ Cur w' B g A n c b ∧ Fr [g] w w' := by
  have hF0 := Fr.refl [g] w
  go_enter Tryz.func72, Tryz.ntmps72
  go_wp2_with fail
  refine (s_l1Below B g n c A b 5 _ h (by decide)).mono ?_; rintro r w1 ⟨x, rfl, hx, hCw1, hfw1⟩
  have hFw1 := hF0.trans hfw1
  by_cases e0 : x = 0
  · subst e0
    go_wp2_with fail
    refine (s_l1Below B g n c A b 70000 _ hCw1 (by decide)).mono ?_; rintro r w2 ⟨y, rfl, hy, hCw2, hfw2⟩
    have hFw2 := hFw1.trans hfw2
    go_wp2_with fail
    go_ret
    refine ⟨_, rfl, ?_, hCw2, hFw2⟩
    have hyb := hy.2 (by decide)
    first | omega | exact wrap64_top _ | exact hy
  have z0 : (x == 0) = false := by simp [e0]
  by_cases e1 : x = 1
  · subst e1
    go_wp2_with fail
    refine (s_l1Int B g n c A b (some ⟨w1.heap.size, 0, none⟩) 9 9 [0, 1, 9, 10, 255, 256, 65535, 65536, 1000000000000000] _ (hCw1.below (Below.one _ _)) (by exact i64s_lit _ _ [0, 1, 9, 10, 255, 256, 65535, 65536, 1000000000000000] _ rfl (by exact Nat.le_of_ble_eq_true rfl)) (lit_ne hCw1.lt) (by decide)).mono ?_; rintro r w2 ⟨y, rfl, hy, hCw2, hfw2⟩
    have hFw2 := (hFw1.trans (Fr.of_below (Below.one _ _))).trans hfw2
    go_wp2_with fail
    go_ret
    refine ⟨_, rfl, ?_, hCw2, hFw2⟩
    simp only [List.mem_cons, List.not_mem_nil, or_false] at hy
    first | omega | exact wrap64_top _ | exact hy
  have z1 : (x == 1) = false := by simp [e1]
  by_cases e2 : x = 2
  · subst e2
    go_wp2_with fail
    refine (s_l1Below B g n c A b 1000000 _ hCw1 (by decide)).mono ?_; rintro r w2 ⟨y, rfl, hy, hCw2, hfw2⟩
    have hFw2 := hFw1.trans hfw2
    go_wp2_with fail
    refine (s_l1Below B g n c A b 1000000 _ hCw2 (by decide)).mono ?_; rintro r w3 ⟨y2, rfl, hy2, hCw3, hfw3⟩
    have hFw3 := hFw2.trans hfw3
    go_wp2_with fail
    go_ret
    refine ⟨_, rfl, ?_, hCw3, hFw3⟩
    first | omega | exact wrap64_top _ | exact hy
  have z2 : (x == 2) = false := by simp [e2]
  by_cases e3 : x = 3
  · subst e3
    go_wp2_with fail
    refine (s_l1Below B g n c A b 50 _ hCw1 (by decide)).mono ?_; rintro r w2 ⟨y, rfl, hy, hCw2, hfw2⟩
    have hFw2 := hFw1.trans hfw2
    obtain ⟨hy0, hy1⟩ := hy.2 (by decide)
    obtain ⟨k, rfl⟩ := Int.eq_ofNat_of_zero_le hy0
    go_wp2_with fail
    go_ret
    refine ⟨_, rfl, ?_, hCw2, hFw2⟩
    first | omega | exact wrap64_top _ | exact hy
  · have z3 : (x == 3) = false := by simp [e3]
    go_wp2_with fail
    refine (s_l1Below B g n c A b 30 _ hCw1 (by decide)).mono ?_; rintro r w2 ⟨y, rfl, hy, hCw2, hfw2⟩
    have hFw2 := hFw1.trans hfw2
    go_wp2_with fail
    go_ret
    refine ⟨_, rfl, ?_, hCw2, hFw2⟩
    have hyb := hy.2 (by decide)
    first | omega | exact wrap64_top _ | exact hy
set_option maxHeartbeats 2000000 in
theorem s_l1Signed (B g n c : Nat) (A : Option Addr) (b : List UInt8) (w : World) (h : Cur w B g A n c b) :
    Calls Tryz.prog 50 #[.pointer (some ⟨g, 0, none⟩)] w fun r w' => ∃ x : Int, r = .returned (.int .i64 x) ∧ x ≤ 9223372036854775807 ∧ Cur w' B g A n c b ∧ Fr [g] w w' := by
  have hF0 := Fr.refl [g] w
  go_enter Tryz.func50, Tryz.ntmps50
  go_wp2_with fail
  refine (s_l1Once B g n c A b 2 _ h (by decide)).mono ?_; rintro r w1 ⟨o1, rfl, hCw1, hfw1⟩
  have hFw1 := hF0.trans hfw1
  cases o1
  · go_wp2_with fail
    refine (s_l1Num B g n c A b _ hCw1).mono ?_; rintro r w2 ⟨y, rfl, hy, hCw2, hfw2⟩
    have hFw2 := hFw1.trans hfw2
    go_wp2_with fail
    go_ret
    refine ⟨_, rfl, ?_, hCw2, hFw2⟩
    first | omega | exact wrap64_top _ | exact hy
  · go_wp2_with fail
    refine (s_l1Num B g n c A b _ hCw1).mono ?_; rintro r w2 ⟨y, rfl, hy, hCw2, hfw2⟩
    have hFw2 := hFw1.trans hfw2
    go_wp2_with fail
    go_ret
    refine ⟨_, rfl, ?_, hCw2, hFw2⟩
    first | omega | exact wrap64_top _ | exact hy
theorem Fr.up {w w' : World} {lo g : Nat} (h : Fr [g] w w') (hg : lo ≤ g) (hl : lo ≤ w.heap.size) : Below lo w w' := h.below (by simpa using hg) hl
end Go.Proofs.YtmnlkedacnemcaaGreatDoor

namespace Go.Proofs.YtmnlkedacnemcaaGreatDoor
open Go.RowKit

theorem wrap64_two (x : Int) : -9223372036854775808 ≤ wrap64 x ∧ wrap64 x ≤ 9223372036854775807 := by unfold wrap64; omega
set_option maxHeartbeats 2000000 in
theorem s_l1NumB (B g n c : Nat) (A : Option Addr) (b : List UInt8) (w : World) (h : Cur w B g A n c b) :
    Calls Tryz.prog 72 #[.pointer (some ⟨g, 0, none⟩)] w fun r w' => ∃ x : Int, r = .returned (.int .i64 x) ∧ (-9223372036854775808 ≤ x ∧ x ≤ 9223372036854775807) ∧ Cur w' B g A n c b ∧ Fr [g] w w' := by
  have hF0 := Fr.refl [g] w
  go_enter Tryz.func72, Tryz.ntmps72
  go_wp2_with fail
  refine (s_l1Below B g n c A b 5 _ h (by decide)).mono ?_; rintro r w1 ⟨x, rfl, hx, hCw1, hfw1⟩
  have hFw1 := hF0.trans hfw1
  by_cases e0 : x = 0
  · subst e0
    go_wp2_with fail
    refine (s_l1Below B g n c A b 70000 _ hCw1 (by decide)).mono ?_; rintro r w2 ⟨y, rfl, hy, hCw2, hfw2⟩
    have hFw2 := hFw1.trans hfw2
    go_wp2_with fail
    go_ret
    refine ⟨_, rfl, ?_, hCw2, hFw2⟩
    have hyb := hy.2 (by decide)
    first | omega | exact wrap64_two _ | exact hy
  have z0 : (x == 0) = false := by simp [e0]
  by_cases e1 : x = 1
  · subst e1
    go_wp2_with fail
    refine (s_l1Int B g n c A b (some ⟨w1.heap.size, 0, none⟩) 9 9 [0, 1, 9, 10, 255, 256, 65535, 65536, 1000000000000000] _ (hCw1.below (Below.one _ _)) (by exact i64s_lit _ _ [0, 1, 9, 10, 255, 256, 65535, 65536, 1000000000000000] _ rfl (by exact Nat.le_of_ble_eq_true rfl)) (lit_ne hCw1.lt) (by decide)).mono ?_; rintro r w2 ⟨y, rfl, hy, hCw2, hfw2⟩
    have hFw2 := (hFw1.trans (Fr.of_below (Below.one _ _))).trans hfw2
    go_wp2_with fail
    go_ret
    refine ⟨_, rfl, ?_, hCw2, hFw2⟩
    simp only [List.mem_cons, List.not_mem_nil, or_false] at hy
    first | omega | exact wrap64_two _ | exact hy
  have z1 : (x == 1) = false := by simp [e1]
  by_cases e2 : x = 2
  · subst e2
    go_wp2_with fail
    refine (s_l1Below B g n c A b 1000000 _ hCw1 (by decide)).mono ?_; rintro r w2 ⟨y, rfl, hy, hCw2, hfw2⟩
    have hFw2 := hFw1.trans hfw2
    go_wp2_with fail
    refine (s_l1Below B g n c A b 1000000 _ hCw2 (by decide)).mono ?_; rintro r w3 ⟨y2, rfl, hy2, hCw3, hfw3⟩
    have hFw3 := hFw2.trans hfw3
    go_wp2_with fail
    go_ret
    refine ⟨_, rfl, ?_, hCw3, hFw3⟩
    first | omega | exact wrap64_two _ | exact hy
  have z2 : (x == 2) = false := by simp [e2]
  by_cases e3 : x = 3
  · subst e3
    go_wp2_with fail
    refine (s_l1Below B g n c A b 50 _ hCw1 (by decide)).mono ?_; rintro r w2 ⟨y, rfl, hy, hCw2, hfw2⟩
    have hFw2 := hFw1.trans hfw2
    obtain ⟨hy0, hy1⟩ := hy.2 (by decide)
    obtain ⟨k, rfl⟩ := Int.eq_ofNat_of_zero_le hy0
    go_wp2_with fail
    go_ret
    refine ⟨_, rfl, ?_, hCw2, hFw2⟩
    first | omega | exact wrap64_two _ | exact hy
  · have z3 : (x == 3) = false := by simp [e3]
    go_wp2_with fail
    refine (s_l1Below B g n c A b 30 _ hCw1 (by decide)).mono ?_; rintro r w2 ⟨y, rfl, hy, hCw2, hfw2⟩
    have hFw2 := hFw1.trans hfw2
    go_wp2_with fail
    go_ret
    refine ⟨_, rfl, ?_, hCw2, hFw2⟩
    have hyb := hy.2 (by decide)
    first | omega | exact wrap64_two _ | exact hy
set_option maxHeartbeats 2000000 in
theorem s_l1SignedB (B g n c : Nat) (A : Option Addr) (b : List UInt8) (w : World) (h : Cur w B g A n c b) :
    Calls Tryz.prog 50 #[.pointer (some ⟨g, 0, none⟩)] w fun r w' => ∃ x : Int, r = .returned (.int .i64 x) ∧ (-9223372036854775808 ≤ x ∧ x ≤ 9223372036854775807) ∧ Cur w' B g A n c b ∧ Fr [g] w w' := by
  have hF0 := Fr.refl [g] w
  go_enter Tryz.func50, Tryz.ntmps50
  go_wp2_with fail
  refine (s_l1Once B g n c A b 2 _ h (by decide)).mono ?_; rintro r w1 ⟨o1, rfl, hCw1, hfw1⟩
  have hFw1 := hF0.trans hfw1
  cases o1
  · go_wp2_with fail
    refine (s_l1NumB B g n c A b _ hCw1).mono ?_; rintro r w2 ⟨y, rfl, hy, hCw2, hfw2⟩
    have hFw2 := hFw1.trans hfw2
    go_wp2_with fail
    go_ret
    refine ⟨_, rfl, ?_, hCw2, hFw2⟩
    first | omega | exact wrap64_two _ | exact hy
  · go_wp2_with fail
    refine (s_l1NumB B g n c A b _ hCw1).mono ?_; rintro r w2 ⟨y, rfl, hy, hCw2, hfw2⟩
    have hFw2 := hFw1.trans hfw2
    go_wp2_with fail
    go_ret
    refine ⟨_, rfl, ?_, hCw2, hFw2⟩
    first | omega | exact wrap64_two _ | exact hy
end Go.Proofs.YtmnlkedacnemcaaGreatDoor

namespace Go.Proofs.YtmnlkedacnemcaaGreatDoor
open Go.RowKit

/-- The character at the head, and its bytes; none: there is none. -/
def getR (l : List UInt8) : Option (Nat × Nat) := if l = [] then none else if (Lib.decodeL l).1 = 65533 ∧ (Lib.decodeL l).2 = 1 then none else some (Lib.decodeL l)
/-- The bytes behind the first, six bits each. -/
def accR (l : List UInt8) (x : Int) : Nat → Int
  | 0 => x
  | j + 1 => 64 * accR l x j + (l.getD (j + 1) 0).toNat - 128
def contR (l : List UInt8) (j : Nat) : Prop := 128 ≤ (l.getD j 0).toNat ∧ (l.getD j 0).toNat ≤ 191
theorem accR_bd (l : List UInt8) (x : Int) (h0 : 0 ≤ x) (h1 : x < 32) : ∀ j, (∀ i, 1 ≤ i → i ≤ j → contR l i) → 0 ≤ accR l x j ∧ accR l x j < 32 * 64 ^ j
  | 0, _ => by simp [accR]; omega
  | j + 1, h => by
    have ih := accR_bd l x h0 h1 j fun i a b => h i a (by omega)
    have hc := h (j + 1) (by omega) (Nat.le_refl _)
    unfold contR at hc
    simp only [accR]
    rw [Int.pow_succ]
    omega
section
variable {n b0 b1 b2 b3 : Nat}
theorem dec1 (h : b0 < 128) : Lib.decodeN n b0 b1 b2 b3 = (b0, 1) := by simp [Lib.decodeN, h]
set_option maxHeartbeats 2000000 in
theorem decBad (h : (128 ≤ b0 ∧ b0 < 192) ∨ (248 ≤ b0 ∧ b0 < 256)) : Lib.decodeN n b0 b1 b2 b3 = (65533, 1) := by
  unfold Lib.decodeN
  repeat' split
  all_goals first | rfl | (exfalso; omega)
set_option maxHeartbeats 2000000 in
theorem dec2 (h : 192 ≤ b0 ∧ b0 ≤ 223) (h1 : b1 < 256) : Lib.decodeN n b0 b1 b2 b3 = if 2 ≤ n ∧ (128 ≤ b1 ∧ b1 ≤ 191) ∧ 128 ≤ 64 * (b0 - 192) + (b1 - 128) then (64 * (b0 - 192) + (b1 - 128), 2) else (65533, 1) := by
  unfold Lib.decodeN
  repeat' split
  all_goals first | rfl | (exfalso; omega) | (apply Prod.ext <;> simp only <;> omega)
set_option maxHeartbeats 4000000 in
theorem dec3 (h : 224 ≤ b0 ∧ b0 ≤ 239) (h1 : b1 < 256) (h2 : b2 < 256) : Lib.decodeN n b0 b1 b2 b3 = if 3 ≤ n ∧ (128 ≤ b1 ∧ b1 ≤ 191) ∧ (128 ≤ b2 ∧ b2 ≤ 191) ∧ 2048 ≤ 64 * (64 * (b0 - 224) + (b1 - 128)) + (b2 - 128) ∧ ¬ (55296 ≤ 64 * (64 * (b0 - 224) + (b1 - 128)) + (b2 - 128) ∧ 64 * (64 * (b0 - 224) + (b1 - 128)) + (b2 - 128) ≤ 57343) then (64 * (64 * (b0 - 224) + (b1 - 128)) + (b2 - 128), 3) else (65533, 1) := by
  unfold Lib.decodeN
  repeat' split
  all_goals first | rfl | (exfalso; omega) | (apply Prod.ext <;> simp only <;> omega)
set_option maxHeartbeats 8000000 in
theorem dec4 (h : 240 ≤ b0 ∧ b0 ≤ 247) (h1 : b1 < 256) (h2 : b2 < 256) (h3 : b3 < 256) : Lib.decodeN n b0 b1 b2 b3 = if 4 ≤ n ∧ (128 ≤ b1 ∧ b1 ≤ 191) ∧ (128 ≤ b2 ∧ b2 ≤ 191) ∧ (128 ≤ b3 ∧ b3 ≤ 191) ∧ 65536 ≤ 64 * (64 * (64 * (b0 - 240) + (b1 - 128)) + (b2 - 128)) + (b3 - 128) ∧ 64 * (64 * (64 * (b0 - 240) + (b1 - 128)) + (b2 - 128)) + (b3 - 128) ≤ 1114111 then (64 * (64 * (64 * (b0 - 240) + (b1 - 128)) + (b2 - 128)) + (b3 - 128), 4) else (65533, 1) := by
  unfold Lib.decodeN
  repeat' split
  all_goals first | rfl | (exfalso; omega) | (apply Prod.ext <;> simp only <;> omega)
end
/-- How many bytes a first byte asks for; 0: it is none. -/
def wid0 (x : Nat) : Nat := if x < 128 then 1 else if x < 192 then 0 else if x < 224 then 2 else if x < 240 then 3 else if x < 248 then 4 else 0
def base0 (x : Nat) : Nat := if x < 128 then x else if x < 224 then x - 192 else if x < 240 then x - 224 else x - 240
theorem getR_of {l : List UInt8} (hl : l ≠ []) : getR l = if (Lib.decodeN l.length (l.getD 0 0).toNat (l.getD 1 0).toNat (l.getD 2 0).toNat (l.getD 3 0).toNat).1 = 65533 ∧ (Lib.decodeN l.length (l.getD 0 0).toNat (l.getD 1 0).toNat (l.getD 2 0).toNat (l.getD 3 0).toNat).2 = 1 then none else some (Lib.decodeN l.length (l.getD 0 0).toNat (l.getD 1 0).toNat (l.getD 2 0).toNat (l.getD 3 0).toNat) := by
  unfold getR
  rw [if_neg hl, Lib.decodeL_N]
theorem getR_none0 {l : List UInt8} (hl : l ≠ []) (h : wid0 (l.getD 0 0).toNat = 0) : getR l = none := by
  rw [getR_of hl, decBad, if_pos ⟨rfl, rfl⟩]
  have := (l.getD 0 0).toNat_lt
  unfold wid0 at h
  (repeat' split at h) <;> omega
theorem getR_short {l : List UInt8} (hl : l ≠ []) (h : l.length < wid0 (l.getD 0 0).toNat) : getR l = none := by
  have hp := List.length_pos_iff.2 hl
  rw [getR_of hl]
  have h1 := (l.getD 1 0).toNat_lt
  have h2 := (l.getD 2 0).toNat_lt
  have h3 := (l.getD 3 0).toNat_lt
  unfold wid0 at h
  (repeat' split at h) <;> try omega
  · rw [(dec2 (by omega) h1).trans (if_neg (by omega)), if_pos ⟨rfl, rfl⟩]
  · rw [(dec3 (by omega) h1 h2).trans (if_neg (by omega)), if_pos ⟨rfl, rfl⟩]
  · rw [(dec4 (by omega) h1 h2 h3).trans (if_neg (by omega)), if_pos ⟨rfl, rfl⟩]
theorem getR_cont {l : List UInt8} (hl : l ≠ []) {j : Nat} (hj1 : 1 ≤ j) (h : j < wid0 (l.getD 0 0).toNat) (hc : ¬ contR l j) : getR l = none := by
  rw [getR_of hl]
  have h1 := (l.getD 1 0).toNat_lt
  have h2 := (l.getD 2 0).toNat_lt
  have h3 := (l.getD 3 0).toNat_lt
  unfold contR at hc
  unfold wid0 at h
  (repeat' split at h) <;> try omega
  · obtain rfl : j = 1 := by omega
    rw [(dec2 (by omega) h1).trans (if_neg (by omega)), if_pos ⟨rfl, rfl⟩]
  · have : j = 1 ∨ j = 2 := by omega
    rcases this with rfl | rfl <;> rw [(dec3 (by omega) h1 h2).trans (if_neg (by omega)), if_pos ⟨rfl, rfl⟩]
  · have : j = 1 ∨ j = 2 ∨ j = 3 := by omega
    rcases this with rfl | rfl | rfl <;> rw [(dec4 (by omega) h1 h2 h3).trans (if_neg (by omega)), if_pos ⟨rfl, rfl⟩]
theorem wideOf_1 {c : Int} (h : 0 ≤ c) : wideOf c = 1 ↔ c < 128 := by unfold wideOf runeOk; simp only [decide_eq_true_eq]; (repeat' split) <;> omega
theorem wideOf_2 {c : Int} (h : 0 ≤ c) : wideOf c = 2 ↔ 128 ≤ c ∧ c < 2048 := by unfold wideOf runeOk; simp only [decide_eq_true_eq]; (repeat' split) <;> omega
theorem wideOf_3 {c : Int} (h : 0 ≤ c) : wideOf c = 3 ↔ 2048 ≤ c ∧ c < 65536 ∧ ¬ (55296 ≤ c ∧ c ≤ 57343) := by unfold wideOf runeOk; simp only [decide_eq_true_eq]; (repeat' split) <;> omega
theorem wideOf_4 {c : Int} (h : 0 ≤ c) : wideOf c = 4 ↔ 65536 ≤ c ∧ c ≤ 1114111 := by unfold wideOf runeOk; simp only [decide_eq_true_eq]; (repeat' split) <;> omega
theorem wid0_cases (x : Nat) (h : 0 < wid0 x) : (wid0 x = 1 ∧ base0 x = x ∧ x < 128) ∨ (wid0 x = 2 ∧ base0 x = x - 192 ∧ 192 ≤ x ∧ x ≤ 223) ∨ (wid0 x = 3 ∧ base0 x = x - 224 ∧ 224 ≤ x ∧ x ≤ 239) ∨ (wid0 x = 4 ∧ base0 x = x - 240 ∧ 240 ≤ x ∧ x ≤ 247) := by
  unfold wid0 base0 at *
  (repeat' split at h) <;> (repeat' split) <;> omega
theorem none_of {l : List UInt8} (hl : l ≠ []) (h : Lib.decodeN l.length (l.getD 0 0).toNat (l.getD 1 0).toNat (l.getD 2 0).toNat (l.getD 3 0).toNat = (65533, 1)) : getR l = none := by
  rw [getR_of hl, h]; rfl
theorem some_of {l : List UInt8} (hl : l ≠ []) {d : Nat × Nat} (h : Lib.decodeN l.length (l.getD 0 0).toNat (l.getD 1 0).toNat (l.getD 2 0).toNat (l.getD 3 0).toNat = d) (h2 : ¬ (d.1 = 65533 ∧ d.2 = 1)) : getR l = some d := by
  rw [getR_of hl, h, if_neg h2]
theorem getR_all {l : List UInt8} (hl : l ≠ []) {k : Nat} (hk : k = wid0 (l.getD 0 0).toNat) (h0 : 0 < k) (hn : k ≤ l.length) (hc : ∀ j, 1 ≤ j → j < k → contR l j) :
    getR l = if wideOf (accR l (base0 (l.getD 0 0).toNat) (k - 1)) = k then some ((accR l (base0 (l.getD 0 0).toNat) (k - 1)).toNat, k) else none := by
  have h1 := (l.getD 1 0).toNat_lt
  have h2 := (l.getD 2 0).toNat_lt
  have h3 := (l.getD 3 0).toNat_lt
  unfold contR at hc
  rcases wid0_cases _ (hk ▸ h0) with ⟨e1, e2, e3⟩ | ⟨e1, e2, e3⟩ | ⟨e1, e2, e3⟩ | ⟨e1, e2, e3⟩
  · rw [e1] at hk
    subst hk
    rw [some_of hl (dec1 e3) (fun h => by have := h.1; simp only at this; omega), e2]
    simp only [Nat.sub_self, accR]
    rw [if_pos (by exact (wideOf_1 (by omega)).2 (by omega))]
    simp
  · rw [e1] at hk
    subst hk
    have c1 := hc 1 (by omega) (by omega)
    rw [e2]
    simp only [accR, Nat.reduceSub, Nat.zero_add]
    by_cases g : 128 ≤ 64 * ((l.getD 0 0).toNat - 192) + ((l.getD 1 0).toNat - 128)
    · rw [some_of hl ((dec2 e3 h1).trans (if_pos ⟨hn, c1, g⟩)) (by simp), if_pos (by exact (wideOf_2 (by omega)).2 (by omega))]
      simp only [Option.some.injEq, Prod.mk.injEq, and_true]; omega
    · rw [none_of hl ((dec2 e3 h1).trans (if_neg fun h => g h.2.2)), if_neg (fun h => by have := (wideOf_2 (by omega)).1 h; omega)]
  · rw [e1] at hk
    subst hk
    have c1 := hc 1 (by omega) (by omega)
    have c2 := hc 2 (by omega) (by omega)
    rw [e2]
    simp only [accR, Nat.reduceSub, Nat.zero_add, Nat.reduceAdd]
    by_cases g : 2048 ≤ 64 * (64 * ((l.getD 0 0).toNat - 224) + ((l.getD 1 0).toNat - 128)) + ((l.getD 2 0).toNat - 128) ∧ ¬ (55296 ≤ 64 * (64 * ((l.getD 0 0).toNat - 224) + ((l.getD 1 0).toNat - 128)) + ((l.getD 2 0).toNat - 128) ∧ 64 * (64 * ((l.getD 0 0).toNat - 224) + ((l.getD 1 0).toNat - 128)) + ((l.getD 2 0).toNat - 128) ≤ 57343)
    · rw [some_of hl ((dec3 e3 h1 h2).trans (if_pos ⟨hn, c1, c2, g⟩)) (by simp), if_pos (by exact (wideOf_3 (by omega)).2 (by omega))]
      simp only [Option.some.injEq, Prod.mk.injEq, and_true]; omega
    · rw [none_of hl ((dec3 e3 h1 h2).trans (if_neg fun h => g h.2.2.2)), if_neg (fun h => by have := (wideOf_3 (by omega)).1 h; omega)]
  · rw [e1] at hk
    subst hk
    have c1 := hc 1 (by omega) (by omega)
    have c2 := hc 2 (by omega) (by omega)
    have c3 := hc 3 (by omega) (by omega)
    rw [e2]
    simp only [accR, Nat.reduceSub, Nat.zero_add, Nat.reduceAdd]
    by_cases g : 65536 ≤ 64 * (64 * (64 * ((l.getD 0 0).toNat - 240) + ((l.getD 1 0).toNat - 128)) + ((l.getD 2 0).toNat - 128)) + ((l.getD 3 0).toNat - 128) ∧ 64 * (64 * (64 * ((l.getD 0 0).toNat - 240) + ((l.getD 1 0).toNat - 128)) + ((l.getD 2 0).toNat - 128)) + ((l.getD 3 0).toNat - 128) ≤ 1114111
    · rw [some_of hl ((dec4 e3 h1 h2 h3).trans (if_pos ⟨hn, c1, c2, c3, g⟩)) (by simp), if_pos (by exact (wideOf_4 (by omega)).2 (by omega))]
      simp only [Option.some.injEq, Prod.mk.injEq, and_true]; omega
    · rw [none_of hl ((dec4 e3 h1 h2 h3).trans (if_neg fun h => g h.2.2.2.2)), if_neg (fun h => by have := (wideOf_4 (by omega)).1 h; omega)]
set_option maxHeartbeats 2000000 in
/-- What a reader of one character hands back is a character, and its bytes are the text's. -/
theorem getR_some {l : List UInt8} {c k : Nat} (h : getR l = some (c, k)) : runeOk c = true ∧ wideOf c = k ∧ 1 ≤ k ∧ k ≤ 4 ∧ k ≤ l.length ∧ encL c = l.take k := by
  by_cases hl : l = []
  · simp [getR, hl] at h
  rcases Nat.eq_zero_or_pos (wid0 (l.getD 0 0).toNat) with hw | hw
  · rw [getR_none0 hl hw] at h; cases h
  by_cases hn : wid0 (l.getD 0 0).toNat ≤ l.length
  rotate_left
  · rw [getR_short hl (by omega)] at h; cases h
  by_cases hc : ∀ j, 1 ≤ j → j < wid0 (l.getD 0 0).toNat → contR l j
  rotate_left
  · obtain ⟨j, hj⟩ := Classical.not_forall.1 hc
    simp only [Classical.not_imp] at hj
    rw [getR_cont hl hj.1 hj.2.1 hj.2.2] at h; cases h
  rw [getR_all hl rfl hw hn hc] at h
  split at h
  rotate_left
  · cases h
  rename_i hwide
  simp only [Option.some.injEq, Prod.mk.injEq] at h
  obtain ⟨h1, h2⟩ := h
  unfold contR at hc
  have hro : ∀ x : Int, 0 < wideOf x → runeOk x = true ∧ 0 ≤ x := fun x hx => by
    unfold wideOf at hx
    split at hx
    · rename_i a; exact ⟨a, (runeOk_iff.1 a).1⟩
    · omega
  obtain ⟨r1, r2⟩ := hro _ (by rw [hwide]; omega)
  have e : ((accR l (base0 (l.getD 0 0).toNat) (wid0 (l.getD 0 0).toNat - 1)).toNat : Int) = accR l (base0 (l.getD 0 0).toNat) (wid0 (l.getD 0 0).toNat - 1) := Int.toNat_of_nonneg r2
  rw [h1] at e
  rw [← e] at hwide r1 r2
  have g0 : ∀ b : UInt8, ∀ m : Nat, m = b.toNat → UInt8.ofNat m = b := fun b m hm => by subst hm; simp
  have tk : ∀ j, j < l.length → l.getD j 0 = l[j]! := fun j hj => by simp [List.getD, hj]
  rcases wid0_cases _ hw with ⟨e1, e2, e3⟩ | ⟨e1, e2, e3⟩ | ⟨e1, e2, e3⟩ | ⟨e1, e2, e3⟩
  all_goals
    rw [e1] at h2 hwide e hn
    rw [e2] at e
    subst h2
    refine ⟨r1, hwide, by omega, by omega, hn, ?_⟩
  · have hb := (wideOf_1 (by omega)).1 hwide
    simp only [accR, Nat.sub_self] at e
    unfold encL
    rw [if_pos (by omega), g0 (l.getD 0 0) c (by omega)]
    match l, hn with
    | a :: t, _ => simp
  · have hb := (wideOf_2 (by omega)).1 hwide
    simp only [accR, Nat.reduceSub, Nat.zero_add] at e
    have c1 := hc 1 (by omega) (by omega)
    unfold encL
    rw [if_neg (by omega), if_pos (by omega), g0 (l.getD 0 0) _ (by omega), g0 (l.getD 1 0) _ (by omega)]
    match l, hn with
    | a :: b :: t, _ => simp
  · have hb := (wideOf_3 (by omega)).1 hwide
    simp only [accR, Nat.reduceSub, Nat.zero_add, Nat.reduceAdd] at e
    have c1 := hc 1 (by omega) (by omega)
    have c2 := hc 2 (by omega) (by omega)
    unfold encL
    rw [if_neg (by omega), if_neg (by omega), if_pos (by omega), g0 (l.getD 0 0) _ (by omega), g0 (l.getD 1 0) _ (by omega), g0 (l.getD 2 0) _ (by omega)]
    match l, hn with
    | a :: b :: d :: t, _ => simp
  · have hb := (wideOf_4 (by omega)).1 hwide
    simp only [accR, Nat.reduceSub, Nat.zero_add, Nat.reduceAdd] at e
    have c1 := hc 1 (by omega) (by omega)
    have c2 := hc 2 (by omega) (by omega)
    have c3 := hc 3 (by omega) (by omega)
    unfold encL
    rw [if_neg (by omega), if_neg (by omega), if_neg (by omega), g0 (l.getD 0 0) _ (by omega), g0 (l.getD 1 0) _ (by omega), g0 (l.getD 2 0) _ (by omega), g0 (l.getD 3 0) _ (by omega)]
    match l, hn with
    | a :: b :: d :: f :: t, _ => simp
/-- A text whose every character is one. -/
theorem validD_getR {l : List UInt8} (hl : l ≠ []) : Lib.validD l = match getR l with | none => false | some d => Lib.validD (l.drop d.2) := by
  rw [Lib.validD_step l hl]
  unfold getR
  rw [if_neg hl]
  split <;> rfl
end Go.Proofs.YtmnlkedacnemcaaGreatDoor
