/- The marks' numbers: BitsOf of a width; putInt, putMany and the reference's. -/
import Derived.Test.YtmnlkedacnemcaaGreatDoorTwBig
import Derived.Test.YtmnlkedacnemcaaGreatDoorShelf
set_option linter.unusedVariables false
set_option maxRecDepth 100000
set_option linter.unusedSimpArgs false
namespace Go.Proofs.YtmnlkedacnemcaaGreatDoor
open Go.RowKit

def blen (w : Int) : Int := if w = 1 then 1 else if w = 2 then 2 else if w = 4 then 3 else 4
theorem widthFor_is {n : Int} (h : 0 ≤ n) : widthFor n = 1 ∨ widthFor n = 2 ∨ widthFor n = 4 ∨ widthFor n = 8 := by
  unfold widthFor; rw [if_neg (by omega)]; (repeat' split) <;> simp
def intB (n : Int) : List UInt8 :=
  if -32 ≤ n ∧ n ≤ 127 then [UInt8.ofNat (n % 256).toNat]
  else if 0 ≤ n then UInt8.ofNat (203 + blen (widthFor n)).toNat :: putBig n (widthFor n)
  else if -128 ≤ n then 208 :: beI 1 n else if -32768 ≤ n then 209 :: beI 2 n else if -2147483648 ≤ n then 210 :: beI 4 n else 211 :: beI 8 n
def manyB (few base short long n : Int) : List UInt8 :=
  if n < few then [UInt8.ofNat (base + n).toNat] else if n < 256 ∧ short ≠ 0 then UInt8.ofNat short.toNat :: putBig n 1 else UInt8.ofNat long.toNat :: putBig n 2
theorem intB_one {n : Int} (h : -32 ≤ n ∧ n ≤ 127) : intB n = [UInt8.ofNat (n % 256).toNat] := if_pos h
theorem intB_pos {n v : Int} (h : 127 < n) (hv : widthFor n = v) : intB n = [UInt8.ofNat (203 + blen v).toNat] ++ putBig n v := by
  unfold intB; rw [if_neg (by omega), if_pos (by omega), hv]; rfl
theorem intB_1 {n : Int} (h : -128 ≤ n) (h2 : n < -32) : intB n = [208] ++ beI 1 n := by unfold intB; rw [if_neg (by omega), if_neg (by omega), if_pos h]; rfl
theorem intB_2 {n : Int} (h : -32768 ≤ n) (h2 : n < -128) : intB n = [209] ++ beI 2 n := by unfold intB; rw [if_neg (by omega), if_neg (by omega), if_neg (by omega), if_pos h]; rfl
theorem intB_4 {n : Int} (h : -2147483648 ≤ n) (h2 : n < -32768) : intB n = [210] ++ beI 4 n := by unfold intB; rw [if_neg (by omega), if_neg (by omega), if_neg (by omega), if_neg (by omega), if_pos h]; rfl
theorem intB_8 {n : Int} (h2 : n < -2147483648) : intB n = [211] ++ beI 8 n := by unfold intB; rw [if_neg (by omega), if_neg (by omega), if_neg (by omega), if_neg (by omega), if_neg (by omega)]; rfl
theorem beI_1 (n : Int) : beI 1 n = [UInt8.ofNat (n % 256).toNat] := by simp [beI, List.range_succ]
theorem beI_2 (n : Int) : beI 2 n = [UInt8.ofNat (n / 256 % 256).toNat, UInt8.ofNat (n % 256).toNat] := by simp [beI, List.range_succ]
theorem beI_4 (n : Int) : beI 4 n = [UInt8.ofNat (n / 16777216 % 256).toNat, UInt8.ofNat (n / 65536 % 256).toNat, UInt8.ofNat (n / 256 % 256).toNat, UInt8.ofNat (n % 256).toNat] := by simp [beI, List.range_succ]
theorem putBig_mod2 (n : Int) : putBig (n % 65536) 2 = beI 2 n := by
  rw [show putBig (n % 65536) 2 = beI 2 (n % 65536) from putBig_yes (v := 2) (by decide) (by unfold fitsB; exact decide_eq_true (by omega)), beI_2, beI_2, show n % 65536 / 256 % 256 = n / 256 % 256 by omega, show n % 65536 % 256 = n % 256 by omega]
theorem putBig_mod4 (n : Int) : putBig (n % 4294967296) 4 = beI 4 n := by
  rw [show putBig (n % 4294967296) 4 = beI 4 (n % 4294967296) from putBig_yes (v := 4) (by decide) (by unfold fitsB; exact decide_eq_true (by omega)), beI_4, beI_4, show n % 4294967296 / 16777216 % 256 = n / 16777216 % 256 by omega, show n % 4294967296 / 65536 % 256 = n / 65536 % 256 by omega, show n % 4294967296 / 256 % 256 = n / 256 % 256 by omega, show n % 4294967296 % 256 = n % 256 by omega]
theorem i64_andp (n : Int) (k : Nat) (hk : k ≤ 62) (hw : (BitVec.ofInt 64 (2 ^ k - 1)).toNat = 2 ^ k - 1) : bits .and .i64 n (2 ^ k - 1) = n % 2 ^ k := by
  have key : (BitVec.ofInt 64 n &&& BitVec.ofInt 64 (2 ^ k - 1)).toNat = (n % ((2 ^ 64 : Nat) : Int)).toNat % 2 ^ k := by
    rw [BitVec.toNat_and, BitVec.toNat_ofInt, hw, Nat.and_two_pow_sub_one_eq_mod]
  show IntKind.i64.wrap ((BitVec.ofInt 64 n &&& BitVec.ofInt 64 (2 ^ k - 1)).toNat : Nat) = n % 2 ^ k
  have h2 : (2 : Int) ^ k = ((2 ^ k : Nat) : Int) := by simp
  have hd : ((2 ^ k : Nat) : Int) ∣ ((2 ^ 64 : Nat) : Int) := Int.natCast_dvd_natCast.2 (Nat.pow_dvd_pow 2 (by omega))
  rw [key, h2, Int.natCast_emod, Int.toNat_of_nonneg (Int.emod_nonneg _ (by decide)), Int.emod_emod_of_dvd _ hd, IntKind.wrap_i64]
  have hp : 2 ^ k ≤ 2 ^ 62 := Nat.pow_le_pow_right (by decide) hk
  have h0 : 0 < 2 ^ k := Nat.pos_of_ne_zero (by simp)
  have h3 := Int.emod_nonneg n (show ((2 ^ k : Nat) : Int) ≠ 0 by omega)
  have h4 := Int.emod_lt_of_pos n (show (0 : Int) < ((2 ^ k : Nat) : Int) by omega)
  omega
theorem i64_and65535 (n : Int) : bits .and .i64 n 65535 = n % 65536 := i64_andp n 16 (by decide) (by decide)
theorem i64_and32 (n : Int) : bits .and .i64 n 4294967295 = n % 4294967296 := i64_andp n 32 (by decide) (by decide)
theorem lit2 (w : World) (x y : Int) (h : 0 ≤ x ∧ x < 256) (h2 : 0 ≤ y ∧ y < 256) : Sl (w.alloc (.cells #[.int .u8 x, .int .u8 y] 5)) (w.heap.size + 1) 1 (some ⟨w.heap.size, 0, none⟩) 2 2 (u8s [UInt8.ofNat x.toNat, UInt8.ofNat y.toNat]) :=
  Sl.congr (u8s_of2 (m1 := x.toNat) (m2 := y.toNat) (by omega) (by omega) (by omega) (by omega)) (Sl.lit w 5 #[_, _] 1 2 rfl (by decide) _ (Nat.lt_succ_self _))
theorem lit3 (w : World) (x y z : Int) (h : 0 ≤ x ∧ x < 256) (h2 : 0 ≤ y ∧ y < 256) (h3 : 0 ≤ z ∧ z < 256) : Sl (w.alloc (.cells #[.int .u8 x, .int .u8 y, .int .u8 z] 5)) (w.heap.size + 1) 1 (some ⟨w.heap.size, 0, none⟩) 3 3 (u8s [UInt8.ofNat x.toNat, UInt8.ofNat y.toNat, UInt8.ofNat z.toNat]) :=
  Sl.congr (u8s_of3 (m1 := x.toNat) (m2 := y.toNat) (m3 := z.toNat) (by omega) (by omega) (by omega) (by omega) (by omega) (by omega)) (Sl.lit w 5 #[_, _, _] 1 3 rfl (by decide) _ (Nat.lt_succ_self _))
end Go.Proofs.YtmnlkedacnemcaaGreatDoor
