/- PutMark and SizeMark: impl and spec. -/
import Derived.Test.YtmnlkedacnemcaaGreatDoorTwPutInt
import Derived.Test.YtmnlkedacnemcaaGreatDoorTwM33
import Derived.Deep.RegionHeld3
set_option linter.unusedVariables false
set_option maxRecDepth 100000
set_option linter.unusedSimpArgs false
namespace Go.Proofs.YtmnlkedacnemcaaGreatDoor
open Go.RowKit

def markB (k n : Int) : List UInt8 :=
  if markOk k n = true then
    (if k = 1 then [192] else if k = 2 then [UInt8.ofNat (194 + n).toNat] else if k = 3 then intB n else if k = 4 then 202 :: putBig n 4 else if k = 5 then [212, 1, UInt8.ofNat n.toNat]
     else if k = 7 then manyB 32 160 217 218 n else if k = 8 then manyB 0 0 196 197 n else if k = 9 then manyB 16 144 0 220 n else manyB 16 128 0 222 n)
  else []
theorem markB_no {k n : Int} (h : markOk k n = false) : markB k n = [] := by unfold markB; rw [h]; rfl
theorem markB_yes {k n : Int} {x : List UInt8} (h : markOk k n = true) (hx : (if k = 1 then [192] else if k = 2 then [UInt8.ofNat (194 + n).toNat] else if k = 3 then intB n else if k = 4 then 202 :: putBig n 4 else if k = 5 then [212, 1, UInt8.ofNat n.toNat]
     else if k = 7 then manyB 32 160 217 218 n else if k = 8 then manyB 0 0 196 197 n else if k = 9 then manyB 16 144 0 220 n else manyB 16 128 0 222 n) = x) : markB k n = x := by unfold markB; rw [if_pos h, hx]
theorem putBig_len8 (n w : Int) : (putBig n w).length ≤ 8 := by
  unfold putBig; split
  · rename_i h
    rw [beI_len]
    have := h.1
    simp only [isW, decide_eq_true_eq] at this
    omega
  · simp
theorem intB_len (n : Int) : (intB n).length ≤ 9 := by
  unfold intB; (repeat' split) <;> simp [beI_len]
  exact putBig_len8 _ _
theorem manyB_len (a b c d n : Int) : (manyB a b c d n).length ≤ 9 := by
  unfold manyB; (repeat' split) <;> simp <;> exact putBig_len8 _ _
theorem markB_len (k n : Int) : (markB k n).length ≤ 9 := by
  unfold markB
  have h1 := intB_len n
  have h2 := putBig_len8 n 4
  have h3 := fun a b c d => manyB_len a b c d n
  (repeat' split) <;> first | exact h1 | exact h3 _ _ _ _ | (simp; done) | (simp; omega)
theorem markOk_cases {k n : Int} (h : markOk k n = true) : (k = 1 ∧ n = 0) ∨ (k = 2 ∧ 0 ≤ n ∧ n ≤ 1) ∨ (k = 3 ∧ -1000000000000000 ≤ n ∧ n ≤ 1000000000000000) ∨ k = 4 ∨ (k = 5 ∧ 0 ≤ n ∧ n ≤ 2) ∨ (k = 7 ∧ 0 ≤ n ∧ n ≤ 65535) ∨ (k = 8 ∧ 0 ≤ n ∧ n ≤ 65535) ∨ (k = 9 ∧ 0 ≤ n ∧ n ≤ 65535) ∨ (k = 10 ∧ 0 ≤ n ∧ n ≤ 65535) := by
  unfold markOk at h
  (repeat' split at h) <;> first | omega | (simp [inR] at h; done) | (simp [inR] at h; omega)
end Go.Proofs.YtmnlkedacnemcaaGreatDoor
