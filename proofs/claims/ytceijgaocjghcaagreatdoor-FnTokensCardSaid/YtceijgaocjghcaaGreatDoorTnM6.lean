/- Four hexadecimal digits, plain: what the reference reads, and what is read of the text in small letters. No function of the program in sight. The laws' own helpers on []byte: copies, comparison. -/
import Derived.Test.YtceijgaocjghcaaGreatDoorTnM5
import Derived.Lib.MapLaws
import Derived.Lib.TrimAscii
import Derived.Laws.RangeAny
import Derived.Shelf.Unicode.CaseLaid
import Derived.Test.YtceijgaocjghcaaGreatDoorTnM1
import Derived.Test.YtceijgaocjghcaaGreatDoorTnM0
import Derived.BigQuiet
import Derived.Deep.QuietTactic
set_option linter.unusedVariables false
set_option maxRecDepth 100000
set_option linter.unusedSimpArgs false
namespace Go.Proofs.YtceijgaocjghcaaGreatDoor
open Go.RowKit

/-- The number of a digit; -1: it is none. -/
def digV (b : UInt8) : Int := if 65 ≤ b.toNat ∧ b.toNat ≤ 70 then (b.toNat : Int) - 55 else if 48 ≤ b.toNat ∧ b.toNat ≤ 57 then (b.toNat : Int) - 48 else if 97 ≤ b.toNat ∧ b.toNat ≤ 102 then (b.toNat : Int) - 87 else -1
/-- The number of a small digit; -1: it is none. -/
def lowV (b : UInt8) : Int := if 48 ≤ b.toNat ∧ b.toNat ≤ 57 then (b.toNat : Int) - 48 else if 97 ≤ b.toNat ∧ b.toNat ≤ 102 then (b.toNat : Int) - 87 else -1
def numG (f : UInt8 → Int) : List UInt8 → Int → Int × Bool
  | [], n => (n, true)
  | b :: l, n => if f b < 0 then (0, false) else numG f l (16 * n + f b)
theorem lowV_bd (b : UInt8) : -1 ≤ lowV b ∧ lowV b ≤ 15 := by unfold lowV; (repeat' split) <;> omega
theorem digV_bd (b : UInt8) : -1 ≤ digV b ∧ digV b ≤ 15 := by unfold digV; (repeat' split) <;> omega
theorem lowV_high {b : UInt8} (h : 103 ≤ b.toNat) : lowV b = -1 := by unfold lowV; (repeat' split) <;> omega
theorem digV_high {b : UInt8} (h : 103 ≤ b.toNat) : digV b = -1 := by unfold digV; (repeat' split) <;> omega
theorem enc_one {r : Int} (h0 : 0 ≤ r) (h1 : r ≤ 127) : Lib.encodeRune r = [UInt8.ofNat r.toNat] := by
  unfold Lib.encodeRune
  rw [Lib.encodeRuneZ_one h0 h1]
  rfl
theorem ofNat_toNat' {n : Nat} (h : n < 256) : (UInt8.ofNat n).toNat = n := by simp; omega
theorem lowV_lower (b : UInt8) (h : b.toNat < 128) : 0 ≤ Lib.toLowerU (b.toNat : Int) ∧ Lib.encodeRune (Lib.toLowerU (b.toNat : Int)) = [UInt8.ofNat (Lib.toLowerU (b.toNat : Int)).toNat] ∧ lowV (UInt8.ofNat (Lib.toLowerU (b.toNat : Int)).toNat) = digV b := by
  have e : Lib.toLowerU (b.toNat : Int) = if 65 ≤ b.toNat ∧ b.toNat ≤ 90 then (b.toNat : Int) + 32 else b.toNat := by
    unfold Lib.toLowerU
    rw [if_pos (by omega)]
    split <;> split <;> omega
  have hr : 0 ≤ Lib.toLowerU (b.toNat : Int) ∧ Lib.toLowerU (b.toNat : Int) ≤ 127 := by rw [e]; split <;> omega
  refine ⟨hr.1, enc_one hr.1 hr.2, ?_⟩
  unfold lowV digV
  rw [ofNat_toNat' (by omega), e]
  (repeat' split) <;> omega
/-- Of each row of the case table: what lies beyond ASCII stays beyond the hexadecimal digits in small letters. -/
def rowHigh (x : Lib.CaseRow) : Bool := decide (x.2.1 < 128) || (decide (x.delta 1 > 1114111) && decide (103 ≤ x.1)) || (decide (x.delta 1 ≤ 1114111) && decide (103 ≤ (max 128 (x.1 : Int)) + x.delta 1))
set_option maxRecDepth 1000000 in
theorem rowsHigh : Lib.caseT.all rowHigh = true := by decide
theorem lower_high {r : Int} (h : 128 ≤ r) : 103 ≤ Lib.toLowerU r := by
  unfold Lib.toLowerU
  rw [if_neg (by omega)]
  unfold Lib.toR Lib.lookupGo
  cases hi : Lib.lookupIdx Lib.caseA r (Lib.caseA.size + 1) 0 Lib.caseA.size with
  | none => simp; omega
  | some i =>
    obtain ⟨hil, hlo, hhi⟩ := Lib.lookupIdx_some Lib.caseA r _ _ _ i hi
    have hm : Lib.caseA.getD i (0, 0, 0, 0, 0) ∈ Lib.caseT := by
      unfold Lib.caseA at hil ⊢
      simp only [List.size_toArray] at hil
      simp [Array.getD, hil]
    have hx := List.all_eq_true.1 rowsHigh _ hm
    simp only [Option.map_some]
    generalize Lib.caseA.getD i (0, 0, 0, 0, 0) = x at hx hlo hhi ⊢
    simp only [rowHigh, Bool.or_eq_true, Bool.and_eq_true, decide_eq_true_eq] at hx
    unfold Lib.convertR
    split <;> omega
theorem encode_high {r : Int} (h : 103 ≤ r) : ∃ b l, Lib.encodeRune r = b :: l ∧ 103 ≤ b.toNat := by
  have hb : ∀ z : Int, 103 ≤ z → z < 256 → 103 ≤ (z.toNat.toUInt8).toNat := by
    intro z h1 h2
    have : (z.toNat.toUInt8).toNat = z.toNat := by show (UInt8.ofNat z.toNat).toNat = z.toNat; exact ofNat_toNat' (by omega)
    omega
  unfold Lib.encodeRune Lib.encodeRuneZ
  (repeat' split)
  all_goals exact ⟨_, _, rfl, hb _ (by omega) (by omega)⟩
/-- The first byte of the text in small letters: a digit where the text has one, and then the rest follows. -/
theorem lower_step (b : UInt8) (l : List UInt8) : ∃ c m, Lib.toLowerD (b :: l) = c :: m ∧ lowV c = digV b ∧ (0 ≤ lowV c → m = Lib.toLowerD l) := by
  have hs := Lib.mapD_step Lib.toLowerU (b :: l) (by simp)
  unfold Lib.toLowerD
  rw [hs]
  by_cases hb : b.toNat < 128
  · rw [Lib.decodeL_ascii b l hb]
    obtain ⟨h0, h1, h2⟩ := lowV_lower b hb
    simp only []
    rw [if_pos h0, h1]
    exact ⟨_, _, rfl, h2, fun _ => rfl⟩
  · have hd : 128 ≤ (Lib.decodeL (b :: l)).1 := (decode_high ⟨(b :: l).toArray⟩ 0 (by show 0 < (b :: l).toArray.size; simp) (by show 128 ≤ b.toNat; omega)).1
    have hl := lower_high (r := ((Lib.decodeL (b :: l)).1 : Int)) (by omega)
    obtain ⟨c, m, he, hc⟩ := encode_high hl
    rw [if_pos (by omega), he]
    refine ⟨c, _, rfl, ?_, fun h => ?_⟩
    · rw [lowV_high hc, digV_high (by omega)]
    · rw [lowV_high hc] at h; omega
theorem lower_nil : Lib.toLowerD [] = [] := rfl
/-- The number of the four digits at an offset; none: they aren't there. -/
def fourL (l : List UInt8) (i : Int) : Int × Bool := if i < 0 ∨ (l.length : Int) - 4 < i then (0, false) else numG digV ((l.drop i.toNat).take 4) 0
end Go.Proofs.YtceijgaocjghcaaGreatDoor

namespace Go.Proofs.YtceijgaocjghcaaGreatDoor
open Go.RowKit

theorem info_u8 : (Tryz.prog.info? 5).map (fun i => (i.zero, i.size, i.bytes)) = some (some (.int .u8 0), 1, 1) := by kernel_rfl

end Go.Proofs.YtceijgaocjghcaaGreatDoor
