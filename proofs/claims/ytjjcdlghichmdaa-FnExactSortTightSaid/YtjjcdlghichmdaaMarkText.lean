/- The laws' markText. -/
import Derived.Test.YtjjcdlghichmdaaBs
import Derived.Deep.LoopGhost
set_option linter.unusedVariables false
set_option maxRecDepth 100000
set_option linter.unusedSimpArgs false
namespace Go.Proofs.Ytjjcdlghichmdaa
open Go.RowKit

def dec10 : Nat → Nat → List UInt8 → List UInt8
  | 0, _, acc => acc
  | f + 1, k, acc => if k = 0 then acc else dec10 f (k / 10) (UInt8.ofNat (48 + k % 10) :: acc)
/-- The mark that a text bears. -/
def mkT (k : Nat) : ByteArray := ⟨(109 :: dec10 20 k []).toArray⟩
theorem ba_cons (c : UInt8) (l : List UInt8) : (⟨#[c]⟩ : ByteArray) ++ ⟨l.toArray⟩ = ⟨(c :: l).toArray⟩ := by
  apply ByteArray.ext
  simp [ByteArray.data_append]
theorem l_markText (k : Nat) (w : World) (h1 : 1 ≤ k) (h2 : k ≤ 9223372036854775807) :
    Calls Try.prog 27 #[.int .i64 k] w fun e w' => e = .returned (.string (mkT k)) ∧ Below w.heap.size w w' := by
  go_enter Try.func27, Try.ntmps27
  go_wp2_with fail
  go_loopg [0, 3] 20 (fun f x y wr => ∃ (q : Nat) (acc : List UInt8), x = .int .i64 q ∧ y = .string ⟨acc.toArray⟩ ∧ dec10 f q acc = dec10 20 k [] ∧ q < 10 ^ f ∧ acc.length + f = 20 ∧ q ≤ 9223372036854775807 ∧ Below w.heap.size w wr)
  case atStart => exact ⟨k, [], rfl, rfl, rfl, by omega, rfl, h2, Below.refl _ _⟩
  case round =>
    obtain ⟨q, acc, rfl, rfl, hd, hq, hl, hq2, hb⟩ := hrel
    rcases Nat.eq_zero_or_pos q with h0 | h0
    · subst h0
      have hd2 : acc = dec10 20 k [] := by
        rw [← hd]; cases gk <;> simp [dec10]
      have HD := Lib.hid hd2
      clear hd hq hd2
      go_wp2_with fail
      go_ret
      exact ⟨ret_str (by unfold mkT; rw [← HD.out]; exact ba_cons _ _), hb⟩
    · obtain ⟨f, rfl⟩ : ∃ f, gk = f + 1 := by
        cases gk with
        | zero => simp at hq; omega
        | succ f => exact ⟨f, rfl⟩
      have hd2 : dec10 f (q / 10) (UInt8.ofNat (48 + q % 10) :: acc) = dec10 20 k [] := by
        rw [← hd, dec10, if_neg (by omega)]
      have hq3 : q / 10 < 10 ^ f := by rw [Nat.pow_succ] at hq; exact Nat.div_lt_of_lt_mul (by omega)
      have HD := Lib.hid hd2
      have HQ := Lib.hid hq3
      clear hd hd2 hq hq3
      have hm : (0 : Int) ≤ (48 + (q : Int) % 10) ∧ 48 + (q : Int) % 10 < 256 := by omega
      have hcv := run_str_sl (P := Try.prog) 41 5 Try.underlying41 Try.underlying5 (lit1 wr _ hm) 9 Try.underlying9
      go_wp2_with fail
      go_roundg f
      case measure => omega
      case rel => exact ⟨q / 10, UInt8.ofNat (48 + q % 10) :: acc, by go_num, by exact congrArg Value.string (ByteArray.ext (by rw [show UInt8.ofNat (48 + q % 10) = 48 + UInt8.ofNat (q % 10) from by simp [UInt8.ofNat_add]]; simp [ByteArray.data_append])), HD.out, HQ.out, by simp; omega, by omega, hb.alloc hb.size _⟩
end Go.Proofs.Ytjjcdlghichmdaa
