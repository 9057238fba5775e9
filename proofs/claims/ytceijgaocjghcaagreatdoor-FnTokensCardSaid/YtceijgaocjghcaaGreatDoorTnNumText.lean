/- NumText: a number in decimal. -/
import Derived.Test.YtceijgaocjghcaaGreatDoorTnQuote
import Derived.Lib.ItoaLen
import Derived.Lib.ItoaMem
import Derived.Lib.AppendIntMem
set_option linter.unusedVariables false
set_option maxRecDepth 100000
set_option linter.unusedSimpArgs false
namespace Go.Proofs.YtceijgaocjghcaaGreatDoor
open Go.RowKit

def numL (n : Int) : List UInt8 := Lib.itoa n
theorem numL_len {n : Int} (h : -9223372036854775808 ≤ n ∧ n ≤ 9223372036854775807) : (numL n).length ≤ 21 := Lib.itoa_length_le n h.1 h.2
theorem numL_zero : numL 0 = [48] := by unfold numL Lib.itoa; rw [if_neg (by decide)]; exact Lib.decDigits_one (by decide)
theorem numL_pos {n : Int} (h : 0 ≤ n) : numL n = Lib.decDigits n.natAbs := by unfold numL Lib.itoa; rw [if_neg (by omega)]; congr 1; omega
theorem numL_neg {n : Int} (h : n < 0) : numL n = 45 :: Lib.decDigits n.natAbs := by unfold numL Lib.itoa; rw [if_pos h]
def digs0 (u : Nat) : List UInt8 := if u = 0 then [] else Lib.decDigits u
theorem digs0_step {u : Nat} (h : u ≠ 0) : digs0 u = digs0 (u / 10) ++ [UInt8.ofNat (48 + u % 10)] := by
  unfold digs0
  rw [if_neg h]
  by_cases h2 : u < 10
  · rw [if_pos (by omega), Lib.decDigits_one h2, Nat.mod_eq_of_lt h2]; rfl
  · rw [if_neg (by omega), Lib.decDigits, dif_neg h2]
theorem digs0_len {u : Nat} (h : u ≤ 9223372036854775808) : (digs0 u).length ≤ 21 := by
  unfold digs0
  split
  · simp
  · by_cases h2 : u ≤ 9223372036854775807
    · have := Lib.itoa_length_le (u : Int) (by omega) (by omega); rw [Lib.itoa_nonneg] at this; exact this
    · have := Lib.itoa_length_le (-(u : Int)) (by omega) (by omega); rw [Lib.itoa_neg u (by omega), List.length_cons] at this; omega
theorem dig_sl (w : World) (d : Nat) (z : Int) (h : d < 10) (hz : z = 48 + (d : Int)) : Sl (w.alloc (.cells #[.int .u8 z] 5)) (w.heap.size + 1) 1 (some ⟨w.heap.size, 0, none⟩) 1 1 (u8s [UInt8.ofNat (48 + d)]) := by
  obtain rfl : z = ((48 + d : Nat) : Int) := by omega
  exact Sl.congr (u8_low (n := ((48 + d : Nat) : Int)) (by omega) (by omega)) (Sl.lit w 5 #[_] 1 1 rfl (by decide) _ (Nat.lt_succ_self _))
set_option maxHeartbeats 1000000 in
theorem s_NumText (n : Int) (w : World) (hn : -9223372036854775808 ≤ n ∧ n ≤ 9223372036854775807) :
    Calls Tryz.prog 74 #[.int .i64 n] w fun e w' => e = .returned (.string ⟨(numL n).toArray⟩) ∧ Below w.heap.size w w' := by
  by_cases h0 : n = 0
  · subst h0
    rw [numL_zero]
    go_enter Tryz.func74, Tryz.ntmps74
    go_wp2_with fail
    go_ret
    exact ⟨rfl, Below.refl _ _⟩
  · have hz : (n == 0) = false := by simpa using h0
    by_cases hpos : 0 < n
    · obtain ⟨m, rfl⟩ : ∃ m : Nat, n = m := ⟨n.toNat, by omega⟩
      rw [numL_pos (by omega)]
      obtain ⟨R, hR⟩ : ∃ R, Lib.decDigits (m : Int).natAbs = R := ⟨_, rfl⟩
      rw [hR]
      have HR : Hid (digs0 m ++ [] = R) := by rw [List.append_nil, ← hR]; unfold digs0; rw [if_neg (by omega)]; exact Lib.hid rfl
      have hRl : R.length ≤ 21 := by rw [← HR.out, List.append_nil]; exact digs0_len (by omega)
      clear hR
      go_enter Tryz.func74, Tryz.ntmps74
      go_wp2_with fail
      go_loopg [3, 4, 5] (m + 1) (fun f v3 v4 v5 wr => ∃ (u : Nat) (b : List UInt8), v4 = .int .i64 u ∧ v3 = .string ⟨b.toArray⟩ ∧ u < f ∧ u ≤ m ∧ Hid (digs0 u ++ b = R) ∧ Below w.heap.size w wr)
      case atStart => exact ⟨m, [], rfl, rfl, by omega, Nat.le_refl _, HR, Below.refl _ _⟩
      case round =>
        obtain ⟨u, b, rfl, rfl, huf, hum, hH, hK⟩ := hrel
        clear HR
        by_cases hu : u = 0
        · subst hu
          have hh := hH.out
          have e : digs0 0 = [] := rfl
          rw [e, List.nil_append] at hh
          subst hh
          have hng : ¬ (m : Int) < 0 := by omega
          clear hH e
          go_wp2_with fail
          go_ret
          exact ⟨rfl, hK⟩
        · obtain ⟨f, rfl⟩ : ∃ f, gk = f + 1 := ⟨gk - 1, by omega⟩
          have hh := hH.out
          rw [digs0_step hu, List.append_assoc] at hh
          have HH := Lib.hid hh
          have hlb : b.length ≤ 21 := by have := congrArg List.length hh; simp at this; omega
          have hu0 : ((u : Int) == 0) = false := by simp; omega
          have hd := dig_sl wr (u % 10) (48 + (u : Int) % 10) (Nat.mod_lt _ (by decide)) (by omega)
          obtain ⟨cd, hcd⟩ : ∃ cd, UInt8.ofNat (48 + u % 10) = cd := ⟨_, rfl⟩
          rw [hcd] at hd HH
          have hu1 : 0 < u := by omega
          have hcv := run_str_sl (P := Tryz.prog) 22 5 Tryz.underlying22 Tryz.underlying5 hd 9 Tryz.underlying9
          clear hh hH hu hcd
          go_wp2_with fail
          go_roundg f
          case measure => omega
          case rel => exact ⟨u / 10, [cd] ++ b, by simp, by rw [← ba_add], by omega, by omega, HH, hK.alloc (by have := hK.size; omega) _⟩
    · have hneg : n < 0 := by omega
      obtain ⟨m, rfl⟩ : ∃ m : Nat, n = -(m : Int) := ⟨n.natAbs, by omega⟩
      rw [numL_neg hneg]
      obtain ⟨R, hR⟩ : ∃ R, Lib.decDigits (-(m : Int)).natAbs = R := ⟨_, rfl⟩
      rw [hR]
      have hna : (-(m : Int)).natAbs = m := by omega
      rw [hna] at hR
      have HR : Hid (digs0 m ++ [] = R) := by rw [List.append_nil, ← hR]; unfold digs0; rw [if_neg (by omega)]; exact Lib.hid rfl
      have hRl : R.length ≤ 21 := by rw [← HR.out, List.append_nil]; exact digs0_len (by omega)
      obtain ⟨N, hN⟩ : ∃ N : Int, N = -(m : Int) := ⟨_, rfl⟩
      rw [← hN] at hn h0 hz hpos hneg ⊢
      have hN2 := Lib.hid hN
      clear hR hna hpos hN
      go_enter Tryz.func74, Tryz.ntmps74
      go_wp2_with fail
      go_loopg [3, 4, 5] (m + 1) (fun f v3 v4 v5 wr => ∃ (u : Nat) (x : Int) (b : List UInt8), x = -(u : Int) ∧ v4 = .int .i64 x ∧ v3 = .string ⟨b.toArray⟩ ∧ u < f ∧ u ≤ m ∧ Hid (digs0 u ++ b = R) ∧ Below w.heap.size w wr)
      case atStart => exact ⟨m, N, [], hN2.out, rfl, rfl, by omega, Nat.le_refl _, HR, Below.refl _ _⟩
      case round =>
        obtain ⟨u, x, b, hx, rfl, rfl, huf, hum, hH, hK⟩ := hrel
        have hx2 := Lib.hid hx
        have hub : u ≤ 9223372036854775808 := by have := hN2.out; omega
        have hxb : -9223372036854775808 ≤ x ∧ x ≤ 0 := by have := hN2.out; omega
        clear HR hx
        by_cases hu : u = 0
        · subst hu
          obtain rfl : x = 0 := by have := hx2.out; omega
          have hh := hH.out
          have e : digs0 0 = [] := rfl
          rw [e, List.nil_append] at hh
          subst hh
          clear hH e
          go_wp2_with fail
          go_ret
          exact ⟨ret_str (by rw [show (45 :: b : List UInt8) = [45] ++ b from rfl, ← ba_add]), hK⟩
        · obtain ⟨f, rfl⟩ : ∃ f, gk = f + 1 := ⟨gk - 1, by omega⟩
          have hh := hH.out
          rw [digs0_step hu, List.append_assoc] at hh
          have HH := Lib.hid hh
          have hlb : b.length ≤ 21 := by have := congrArg List.length hh; simp at this; omega
          have hx0 : (x == 0) = false := by have := hx2.out; simp; omega
          have hmod : x.tmod 10 = -((u % 10 : Nat) : Int) := by rw [hx2.out, Int.neg_tmod]; rfl
          have hdiv : x.tdiv 10 = -((u / 10 : Nat) : Int) := by rw [hx2.out, Int.neg_tdiv]; rfl
          have hd : u % 10 < 10 := Nat.mod_lt _ (by decide)
          generalize u % 10 = d at HH hmod hd
          obtain ⟨cd, hcd⟩ : ∃ cd, UInt8.ofNat (48 + d) = cd := ⟨_, rfl⟩
          rw [hcd] at HH
          have hu1 : 0 < u := by omega
          clear hh hH hu
          by_cases hd0 : d = 0
          · subst hd0
            have hd := dig_sl wr 0 48 (by decide) rfl
            rw [hcd] at hd
            have hcv := run_str_sl (P := Tryz.prog) 22 5 Tryz.underlying22 Tryz.underlying5 hd 9 Tryz.underlying9
            have hmod0 : x.tmod 10 = 0 := hmod
            clear hcd hmod
            go_wp2_with fail
            go_roundg f
            case measure => omega
            case rel => exact ⟨u / 10, -((u / 10 : Nat) : Int), [cd] ++ b, rfl, by first | exact congrArg (Value.int .i64) (by omega) | exact congrArg (Value.int .i64) (by unfold wrap64; omega), by rw [← ba_add], by omega, by omega, HH, hK.alloc (by have := hK.size; omega) _⟩
          · have hd1 := dig_sl wr d (48 + (d : Int)) hd rfl
            rw [hcd] at hd1
            have hcv := run_str_sl (P := Tryz.prog) 22 5 Tryz.underlying22 Tryz.underlying5 hd1 9 Tryz.underlying9
            have hdp : 0 < d := by omega
            clear hcd hd0
            go_wp2_with fail
            go_roundg f
            case measure => omega
            case rel => exact ⟨u / 10, -((u / 10 : Nat) : Int), [cd] ++ b, rfl, by first | exact congrArg (Value.int .i64) (by omega) | exact congrArg (Value.int .i64) (by unfold wrap64; omega), by rw [← ba_add], by omega, by omega, HH, hK.alloc (by have := hK.size; omega) _⟩
theorem tab_below {n : String} {g : Nat} {k : IntKind} {zs : List Int} {w w' : World} (hg : Tryz.prog.globalNamed n = some g) (h : Lib.TabIs Tryz.prog w n k zs) (hb : Below w.heap.size w w') : Lib.TabIs Tryz.prog w' n k zs := by
  unfold Lib.TabIs World.var? at h ⊢
  rw [hg] at h ⊢
  simp only [Option.bind_some] at h ⊢
  have hlt : g < w.heap.size := by
    rcases Nat.lt_or_ge g w.heap.size with h' | h'
    · exact h'
    · rw [Array.getElem?_eq_none h'] at h; cases h
  rw [hb.block g hlt]
  exact h
/-- The powers of ten stand in their table. -/
def PowT (w : World) : Prop := Lib.TabIs Tryz.prog w "internal/strconv.uint64pow10" .u64 Lib.pow10Tab
theorem PowT.below {w w' : World} (h : PowT w) (hb : Below w.heap.size w w') : PowT w' := tab_below (g := 5) (by kernel_rfl) h hb
theorem i_NumText (n : Int) (w : World) (hn : -9223372036854775808 ≤ n ∧ n ≤ 9223372036854775807) (hP : PowT w) :
    Calls Tryz.prog 72 #[.int .i64 n] w fun e w' => e = .returned (.string ⟨(numL n).toArray⟩) ∧ Below w.heap.size w w' := by
  have h := Tryz.strconv_Itoa n hn.1 hn.2 w hP
  obtain ⟨R, hR⟩ : ∃ R, Lib.itoa n = R := ⟨_, rfl⟩
  unfold numL
  rw [hR] at h ⊢
  clear hR
  go_enter Tryz.func72, Tryz.ntmps72
  go_wp2_with (go_at_call 109; refine h.mono ?_; rintro e w1 ⟨rfl, hw⟩; have hb : Below w.heap.size w w1 := (by obtain ⟨kk, os, rfl⟩ := hw; exact Lib.below_grow _ _ (Nat.le_refl _) _ _); clear hw)
  go_ret
  exact ⟨rfl, hb⟩
end Go.Proofs.YtceijgaocjghcaaGreatDoor
