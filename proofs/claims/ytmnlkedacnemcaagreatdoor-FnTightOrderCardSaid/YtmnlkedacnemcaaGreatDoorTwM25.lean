/- NumText: a number in decimal. Decimal numbers: Digits, DecOk on both sides. -/
import Derived.Test.YtmnlkedacnemcaaGreatDoorTwM24
import Derived.Lib.ItoaLen
import Derived.Lib.ItoaMem
import Derived.Lib.AppendIntMem
import Derived.Test.YtmnlkedacnemcaaGreatDoorShelf
set_option linter.unusedVariables false
set_option maxRecDepth 100000
set_option linter.unusedSimpArgs false
namespace Go.Proofs.YtmnlkedacnemcaaGreatDoor
open Go.RowKit

def numL (n : Int) : List UInt8 := Lib.itoa n
theorem numL_len {n : Int} (h : -9223372036854775808 ≤ n ∧ n ≤ 9223372036854775807) : (numL n).length ≤ 21 := Lib.itoa_length_le n h.1 h.2
theorem numL_zero : numL 0 = [48] := by unfold numL Lib.itoa; rw [if_neg (by decide)]; exact Lib.decDigits_one (by decide)
theorem numL_pos {n : Int} (h : 0 ≤ n) : numL n = Lib.decDigits n.natAbs := by unfold numL Lib.itoa; rw [if_neg (by omega)]; congr 1; omega
theorem numL_neg {n : Int} (h : n < 0) : numL n = 45 :: Lib.decDigits n.natAbs := by unfold numL Lib.itoa; rw [if_pos h]
def digs0 (u : Nat) : List UInt8 := if u = 0 then [] else Lib.decDigits u
theorem digs0_step {u : Nat} (h : u ≠ 0) : digs0 u = digs0 (u / 10) ++ [UInt8.ofNat (48 + u % 10)] := by
  unfold digs0
  rw [if_neg h]
  by_cases h2 : u < 10
  · rw [if_pos (by omega), Lib.decDigits_one h2, Nat.mod_eq_of_lt h2]; rfl
  · rw [if_neg (by omega), Lib.decDigits, dif_neg h2]
theorem digs0_len {u : Nat} (h : u ≤ 9223372036854775808) : (digs0 u).length ≤ 21 := by
  unfold digs0
  split
  · simp
  · by_cases h2 : u ≤ 9223372036854775807
    · have := Lib.itoa_length_le (u : Int) (by omega) (by omega); rw [Lib.itoa_nonneg] at this; exact this
    · have := Lib.itoa_length_le (-(u : Int)) (by omega) (by omega); rw [Lib.itoa_neg u (by omega), List.length_cons] at this; omega
theorem tab_below {n : String} {g : Nat} {k : IntKind} {zs : List Int} {w w' : World} (hg : Tryz.prog.globalNamed n = some g) (h : Lib.TabIs Tryz.prog w n k zs) (hb : Below w.heap.size w w') : Lib.TabIs Tryz.prog w' n k zs := by
  unfold Lib.TabIs World.var? at h ⊢
  rw [hg] at h ⊢
  simp only [Option.bind_some] at h ⊢
  have hlt : g < w.heap.size := by
    rcases Nat.lt_or_ge g w.heap.size with h' | h'
    · exact h'
    · rw [Array.getElem?_eq_none h'] at h; cases h
  rw [hb.block g hlt]
  exact h
/-- The powers of ten stand in their table. -/
def PowT (w : World) : Prop := Lib.TabIs Tryz.prog w "internal/strconv.uint64pow10" .u64 Lib.pow10Tab
theorem PowT.below {w w' : World} (h : PowT w) (hb : Below w.heap.size w w') : PowT w' := tab_below (g := 1) (by kernel_rfl) h hb
theorem i_NumText (n : Int) (w : World) (hn : -9223372036854775808 ≤ n ∧ n ≤ 9223372036854775807) (hP : PowT w) :
    Calls Tryz.prog 106 #[.int .i64 n] w fun e w' => e = .returned (.string ⟨(numL n).toArray⟩) ∧ Below w.heap.size w w' := by
  have h := Tryz.strconv_Itoa n hn.1 hn.2 w hP
  obtain ⟨R, hR⟩ : ∃ R, Lib.itoa n = R := ⟨_, rfl⟩
  unfold numL
  rw [hR] at h ⊢
  clear hR
  go_enter Tryz.func106, Tryz.ntmps106
  go_wp2_with (go_at_call 109; refine h.mono ?_; rintro e w1 ⟨rfl, hw⟩; have hb : Below w.heap.size w w1 := (by obtain ⟨kk, os, rfl⟩ := hw; exact Lib.below_grow _ _ (Nat.le_refl _) _ _); clear hw)
  go_ret
  exact ⟨rfl, hb⟩
end Go.Proofs.YtmnlkedacnemcaaGreatDoor

namespace Go.Proofs.YtmnlkedacnemcaaGreatDoor
open Go.RowKit

/-- The number of decimal digits. -/
def digN (n : Int) : Nat := (Lib.decDigits n.natAbs).length
theorem decDigits_len_step {u : Nat} (h : ¬ u < 10) : (Lib.decDigits u).length = (Lib.decDigits (u / 10)).length + 1 := by
  rw [Lib.decDigits, dif_neg h]; simp
theorem decDigits_len_one {u : Nat} (h : u < 10) : (Lib.decDigits u).length = 1 := by rw [Lib.decDigits_one h]; rfl
theorem decDigits_len_pos (u : Nat) : 1 ≤ (Lib.decDigits u).length := by
  by_cases h : u < 10
  · rw [decDigits_len_one h]; exact Nat.le_refl _
  · rw [decDigits_len_step h]; omega
theorem digN_pos (n : Int) : 1 ≤ digN n := by
  unfold digN
  by_cases h : n.natAbs < 10
  · rw [decDigits_len_one h]; exact Nat.le_refl _
  · rw [decDigits_len_step h]; omega
theorem digN_le {n : Int} (h : -9223372036854775808 ≤ n ∧ n ≤ 9223372036854775807) : digN n ≤ 21 := by
  have h1 := numL_len h
  unfold digN
  by_cases h0 : 0 ≤ n
  · rw [numL_pos h0] at h1; exact h1
  · rw [numL_neg (by omega), List.length_cons] at h1; omega
def decOk (n x : Int) : Bool := if x = 0 then inR n (-1000000000000000) 1000000000000000 else inR x (-16) (-1) && (decide (digN n ≤ 17) && !(n.tmod 10 == 0))
theorem decOk_zero (n : Int) : decOk n 0 = inR n (-1000000000000000) 1000000000000000 := by simp [decOk]
def digR (x : Int) : Nat := if x = 0 then 0 else (Lib.decDigits x.natAbs).length
theorem digR_zero : digR 0 = 0 := by simp [digR]
theorem digR_step {x : Int} (h : x ≠ 0) : digR x = digR (x.tdiv 10) + 1 := by
  unfold digR
  rw [if_neg h]
  have e : (x.tdiv 10).natAbs = x.natAbs / 10 := by rw [Int.natAbs_tdiv]; rfl
  by_cases h2 : x.natAbs < 10
  · rw [if_pos (by omega), decDigits_len_one h2]
  · rw [if_neg (by omega), e, decDigits_len_step h2]
theorem digN_eq (n : Int) : digN n = digR (n.tdiv 10) + 1 := by
  unfold digN digR
  have e : (n.tdiv 10).natAbs = n.natAbs / 10 := by rw [Int.natAbs_tdiv]; rfl
  by_cases h2 : n.natAbs < 10
  · rw [if_pos (by omega), decDigits_len_one h2]
  · rw [if_neg (by omega), e, decDigits_len_step h2]
theorem tdiv10_bd {x : Int} (h : -9223372036854775808 ≤ x ∧ x ≤ 9223372036854775807) : -922337203685477580 ≤ x.tdiv 10 ∧ x.tdiv 10 ≤ 922337203685477580 := by
  have e : (x.tdiv 10).natAbs = x.natAbs / 10 := by rw [Int.natAbs_tdiv]; rfl
  omega
set_option maxHeartbeats 1000000 in
theorem s_Digits (n : Int) (w : World) (hn : -9223372036854775808 ≤ n ∧ n ≤ 9223372036854775807) :
    Calls Tryz.prog 91 #[.int .i64 n] w fun e w' => e = .returned (.int .i64 (digN n)) ∧ w = w' := by
  obtain ⟨R, hR⟩ : ∃ R : Nat, digN n = R := ⟨_, rfl⟩
  have hR2 : R ≤ 21 := by rw [← hR]; exact digN_le hn
  rw [hR]
  have hb0 := tdiv10_bd hn
  have HR : Hid (1 + digR (n.tdiv 10) = R) := Lib.hid (by rw [← hR, digN_eq]; omega)
  clear hR
  go_enter Tryz.func91, Tryz.ntmps91
  go_wp2_with fail
  go_loop [3, 4] (fun v3 v4 => ∃ (x : Int) (k : Nat), v3 = .int .i64 k ∧ v4 = .int .i64 x ∧ k ≤ R ∧ (-922337203685477580 ≤ x ∧ x ≤ 922337203685477580) ∧ Hid (k + digR x = R)) (fun _ v4 => (intOf v4).natAbs)
  case atStart => exact ⟨n.tdiv 10, 1, rfl, rfl, by have := HR.out; omega, hb0, HR⟩
  case round =>
    obtain ⟨x, k, rfl, rfl, hk, hx, hH⟩ := hrel
    clear HR hb0
    by_cases h0 : x = 0
    · subst h0
      have hh := hH.out
      rw [digR_zero, Nat.add_zero] at hh
      subst hh
      clear hH
      go_wp2_with fail
      go_ret
      exact ⟨rfl, rfl⟩
    · have hz : (x == 0) = false := by simpa using h0
      have hz2 : (x != 0) = true := by simpa using h0
      have hh := hH.out
      rw [digR_step h0] at hh
      have HH : Hid (k + 1 + digR (x.tdiv 10) = R) := Lib.hid (by omega)
      have hbx := tdiv10_bd (x := x) (by omega)
      have hab : (x.tdiv 10).natAbs = x.natAbs / 10 := by rw [Int.natAbs_tdiv]; rfl
      have Hab := Lib.hid hab
      clear hh hH hab
      go_wp2_with fail
      go_round
      case rel => exact ⟨x.tdiv 10, k + 1, by go_num, rfl, by have := HH.out; omega, hbx, HH⟩
      case measure => show (x.tdiv 10).natAbs < x.natAbs; rw [Hab.out]; omega
theorem decDigits_head (u : Nat) : ∀ a, (Lib.decDigits u).head? = some a → 48 ≤ a.toNat ∧ a.toNat ≤ 57 := by
  induction u using Nat.strongRecOn with
  | ind u ih =>
    by_cases h : u < 10
    · rw [Lib.decDigits_one h]
      intro a ha
      simp only [List.head?_cons, Option.some.injEq] at ha
      subst ha
      rw [UInt8.toNat_ofNat_of_lt' (by show 48 + u < 256; omega)]
      omega
    · rw [Lib.decDigits, dif_neg h]
      intro a ha
      refine ih (u / 10) (by omega) a ?_
      cases hd : Lib.decDigits (u / 10) with
      | nil =>
        have := decDigits_len_pos (u / 10)
        rw [hd] at this; simp at this
      | cons b l => rw [hd] at ha; simpa using ha
theorem trimMinus (n : Int) : (Lib.trimPrefix (numL n) [45]).length = digN n := by
  unfold digN Lib.trimPrefix
  by_cases h : 0 ≤ n
  · rw [numL_pos h]
    have h2 : Lib.hasPrefix (Lib.decDigits n.natAbs) [45] = false := by
      have hm := decDigits_head n.natAbs
      unfold Lib.hasPrefix
      cases hd : Lib.decDigits n.natAbs with
      | nil => rfl
      | cons a l =>
        rw [hd] at hm
        have ha := hm a rfl
        have : ¬ (45 : UInt8) = a := fun e => by subst e; revert ha; decide
        simp [List.isPrefixOf, this]
    simp [h2]
  · rw [numL_neg (by omega)]
    simp [Lib.hasPrefix]
theorem i_Digits (n : Int) (w : World) (hn : -9223372036854775808 ≤ n ∧ n ≤ 9223372036854775807) (hP : PowT w) :
    Calls Tryz.prog 99 #[.int .i64 n] w fun e w' => e = .returned (.int .i64 (digN n)) ∧ Below w.heap.size w w' := by
  have ht := trimMinus n
  have hnt := i_NumText n w hn hP
  have hl := numL_len hn
  obtain ⟨R, hR⟩ : ∃ R, numL n = R := ⟨_, rfl⟩
  rw [hR] at ht hnt hl
  have hT := fun w1 => Tryz.strings_TrimPrefix ⟨R.toArray⟩ ⟨#[45]⟩ w1
  have e1 : (⟨R.toArray⟩ : ByteArray).data.toList = R := by simp
  have e2 : (⟨#[45]⟩ : ByteArray).data.toList = [45] := rfl
  rw [e1, e2] at hT
  obtain ⟨T, hTT⟩ : ∃ T, Lib.trimPrefix R [45] = T := ⟨_, rfl⟩
  rw [hTT] at hT ht
  have hts : (⟨T.toArray⟩ : ByteArray).size = digN n := by rw [← ht]; exact ba_sz T
  generalize (⟨T.toArray⟩ : ByteArray) = TB at hT hts
  rw [← hts]
  clear e1 e2 hR hTT ht hts
  go_enter Tryz.func99, Tryz.ntmps99
  go_wp2_with (first
    | (go_at_call 106; refine hnt.mono ?_; rintro e w1 ⟨rfl, hb1⟩)
    | (go_at_call 105; refine (hT _).mono ?_; rintro e w2 ⟨rfl, rfl⟩))
  go_ret
  exact ⟨rfl, hb1⟩
theorem decOk_nz {n x : Int} (h : x ≠ 0) : decOk n x = (inR x (-16) (-1) && (decide (digN n ≤ 17) && !(n.tmod 10 == 0))) := by unfold decOk; rw [if_neg h]
set_option maxHeartbeats 1000000 in
theorem s_DecOk (n x : Int) (w : World) (hn : -9223372036854775808 ≤ n ∧ n ≤ 9223372036854775807) (hx : -9223372036854775808 ≤ x ∧ x ≤ 9223372036854775807) :
    Calls Tryz.prog 74 #[.agg #[.int .i64 n, .int .i64 x]] w fun e w' => e = .returned (.bool (decOk n x)) ∧ Below w.heap.size w w' := by
  have hdl := digN_le hn
  have hbb : ∀ w2, Below (w.alloc (.cells #[.int .i64 n, .int .i64 x] 75)).heap.size (w.alloc (.cells #[.int .i64 n, .int .i64 x] 75)) w2 → Below w.heap.size w w2 := fun w2 h => h.boxed
  by_cases h0 : x = 0
  · subst h0
    rw [decOk_zero]
    go_enter Tryz.func74, Tryz.ntmps74
    go_wp2_with (go_at_call 42; refine (s_l1In _ _ _ _).mono ?_; rintro e w1 ⟨rfl, rfl⟩)
    go_ret
    exact ⟨rfl, Below.one _ _⟩
  · have hz : (x == 0) = false := by simpa using h0
    have hd := fun w1 => s_Digits n w1 hn
    rw [decOk_nz h0]
    obtain ⟨r, hr⟩ : ∃ r, inR x (-16) (-1) = r := ⟨_, rfl⟩
    have hin := fun w1 => s_l1In x (-16) (-1) w1
    rw [hr] at hin
    rw [hr]
    clear hr
    generalize digN n = D at hd hdl
    cases r with
    | false =>
      go_enter Tryz.func74, Tryz.ntmps74
      go_wp2_with (go_at_call 42; refine (hin _).mono ?_; rintro e w1 ⟨rfl, rfl⟩)
      go_ret
      exact ⟨by simp, Below.one _ _⟩
    | true =>
      by_cases h1 : n.tmod 10 = 0
      · have hm1 : (n.tmod 10 == 0) = true := by simpa using h1
        by_cases h2 : D ≤ 17
        all_goals
          go_enter Tryz.func74, Tryz.ntmps74
          go_wp2_with (first
            | (go_at_call 42; refine (hin _).mono ?_; rintro e w1 ⟨rfl, rfl⟩)
            | (go_at_call 91; refine (hd _).mono ?_; rintro e w2 ⟨rfl, rfl⟩))
          go_ret
          exact ⟨by first | (simp [h1, h2]; done) | (simp [h1, h2, bne]; done) | (simp [h1, h2, bne]; omega), by first | exact Below.one _ _ | exact hb2.boxed⟩
      · have hm1 : (n.tmod 10 == 0) = false := by simpa using h1
        by_cases h2 : D ≤ 17
        all_goals
          go_enter Tryz.func74, Tryz.ntmps74
          go_wp2_with (first
            | (go_at_call 42; refine (hin _).mono ?_; rintro e w1 ⟨rfl, rfl⟩)
            | (go_at_call 91; refine (hd _).mono ?_; rintro e w2 ⟨rfl, rfl⟩))
          go_ret
          exact ⟨by first | (simp [h1, h2]; done) | (simp [h1, h2, bne]; done) | (simp [h1, h2, bne]; omega), by first | exact Below.one _ _ | exact hb2.boxed⟩
set_option maxHeartbeats 1000000 in
theorem i_DecOk (n x : Int) (w : World) (hn : -9223372036854775808 ≤ n ∧ n ≤ 9223372036854775807) (hx : -9223372036854775808 ≤ x ∧ x ≤ 9223372036854775807) (hP : PowT w) :
    Calls Tryz.prog 86 #[.agg #[.int .i64 n, .int .i64 x]] w fun e w' => e = .returned (.bool (decOk n x)) ∧ Below w.heap.size w w' := by
  have hdl := digN_le hn
  have hbb : ∀ w2, Below (w.alloc (.cells #[.int .i64 n, .int .i64 x] 75)).heap.size (w.alloc (.cells #[.int .i64 n, .int .i64 x] 75)) w2 → Below w.heap.size w w2 := fun w2 h => h.boxed
  by_cases h0 : x = 0
  · subst h0
    rw [decOk_zero]
    go_enter Tryz.func86, Tryz.ntmps86
    go_wp2_with (go_at_call 56; refine (i_within _ _ _ _).mono ?_; rintro e w1 ⟨rfl, rfl⟩)
    go_ret
    exact ⟨rfl, Below.one _ _⟩
  · have hz : (x == 0) = false := by simpa using h0
    have hd := fun w1 (hb : Below w.heap.size w w1) => i_Digits n w1 hn (hP.below hb)
    rw [decOk_nz h0]
    obtain ⟨r, hr⟩ : ∃ r, inR x (-16) (-1) = r := ⟨_, rfl⟩
    have hin := fun w1 => i_within x (-16) (-1) w1
    rw [hr] at hin
    rw [hr]
    clear hr
    generalize digN n = D at hd hdl
    cases r with
    | false =>
      go_enter Tryz.func86, Tryz.ntmps86
      go_wp2_with (go_at_call 56; refine (hin _).mono ?_; rintro e w1 ⟨rfl, rfl⟩)
      go_ret
      exact ⟨by simp, Below.one _ _⟩
    | true =>
      by_cases h1 : n.tmod 10 = 0
      · have hm1 : (n.tmod 10 == 0) = true := by simpa using h1
        by_cases h2 : D ≤ 17
        all_goals
          go_enter Tryz.func86, Tryz.ntmps86
          go_wp2_with (first
            | (go_at_call 56; refine (hin _).mono ?_; rintro e w1 ⟨rfl, rfl⟩)
            | (go_at_call 99; refine (hd _ (Below.one w _)).mono ?_; rintro e w2 ⟨rfl, hb2⟩; obtain ⟨hc1, hf1⟩ := bcell hb2))
          go_ret
          exact ⟨by first | (simp [h1, h2]; done) | (simp [h1, h2, bne]; done) | (simp [h1, h2, bne]; omega), by first | exact Below.one _ _ | exact hb2.boxed⟩
      · have hm1 : (n.tmod 10 == 0) = false := by simpa using h1
        by_cases h2 : D ≤ 17
        all_goals
          go_enter Tryz.func86, Tryz.ntmps86
          go_wp2_with (first
            | (go_at_call 56; refine (hin _).mono ?_; rintro e w1 ⟨rfl, rfl⟩)
            | (go_at_call 99; refine (hd _ (Below.one w _)).mono ?_; rintro e w2 ⟨rfl, hb2⟩; obtain ⟨hc1, hf1⟩ := bcell hb2))
          go_ret
          exact ⟨by first | (simp [h1, h2]; done) | (simp [h1, h2, bne]; done) | (simp [h1, h2, bne]; omega), by first | exact Below.one _ _ | exact hb2.boxed⟩
end Go.Proofs.YtmnlkedacnemcaaGreatDoor
