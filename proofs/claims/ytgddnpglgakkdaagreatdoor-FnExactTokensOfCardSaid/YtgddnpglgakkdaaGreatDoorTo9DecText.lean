/- DecText: both sides. Written by gen/dectext.py. -/
import Derived.Test.YtgddnpglgakkdaaGreatDoorTo9Dec
import Derived.Test.YtgddnpglgakkdaaGreatDoorShelf
set_option linter.unusedVariables false
set_option maxRecDepth 100000
set_option linter.unusedSimpArgs false
namespace Go.Proofs.YtgddnpglgakkdaaGreatDoor
open Go.RowKit

/-- Digits, with noughts ahead up to a length. -/
def padL (D : List UInt8) (m : Nat) : List UInt8 := List.replicate (m - D.length) 48 ++ D
theorem padL_len (D : List UInt8) (m : Nat) : (padL D m).length = max D.length m := by unfold padL; simp; omega
/-- Digits with a point q places from the end. -/
def pointL (D : List UInt8) (q : Nat) : List UInt8 := (padL D (q + 1)).take ((padL D (q + 1)).length - q) ++ (46 :: (padL D (q + 1)).drop ((padL D (q + 1)).length - q))
def decTextL (n x : Int) : List UInt8 :=
  if decOk n x = true then (if x = 0 then numL n else (if n < 0 then [45] else []) ++ pointL (Lib.decDigits n.natAbs) (-x).toNat) else []
theorem decText_no {n x : Int} (h : decOk n x = false) : decTextL n x = [] := by unfold decTextL; rw [h]; rfl
theorem decText_zero {n : Int} (h : decOk n 0 = true) : decTextL n 0 = numL n := by unfold decTextL; rw [if_pos h, if_pos rfl]
theorem decText_neg {n x : Int} (h : decOk n x = true) (hx : x ≠ 0) (hn : n < 0) : decTextL n x = 45 :: pointL (Lib.decDigits n.natAbs) (-x).toNat := by unfold decTextL; rw [if_pos h, if_neg hx, if_pos hn]; rfl
theorem decText_pos {n x : Int} (h : decOk n x = true) (hx : x ≠ 0) (hn : ¬ n < 0) : decTextL n x = pointL (Lib.decDigits n.natAbs) (-x).toNat := by unfold decTextL; rw [if_pos h, if_neg hx, if_neg hn]; rfl
theorem decOk_x {n x : Int} (h : decOk n x = true) (hx : x ≠ 0) : -16 ≤ x ∧ x ≤ -1 := by
  rw [decOk_nz hx] at h
  simp only [Bool.and_eq_true] at h
  exact inR_iff.1 h.1
theorem pointL_len (D : List UInt8) (q : Nat) : (pointL D q).length = max D.length (q + 1) + 1 := by
  unfold pointL
  rw [List.length_append, List.length_cons, List.length_take, List.length_drop, padL_len]
  omega
theorem digs_len {n : Int} (h : -9223372036854775808 ≤ n ∧ n ≤ 9223372036854775807) : (Lib.decDigits n.natAbs).length ≤ 21 := digN_le h
theorem decTextL_len {n x : Int} (h : -9223372036854775808 ≤ n ∧ n ≤ 9223372036854775807) : (decTextL n x).length ≤ 40 := by
  have h1 := digs_len h
  have h2 := numL_len h
  unfold decTextL
  split
  · rename_i hok
    split
    · omega
    · rename_i hx
      have hb := decOk_x hok hx
      rw [List.length_append, pointL_len]
      split <;> simp <;> omega
  · simp
theorem ext_take (b : List UInt8) (k : Nat) (h : k ≤ b.length) : (⟨b.toArray⟩ : ByteArray).extract 0 k = ⟨(b.take k).toArray⟩ := by
  apply ByteArray.ext
  rw [ByteArray.data_extract]
  simp
theorem ext_drop (b : List UInt8) (k : Nat) : (⟨b.toArray⟩ : ByteArray).extract k b.length = ⟨(b.drop k).toArray⟩ := by
  apply ByteArray.ext
  rw [ByteArray.data_extract]
  simp
  exact List.take_of_length_le (by simp)
theorem ext_tail (a : UInt8) (D : List UInt8) : (⟨(a :: D).toArray⟩ : ByteArray).extract 1 (D.length + 1) = ⟨D.toArray⟩ := by
  apply ByteArray.ext
  rw [ByteArray.data_extract]
  simp
theorem point_cat (b : List UInt8) (k : Nat) (h : k ≤ b.length) : (⟨b.toArray⟩ : ByteArray).extract 0 k ++ ({ data := #[46] } : ByteArray) ++ (⟨b.toArray⟩ : ByteArray).extract k b.length = ⟨(b.take k ++ (46 :: b.drop k)).toArray⟩ := by
  rw [ext_take b k h, ext_drop, show ({ data := #[46] } : ByteArray) = ⟨[46].toArray⟩ from rfl, ba_add, ba_add]
  simp
theorem cat_nil (s : ByteArray) : ({ data := #[] } : ByteArray) ++ s = s := by
  apply ByteArray.ext
  simp
theorem cut_neg (D : List UInt8) : Lib.trimPrefix (45 :: D) [45] = D ∧ Lib.hasPrefix (45 :: D) [45] = true := by
  have h : Lib.hasPrefix (45 :: D) [45] = true := by simp [Lib.hasPrefix]
  exact ⟨by unfold Lib.trimPrefix; rw [if_pos h]; rfl, h⟩
theorem cut_pos (u : Nat) : Lib.trimPrefix (Lib.decDigits u) [45] = Lib.decDigits u ∧ Lib.hasPrefix (Lib.decDigits u) [45] = false := by
  have h : Lib.hasPrefix (Lib.decDigits u) [45] = false := by
    have hm := decDigits_head u
    unfold Lib.hasPrefix
    cases hd : Lib.decDigits u with
    | nil => rfl
    | cons a l =>
      rw [hd] at hm
      have ha := hm a rfl
      have : ¬ (45 : UInt8) = a := fun e => by subst e; revert ha; decide
      simp [List.isPrefixOf, this]
  exact ⟨by unfold Lib.trimPrefix; rw [h]; rfl, h⟩
theorem ba_assoc (a b c : ByteArray) : a ++ b ++ c = a ++ (b ++ c) := by
  apply ByteArray.ext
  simp
theorem ba_cat (a b : List UInt8) : (⟨a.toArray⟩ : ByteArray) ++ (⟨b.toArray⟩ : ByteArray) = ⟨(a ++ b).toArray⟩ := ba_add a b
set_option maxHeartbeats 2000000 in
theorem s_DecText (n x : Int) (w : World) (hn : -9223372036854775808 ≤ n ∧ n ≤ 9223372036854775807) (hx : -9223372036854775808 ≤ x ∧ x ≤ 9223372036854775807) :
    Calls Tryz.prog 76 #[.agg #[.int .i64 n, .int .i64 x]] w fun e w' => e = .returned (.string ⟨(decTextL n x).toArray⟩) ∧ Below w.heap.size w w' := by
  have kb := Below.one w (.cells #[.int .i64 n, .int .i64 x] 93)
  have hB := Blk.new w 93 #[.int .i64 n, .int .i64 x]
  have hok := fun w1 (hb : Below w.heap.size w w1) => s_DecOk n x w1 hn hx
  have hnt := fun w1 (hb : Below w.heap.size w w1) => s_NumText n w1 hn
  have hnl := numL_len hn
  have hdl := digs_len hn
  have K := kb
  clear kb
  cases hq : decOk n x with
  | false =>
    rw [decText_no hq]
    rw [hq] at hok
    clear hq
    go_enter Tryz.func76, Tryz.ntmps76
    go_wp2_with (first
      | (go_at_call 107; refine (hok _ K).mono ?_; rintro e w1 ⟨rfl, hb1⟩; replace hB := hB.below hb1 hB.lt; replace K := K.up hb1; have v0 := hB.cell 0; have v1 := hB.cell 1)
      | (go_at_call 68; refine (hnt _ K).mono ?_; rintro e w2 ⟨rfl, hb2⟩; replace hB := hB.below hb2 hB.lt; replace K := K.up hb2; have q0 := hB.cell 0; have q1 := hB.cell 1))
    go_ret
    exact ⟨rfl, K⟩
  | true =>
    by_cases hx0 : x = 0
    · subst hx0
      rw [decText_zero hq]
      rw [hq] at hok
      clear hq
      generalize numL n = R at hnt hnl
      go_enter Tryz.func76, Tryz.ntmps76
      go_wp2_with (first
      | (go_at_call 107; refine (hok _ K).mono ?_; rintro e w1 ⟨rfl, hb1⟩; replace hB := hB.below hb1 hB.lt; replace K := K.up hb1; have v0 := hB.cell 0; have v1 := hB.cell 1)
        | (go_at_call 68; refine (hnt _ K).mono ?_; rintro e w2 ⟨rfl, hb2⟩; replace hB := hB.below hb2 hB.lt; replace K := K.up hb2; have q0 := hB.cell 0; have q1 := hB.cell 1))
      go_ret
      exact ⟨rfl, K⟩
    · have hxb := decOk_x hq hx0
      have hz : (x == 0) = false := by simpa using hx0
      rw [hq] at hok
      obtain ⟨q, hqx⟩ : ∃ q : Nat, (-x).toNat = q := ⟨_, rfl⟩
      have hqb : 1 ≤ q ∧ q ≤ 16 ∧ x = -(q : Int) := by omega
      have HX := Lib.hid hqb.2.2
      have hq1 := hqb.1
      have hq2 := hqb.2.1
      by_cases hneg : n < 0
      · rw [decText_neg hq hx0 hneg, hqx]
        rw [numL_neg hneg] at hnt hnl
        obtain ⟨D, hD⟩ : ∃ D, Lib.decDigits n.natAbs = D := ⟨_, rfl⟩
        rw [hD] at hnt hnl hdl ⊢
        have hpl := padL_len D (q + 1)
        clear hq hx0 hqx hqb hD
        go_enter Tryz.func76, Tryz.ntmps76
        go_wp2_with (first
          | (go_at_call 107; refine (hok _ K).mono ?_; rintro e w1 ⟨rfl, hb1⟩; replace hB := hB.below hb1 hB.lt; replace K := K.up hb1; have v0 := hB.cell 0; have v1 := hB.cell 1)
          | (go_at_call 68; refine (hnt _ K).mono ?_; rintro e w2 ⟨rfl, hb2⟩; replace hB := hB.below hb2 hB.lt; replace K := K.up hb2; have q0 := hB.cell 0; have q1 := hB.cell 1))
        go_loopg [3] 20 (fun f v3 wr => ∃ j : Nat, ∃ b : List UInt8, v3 = .string ⟨b.toArray⟩ ∧ Hid (b = List.replicate j 48 ++ D) ∧ b.length ≤ 60 ∧ b.length ≤ j + D.length ∧ j + D.length ≤ b.length ∧ j ≤ q + 1 - D.length ∧ q + 1 - D.length ≤ j + f ∧ wr = w2)
        case atStart => exact ⟨0, D, by rw [ext_tail], Lib.hid rfl, by omega, by omega, by omega, by omega, by omega, rfl⟩
        case round =>
          obtain ⟨j, b, rfl, hB1, hb60, hb1', hb2', hj, hjf, rfl⟩ := hrel
          by_cases hlt : b.length < q + 1
          · obtain ⟨f, rfl⟩ : ∃ f, gk = f + 1 := ⟨gk - 1, by omega⟩
            have c1 : (b.length : Int) < 1 - x := by have := HX.out; omega
            go_wp2_with fail
            go_roundg f
            case measure => omega
            case rel => exact ⟨j + 1, [48] ++ b, by rw [← ba_add], Lib.hid (by rw [hB1.out]; rfl), by simp; omega, by simp; omega, by simp; omega, by omega, by omega, rfl⟩
          · have c1 : ¬ (b.length : Int) < 1 - x := by have := HX.out; omega
            have hbp : b = padL D (q + 1) := by
              rw [hB1.out]; unfold padL
              congr 2
              omega
            have hpt : pointL D q = b.take (b.length - q) ++ (46 :: b.drop (b.length - q)) := by rw [hbp]; rfl
            have HPT := Lib.hid hpt
            have d0 : 0 ≤ (b.length : Int) + x := by have := HX.out; omega
            have d1 : (b.length : Int) + x ≤ b.length := by omega
            have d2 : ((b.length : Int) + x).toNat = b.length - q := by have := HX.out; omega
            have d3 : b.length - q ≤ b.length := by omega
            clear hbp hpt hB1 hjf hj
            go_wp2_with fail
            go_quiet (fail)
            go_wp2_with fail
            go_ret
            refine ⟨ret_str ?_, by first | exact K | exact below_drewN K _ | exact K.drew⟩
            rw [HPT.out, show (45 :: (b.take (b.length - q) ++ (46 :: b.drop (b.length - q))) : List UInt8) = [45] ++ (b.take (b.length - q) ++ (46 :: b.drop (b.length - q))) from rfl, ← ba_add, ← point_cat b _ d3]
            try simp only [ba_assoc]
      · rw [decText_pos hq hx0 hneg, hqx]
        rw [numL_pos (by omega)] at hnt hnl
        obtain ⟨D, hD⟩ : ∃ D, Lib.decDigits n.natAbs = D := ⟨_, rfl⟩
        rw [hD] at hnt hnl hdl ⊢
        clear hq hx0 hqx hqb hD
        go_enter Tryz.func76, Tryz.ntmps76
        go_wp2_with (first
          | (go_at_call 107; refine (hok _ K).mono ?_; rintro e w1 ⟨rfl, hb1⟩; replace hB := hB.below hb1 hB.lt; replace K := K.up hb1; have v0 := hB.cell 0; have v1 := hB.cell 1)
          | (go_at_call 68; refine (hnt _ K).mono ?_; rintro e w2 ⟨rfl, hb2⟩; replace hB := hB.below hb2 hB.lt; replace K := K.up hb2; have q0 := hB.cell 0; have q1 := hB.cell 1))
        go_loopg [3] 20 (fun f v3 wr => ∃ j : Nat, ∃ b : List UInt8, v3 = .string ⟨b.toArray⟩ ∧ Hid (b = List.replicate j 48 ++ D) ∧ b.length ≤ 60 ∧ b.length ≤ j + D.length ∧ j + D.length ≤ b.length ∧ j ≤ q + 1 - D.length ∧ q + 1 - D.length ≤ j + f ∧ wr = w2)
        case atStart => exact ⟨0, D, rfl, Lib.hid rfl, by omega, by omega, by omega, by omega, by omega, rfl⟩
        case round =>
          obtain ⟨j, b, rfl, hB1, hb60, hb1', hb2', hj, hjf, rfl⟩ := hrel
          by_cases hlt : b.length < q + 1
          · obtain ⟨f, rfl⟩ : ∃ f, gk = f + 1 := ⟨gk - 1, by omega⟩
            have c1 : (b.length : Int) < 1 - x := by have := HX.out; omega
            go_wp2_with fail
            go_roundg f
            case measure => omega
            case rel => exact ⟨j + 1, [48] ++ b, by rw [← ba_add], Lib.hid (by rw [hB1.out]; rfl), by simp; omega, by simp; omega, by simp; omega, by omega, by omega, rfl⟩
          · have c1 : ¬ (b.length : Int) < 1 - x := by have := HX.out; omega
            have hbp : b = padL D (q + 1) := by
              rw [hB1.out]; unfold padL
              congr 2
              omega
            have hpt : pointL D q = b.take (b.length - q) ++ (46 :: b.drop (b.length - q)) := by rw [hbp]; rfl
            have HPT := Lib.hid hpt
            have d0 : 0 ≤ (b.length : Int) + x := by have := HX.out; omega
            have d1 : (b.length : Int) + x ≤ b.length := by omega
            have d2 : ((b.length : Int) + x).toNat = b.length - q := by have := HX.out; omega
            have d3 : b.length - q ≤ b.length := by omega
            clear hbp hpt hB1 hjf hj
            go_wp2_with fail
            go_quiet (fail)
            go_wp2_with fail
            go_ret
            refine ⟨ret_str ?_, by first | exact K | exact below_drewN K _ | exact K.drew⟩
            rw [HPT.out, ← point_cat b _ d3]
            try simp only [ba_assoc, cat_nil]
set_option maxHeartbeats 2000000 in
theorem i_DecText (n x : Int) (w : World) (hn : -9223372036854775808 ≤ n ∧ n ≤ 9223372036854775807) (hx : -9223372036854775808 ≤ x ∧ x ≤ 9223372036854775807) (hP : PowT w) :
    Calls Tryz.prog 83 #[.agg #[.int .i64 n, .int .i64 x]] w fun e w' => e = .returned (.string ⟨(decTextL n x).toArray⟩) ∧ Below w.heap.size w w' := by
  have kb := Below.one w (.cells #[.int .i64 n, .int .i64 x] 93)
  have hB := Blk.new w 93 #[.int .i64 n, .int .i64 x]
  have hok := fun w1 (hb : Below w.heap.size w w1) => i_DecOk n x w1 hn hx (hP.below hb)
  have hnt := fun w1 (hb : Below w.heap.size w w1) => i_NumText n w1 hn (hP.below hb)
  have hnl := numL_len hn
  have hdl := digs_len hn
  have K := kb
  clear kb
  cases hq : decOk n x with
  | false =>
    rw [decText_no hq]
    rw [hq] at hok
    clear hq
    go_enter Tryz.func83, Tryz.ntmps83
    go_wp2_with (first
      | (go_at_call 116; refine (hok _ K).mono ?_; rintro e w1 ⟨rfl, hb1⟩; replace hB := hB.below hb1 hB.lt; replace K := K.up hb1; have v0 := hB.cell 0; have v1 := hB.cell 1)
      | (go_at_call 70; refine (hnt _ K).mono ?_; rintro e w2 ⟨rfl, hb2⟩; replace hB := hB.below hb2 hB.lt; replace K := K.up hb2; have q0 := hB.cell 0; have q1 := hB.cell 1))
    go_ret
    exact ⟨rfl, K⟩
  | true =>
    by_cases hx0 : x = 0
    · subst hx0
      rw [decText_zero hq]
      rw [hq] at hok
      clear hq
      generalize numL n = R at hnt hnl
      go_enter Tryz.func83, Tryz.ntmps83
      go_wp2_with (first
      | (go_at_call 116; refine (hok _ K).mono ?_; rintro e w1 ⟨rfl, hb1⟩; replace hB := hB.below hb1 hB.lt; replace K := K.up hb1; have v0 := hB.cell 0; have v1 := hB.cell 1)
        | (go_at_call 70; refine (hnt _ K).mono ?_; rintro e w2 ⟨rfl, hb2⟩; replace hB := hB.below hb2 hB.lt; replace K := K.up hb2; have q0 := hB.cell 0; have q1 := hB.cell 1))
      go_ret
      exact ⟨rfl, K⟩
    · have hxb := decOk_x hq hx0
      have hz : (x == 0) = false := by simpa using hx0
      rw [hq] at hok
      obtain ⟨q, hqx⟩ : ∃ q : Nat, (-x).toNat = q := ⟨_, rfl⟩
      have hqb : 1 ≤ q ∧ q ≤ 16 ∧ x = -(q : Int) := by omega
      have HX := Lib.hid hqb.2.2
      have hq1 := hqb.1
      have hq2 := hqb.2.1
      by_cases hneg : n < 0
      · rw [decText_neg hq hx0 hneg, hqx]
        rw [numL_neg hneg] at hnt hnl
        obtain ⟨D, hD⟩ : ∃ D, Lib.decDigits n.natAbs = D := ⟨_, rfl⟩
        rw [hD] at hnt hnl hdl ⊢
        have hpl := padL_len D (q + 1)
        have hcp := fun w1 => Tryz.strings_CutPrefix ⟨(45 :: D).toArray⟩ ⟨#[45]⟩ w1
        have e1 : (⟨(45 :: D).toArray⟩ : ByteArray).data.toList = 45 :: D := by simp
        have e2 : (⟨#[45]⟩ : ByteArray).data.toList = [45] := rfl
        rw [e1, e2, (cut_neg D).1, (cut_neg D).2] at hcp
        clear e1 e2
        clear hq hx0 hqx hqb hD
        go_enter Tryz.func83, Tryz.ntmps83
        go_wp2_with (first
          | (go_at_call 116; refine (hok _ K).mono ?_; rintro e w1 ⟨rfl, hb1⟩; replace hB := hB.below hb1 hB.lt; replace K := K.up hb1; have v0 := hB.cell 0; have v1 := hB.cell 1)
          | (go_at_call 70; refine (hnt _ K).mono ?_; rintro e w2 ⟨rfl, hb2⟩; replace hB := hB.below hb2 hB.lt; replace K := K.up hb2; have q0 := hB.cell 0; have q1 := hB.cell 1)
          | (go_at_call 117; refine (hcp _).mono ?_; rintro e w3 ⟨rfl, rfl⟩))
        go_loopg [4] 20 (fun f v3 wr => ∃ j : Nat, ∃ b : List UInt8, v3 = .string ⟨b.toArray⟩ ∧ Hid (b = List.replicate j 48 ++ D) ∧ b.length ≤ 60 ∧ b.length ≤ j + D.length ∧ j + D.length ≤ b.length ∧ j ≤ q + 1 - D.length ∧ q + 1 - D.length ≤ j + f ∧ wr = w3)
        case atStart => exact ⟨0, D, rfl, Lib.hid rfl, by omega, by omega, by omega, by omega, by omega, rfl⟩
        case round =>
          obtain ⟨j, b, rfl, hB1, hb60, hb1', hb2', hj, hjf, rfl⟩ := hrel
          by_cases hlt : b.length < q + 1
          · obtain ⟨f, rfl⟩ : ∃ f, gk = f + 1 := ⟨gk - 1, by omega⟩
            have c1 : (b.length : Int) ≤ -x := by have := HX.out; omega
            go_wp2_with fail
            go_roundg f
            case measure => omega
            case rel => exact ⟨j + 1, [48] ++ b, by rw [← ba_add], Lib.hid (by rw [hB1.out]; rfl), by simp; omega, by simp; omega, by simp; omega, by omega, by omega, rfl⟩
          · have c1 : ¬ (b.length : Int) ≤ -x := by have := HX.out; omega
            have hbp : b = padL D (q + 1) := by
              rw [hB1.out]; unfold padL
              congr 2
              omega
            have hpt : pointL D q = b.take (b.length - q) ++ (46 :: b.drop (b.length - q)) := by rw [hbp]; rfl
            have HPT := Lib.hid hpt
            have d0 : 0 ≤ (b.length : Int) + x := by have := HX.out; omega
            have d1 : (b.length : Int) + x ≤ b.length := by omega
            have d2 : ((b.length : Int) + x).toNat = b.length - q := by have := HX.out; omega
            have d3 : b.length - q ≤ b.length := by omega
            clear hbp hpt hB1 hjf hj
            go_wp2_with fail
            go_quiet (fail)
            go_wp2_with fail
            go_ret
            refine ⟨ret_str ?_, by first | exact K | exact below_drewN K _ | exact K.drew⟩
            rw [HPT.out, show (45 :: (b.take (b.length - q) ++ (46 :: b.drop (b.length - q))) : List UInt8) = [45] ++ (b.take (b.length - q) ++ (46 :: b.drop (b.length - q))) from rfl, ← ba_add, ← point_cat b _ d3]
            try simp only [ba_assoc]
      · rw [decText_pos hq hx0 hneg, hqx]
        rw [numL_pos (by omega)] at hnt hnl
        obtain ⟨D, hD⟩ : ∃ D, Lib.decDigits n.natAbs = D := ⟨_, rfl⟩
        rw [hD] at hnt hnl hdl ⊢
        have hcut := cut_pos n.natAbs
        rw [hD] at hcut
        have hcp := fun w1 => Tryz.strings_CutPrefix ⟨(D).toArray⟩ ⟨#[45]⟩ w1
        have e1 : (⟨(D).toArray⟩ : ByteArray).data.toList = D := by simp
        have e2 : (⟨#[45]⟩ : ByteArray).data.toList = [45] := rfl
        rw [e1, e2, hcut.1, hcut.2] at hcp
        clear e1 e2
        clear hq hx0 hqx hqb hD hcut
        go_enter Tryz.func83, Tryz.ntmps83
        go_wp2_with (first
          | (go_at_call 116; refine (hok _ K).mono ?_; rintro e w1 ⟨rfl, hb1⟩; replace hB := hB.below hb1 hB.lt; replace K := K.up hb1; have v0 := hB.cell 0; have v1 := hB.cell 1)
          | (go_at_call 70; refine (hnt _ K).mono ?_; rintro e w2 ⟨rfl, hb2⟩; replace hB := hB.below hb2 hB.lt; replace K := K.up hb2; have q0 := hB.cell 0; have q1 := hB.cell 1)
          | (go_at_call 117; refine (hcp _).mono ?_; rintro e w3 ⟨rfl, rfl⟩))
        go_loopg [4] 20 (fun f v3 wr => ∃ j : Nat, ∃ b : List UInt8, v3 = .string ⟨b.toArray⟩ ∧ Hid (b = List.replicate j 48 ++ D) ∧ b.length ≤ 60 ∧ b.length ≤ j + D.length ∧ j + D.length ≤ b.length ∧ j ≤ q + 1 - D.length ∧ q + 1 - D.length ≤ j + f ∧ wr = w3)
        case atStart => exact ⟨0, D, rfl, Lib.hid rfl, by omega, by omega, by omega, by omega, by omega, rfl⟩
        case round =>
          obtain ⟨j, b, rfl, hB1, hb60, hb1', hb2', hj, hjf, rfl⟩ := hrel
          by_cases hlt : b.length < q + 1
          · obtain ⟨f, rfl⟩ : ∃ f, gk = f + 1 := ⟨gk - 1, by omega⟩
            have c1 : (b.length : Int) ≤ -x := by have := HX.out; omega
            go_wp2_with fail
            go_roundg f
            case measure => omega
            case rel => exact ⟨j + 1, [48] ++ b, by rw [← ba_add], Lib.hid (by rw [hB1.out]; rfl), by simp; omega, by simp; omega, by simp; omega, by omega, by omega, rfl⟩
          · have c1 : ¬ (b.length : Int) ≤ -x := by have := HX.out; omega
            have hbp : b = padL D (q + 1) := by
              rw [hB1.out]; unfold padL
              congr 2
              omega
            have hpt : pointL D q = b.take (b.length - q) ++ (46 :: b.drop (b.length - q)) := by rw [hbp]; rfl
            have HPT := Lib.hid hpt
            have d0 : 0 ≤ (b.length : Int) + x := by have := HX.out; omega
            have d1 : (b.length : Int) + x ≤ b.length := by omega
            have d2 : ((b.length : Int) + x).toNat = b.length - q := by have := HX.out; omega
            have d3 : b.length - q ≤ b.length := by omega
            clear hbp hpt hB1 hjf hj
            go_wp2_with fail
            go_quiet (fail)
            go_wp2_with fail
            go_ret
            refine ⟨ret_str ?_, by first | exact K | exact below_drewN K _ | exact K.drew⟩
            rw [HPT.out, ← point_cat b _ d3]
            try simp only [ba_assoc, cat_nil]
end Go.Proofs.YtgddnpglgakkdaaGreatDoor
