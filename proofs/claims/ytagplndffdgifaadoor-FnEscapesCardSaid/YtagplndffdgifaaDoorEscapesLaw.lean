/- The law FnEscapes. -/
import Derived.Test.YtagplndffdgifaaDoorQDraws
import Derived.Test.YtagplndffdgifaaDoorFromRunes
import Derived.Test.YtagplndffdgifaaDoorQuotedS
import Derived.Test.YtagplndffdgifaaDoorQuotePlain
set_option linter.unusedVariables false
set_option maxRecDepth 100000
set_option linter.unusedSimpArgs false
namespace Go.Proofs.YtagplndffdgifaaDoor
open Go.RowKit

theorem l_bigE (A : Option Addr) (n c : Nat) (w : World) (hn : n ≤ 9223372036854775807) :
    Calls Tryd.prog 6 #[.slice A n c] w fun e w' => e = .returned (.bool (decide (1048576 < n))) ∧ w = w' := by
  by_cases h : 1048576 < n
  · have hi : (1048576 : Int) < (n : Int) := by omega
    go_enter Tryd.func6, Tryd.ntmps6
    go_wp2_with fail
    go_ret
    exact ⟨by simp [h], rfl⟩
  · have hi : ¬ (1048576 : Int) < (n : Int) := by omega
    go_enter Tryd.func6, Tryd.ntmps6
    go_wp2_with fail
    go_ret
    exact ⟨by simp [h], rfl⟩
theorem escapes_plain {n : Int} (hn : runeOk n = true) : quotedL (34 :: (escL n ++ [34])) 0 = (encAll [n], (((34 :: (escL n ++ [34])).length : Nat) : Int), 0) ∧ quoteL (encAll [n]) = 34 :: (escL n ++ [34]) := by
  have h1 := encAll_text [n] (fun x hx => by rcases List.mem_singleton.1 hx with rfl; exact hn)
  have h2 : quoteL (encAll [n]) = 34 :: (escL n ++ [34]) := by
    rw [quoteL_yes h1.1, h1.2]
    simp [escs]
  have h3 := quoted_quote (m := []) h1.1
  rw [List.append_nil, h2] at h3
  exact ⟨h3, h2⟩
set_option maxHeartbeats 4000000 in
theorem law_FnEscapes (A : Option Addr) (n c : Nat) (b : List UInt8) (w : World) (h : Sl w w.heap.size 1 A n c (u8s b)) (hT : Lib.Utf8Tabs 0 1 w) (hC : Lib.CaseVar 3 Lib.caseA w) :
    Calls Tryd.prog 3 #[.slice A n c] w fun e' w' => e' = .returned (.bool true) ∧ Below w.heap.size w w' := by
  have hn9 : n ≤ 9223372036854775807 := by have := h.cap; have := h.max; unfold maxLen at *; omega
  have hbig := fun w1 => l_bigE A n c w1 hn9
  by_cases hn : 1048576 < n
  · rw [decide_eq_true hn] at hbig
    go_enter Tryd.func3, Tryd.ntmps3
    go_wp2_with (go_at_call 6; refine (hbig _).mono ?_; rintro e w1 ⟨rfl, rfl⟩)
    go_ret
    exact ⟨rfl, Below.refl _ _⟩
  rw [decide_eq_false hn] at hbig
  go_enter Tryd.func3, Tryd.ntmps3
  go_wp2_with (go_at_call 6; refine (hbig _).mono ?_; rintro e w1 ⟨rfl, rfl⟩)
  clear hbig
  refine (s_DrawEscapeOf A n c b _ h (by omega)).mono ?_; rintro e w1 ⟨z, rfl, hz, k1⟩
  go_wp2_with fail
  refine (i_EscapeOf z _).mono ?_; rintro e w2 ⟨rfl, hb2⟩
  have k2 := k1.up hb2
  go_wp2_with fail
  refine (s_DrawReadFour A n c b _ ((h.below k2).more k2.size) (by omega)).mono ?_; rintro e w3 ⟨s, i, rfl, hs, hi, hb3⟩
  have k3 := k2.up hb3
  obtain ⟨⟨x, ok⟩, hxo⟩ : ∃ u, fourL s.data.toList i = u := ⟨_, rfl⟩
  have hi4 := fun w1 (hb : Below w.heap.size w w1) => i_ReadFour s i w1 (by omega) (by omega) (Lib.CaseVar_below hC hb) (Utf8Tabs_below hT hb)
  have hs4 := fun w1 => s_ReadFour s i w1 (by omega) (by omega)
  rw [hxo] at hi4 hs4
  simp only [ret2] at hi4 hs4
  clear hxo
  go_wp2_with fail
  refine (hi4 _ k3).mono ?_; rintro e w4 ⟨rfl, hb4⟩
  have k4 := k3.up hb4
  go_wp2_with fail
  refine (hs4 _).mono ?_; rintro e w5 ⟨rfl, rfl⟩
  clear hi4 hs4
  go_wp2_with fail
  refine (s_DrawCodeName A n c b _ ((h.below k4).more k4.size) (by omega)).mono ?_; rintro e w6 ⟨d, rfl, hd, hb6⟩
  have k6 := k4.up hb6
  clear h k1 k2 k3 k4 hb2 hb3 hb4 hb6 hi hs hd
  have hlz := escL_len z
  cases hr : runeOk z with
  | false =>
    have hez := escL_not hr
    rw [hez]
    go_wp2_with (first
      | (go_at_call 13; refine (s_EscapeOf z _).mono ?_; rintro e w7 ⟨rfl, hb7⟩; rw [hez]; have k7 := k6.up hb7)
      | (go_at_call 14; refine (i_CodeName d _).mono ?_; rintro e w8 ⟨rfl, hb8⟩; have k8 := k7.up hb8)
      | (go_at_call 15; refine (s_CodeName d _).mono ?_; rintro e w9 ⟨rfl, hb9⟩; have k9 := k8.up hb9)
      | (go_at_call 16; refine (i_RuneOk _ _).mono ?_; rintro e w' ⟨rfl, rfl⟩))
    all_goals (go_ret; exact ⟨by simp, k9⟩)
  | true =>
    obtain ⟨hp1, hp2⟩ := escapes_plain hr
    have hdat : (({ data := #[34] } : ByteArray) ++ ⟨(escL z).toArray⟩ ++ { data := #[34] }).data.toList = 34 :: (escL z ++ [34]) := by simp
    have hsz : (({ data := #[34] } : ByteArray) ++ ⟨(escL z).toArray⟩ ++ { data := #[34] }).size ≤ 1073741824 := by
      rw [← blen_of, hdat]; simp; omega
    have hRQ := fun w1 (hb : Below w.heap.size w w1) => i_ReadQuoted (({ data := #[34] } : ByteArray) ++ ⟨(escL z).toArray⟩ ++ { data := #[34] }) 0 w1 hsz (by decide) (Lib.CaseVar_below hC hb) (Utf8Tabs_below hT hb)
    rw [hdat, hp1] at hRQ
    simp only [retQ] at hRQ
    have hTl : (encAll [z]).length ≤ 4 := encAll_len [z]
    have hQ := fun w1 (hb : Below w.heap.size w w1) => i_Quote ⟨(encAll [z]).toArray⟩ w1 (by show (encAll [z]).toArray.size ≤ _; simp; omega) (Utf8Tabs_below hT hb)
    have e1 : (⟨(encAll [z]).toArray⟩ : ByteArray).data.toList = encAll [z] := rfl
    simp only [e1, hp2] at hQ
    clear hdat hsz hp1 hp2 hTl e1
    have hFR := fun w1 : World => i_FromRunes (some ⟨w1.heap.size, 0, none⟩) 1 1 [z] (w1.alloc (.cells #[.int .i64 z] 3)) (w1.heap.size + 1) (int1 w1 z) (by simp) (by decide)
    generalize encAll [z] = T at hRQ hQ hFR
    go_wp2_with (first
      | (go_at_call 13; refine (s_EscapeOf z _).mono ?_; rintro e w7 ⟨rfl, hb7⟩; have k7 := k6.up hb7)
      | (go_at_call 14; refine (i_CodeName d _).mono ?_; rintro e w8 ⟨rfl, hb8⟩; have k8 := k7.up hb8)
      | (go_at_call 15; refine (s_CodeName d _).mono ?_; rintro e w9 ⟨rfl, hb9⟩; have k9 := k8.up hb9)
      | (go_at_call 16; refine (i_RuneOk _ _).mono ?_; rintro e w' ⟨rfl, rfl⟩)
      | (go_at_call 17; refine (hRQ _ k9).mono ?_; rintro e w10 ⟨rfl, hb10⟩; have k10 := k9.up hb10)
      | (go_at_call 18; refine (hFR _).mono ?_; rintro e w11 ⟨rfl, hb11⟩; have k11 := (k10.up (Below.one _ _)).up hb11)
      | (go_at_call 19; refine (hQ _ k11).mono ?_; rintro e w12 ⟨rfl, hb12⟩; have k12 := k11.up hb12))
    go_ret
    refine ⟨ret_bool ?_, k12⟩
    simp
    rw [ByteArray.toList_eq]
    simp
end Go.Proofs.YtagplndffdgifaaDoor
