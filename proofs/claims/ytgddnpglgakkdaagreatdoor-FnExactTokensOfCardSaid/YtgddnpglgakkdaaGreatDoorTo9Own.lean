/- ValOk: ownOk and every (impl). Written by gen/own.py. -/
import Derived.Test.YtgddnpglgakkdaaGreatDoorTo9Every
import Derived.Test.YtgddnpglgakkdaaGreatDoorTo9Dec
import Derived.Test.YtgddnpglgakkdaaGreatDoorTo9Flt
set_option linter.unusedVariables false
set_option maxRecDepth 100000
set_option linter.unusedSimpArgs false
namespace Go.Proofs.YtgddnpglgakkdaaGreatDoor
open Go.RowKit

/-- The fields of a value, but for its elements, are right for its kind. -/
def ownB (k n x : Int) (s : ByteArray) (m : Nat) : Bool :=
  if k = 1 then (n == 0) && ((x == 0) && (s.toList.isEmpty && (m == 0)))
  else if k = 2 then inR n 0 1 && ((x == 0) && (s.toList.isEmpty && (m == 0)))
  else if k = 3 then inR n (-1000000000000000) 1000000000000000 && ((x == 0) && (s.toList.isEmpty && (m == 0)))
  else if k = 4 then fltOk n x && (s.toList.isEmpty && (m == 0))
  else if k = 5 then inR n 0 2 && ((x == 0) && (s.toList.isEmpty && (m == 0)))
  else if k = 6 then decOk n x && (decide (x < 0) && (s.toList.isEmpty && (m == 0)))
  else if k = 7 then (n == 0) && ((x == 0) && (Lib.validD s.data.toList && (m == 0)))
  else if k = 8 then (n == 0) && ((x == 0) && (m == 0))
  else if k = 9 then (n == 0) && ((x == 0) && s.toList.isEmpty)
  else if k = 10 then (n == 0) && ((x == 0) && (s.toList.isEmpty && (m % 2 == 0)))
  else if k = 11 then inR n 0 1000000000000000 && ((x == 0) && (s.toList.isEmpty && (m == 1)))
  else false
def ownT (t : Tr) : Bool := ownB t.k t.n t.x t.s t.l.length
noncomputable def valOk (t : Tr) : Bool := allT ownT t
/-- The tables that texts and numbers lean on. -/
def TabUP (w : World) : Prop := Lib.Utf8Tabs 1 2 w ∧ PowT w
theorem TabUP.below {w w' : World} (h : TabUP w) (hb : Below w.heap.size w w') : TabUP w' := ⟨Utf8Tabs_below h.1 hb, h.2.below hb⟩
theorem sz_kid {t u : Tr} (hu : u ∈ t.l) : u.sz < t.sz := by
  obtain ⟨j, hj, rfl⟩ := List.mem_iff_getElem.1 hu
  have h1 := szT_succ hj
  have h2 := szT_le t.l (j + 1)
  have h3 := t.sz_eq
  omega
/-- A tree that can be walked. -/
def Fit (t : Tr) : Prop := t.wf ∧ t.sz ≤ 1048576
theorem Fit.kid {t u : Tr} (h : Fit t) (hu : u ∈ t.l) : Fit u := ⟨((Tr.wf_iff t).1 h.1).2.2.2.2 u hu, by have := sz_kid hu; have := h.2; omega⟩
theorem Fit.len {t : Tr} (h : Fit t) : t.l.length ≤ 1048576 := by have := h.2; have := t.sz_eq; have := szT_le t.l 0; omega
theorem Fit.size {t : Tr} (h : Fit t) : t.s.size ≤ 1048576 := by have := h.2; have := t.sz_eq; omega
set_option maxHeartbeats 1000000 in
theorem i_ownOk_1 (n x : Int) (s : ByteArray) (A : Option Addr) (m c : Nat) (w : World) (hn : -9223372036854775808 ≤ n ∧ n ≤ 9223372036854775807) (hx : -9223372036854775808 ≤ x ∧ x ≤ 9223372036854775807) (hs : s.size ≤ 1048576) (hm : m ≤ 1048576) (hT : Lib.Utf8Tabs 1 2 w) (hP : PowT w) :
    Calls Tryz.prog 110 #[.agg #[.int .i64 1, .int .i64 n, .int .i64 x, .string s, .slice A m c]] w fun r w' => r = .returned (.bool (ownB 1 n x s m)) ∧ Below w.heap.size w w' := by
  go_enter Tryz.func110, Tryz.ntmps110
  go_wp2_with fail
  all_goals (go_ret; refine ⟨ret_bool ?_, by first | exact Below.one _ _ | exact hb.boxed⟩)
  all_goals first | (simp [ownB, *]; done) | (simp [ownB, *]; omega) | (simp only [ownB]; rw [Bool.eq_iff_iff]; simp [*]; done) | (simp only [ownB]; rw [Bool.eq_iff_iff]; simp [*]; omega) | (simp [ownB, inR, *]; done) | (simp [ownB, inR, *]; omega) | (simp only [ownB, inR]; rw [Bool.eq_iff_iff]; simp [*]; omega)
set_option maxHeartbeats 1000000 in
theorem i_ownOk_2 (n x : Int) (s : ByteArray) (A : Option Addr) (m c : Nat) (w : World) (hn : -9223372036854775808 ≤ n ∧ n ≤ 9223372036854775807) (hx : -9223372036854775808 ≤ x ∧ x ≤ 9223372036854775807) (hs : s.size ≤ 1048576) (hm : m ≤ 1048576) (hT : Lib.Utf8Tabs 1 2 w) (hP : PowT w) :
    Calls Tryz.prog 110 #[.agg #[.int .i64 2, .int .i64 n, .int .i64 x, .string s, .slice A m c]] w fun r w' => r = .returned (.bool (ownB 2 n x s m)) ∧ Below w.heap.size w w' := by
  go_enter Tryz.func110, Tryz.ntmps110
  go_wp2_with fail
  all_goals (go_ret; refine ⟨ret_bool ?_, by first | exact Below.one _ _ | exact hb.boxed⟩)
  all_goals first | (simp [ownB, *]; done) | (simp [ownB, *]; omega) | (simp only [ownB]; rw [Bool.eq_iff_iff]; simp [*]; done) | (simp only [ownB]; rw [Bool.eq_iff_iff]; simp [*]; omega) | (simp [ownB, inR, *]; done) | (simp [ownB, inR, *]; omega) | (simp only [ownB, inR]; rw [Bool.eq_iff_iff]; simp [*]; omega)
set_option maxHeartbeats 1000000 in
theorem i_ownOk_3 (n x : Int) (s : ByteArray) (A : Option Addr) (m c : Nat) (w : World) (hn : -9223372036854775808 ≤ n ∧ n ≤ 9223372036854775807) (hx : -9223372036854775808 ≤ x ∧ x ≤ 9223372036854775807) (hs : s.size ≤ 1048576) (hm : m ≤ 1048576) (hT : Lib.Utf8Tabs 1 2 w) (hP : PowT w) :
    Calls Tryz.prog 110 #[.agg #[.int .i64 3, .int .i64 n, .int .i64 x, .string s, .slice A m c]] w fun r w' => r = .returned (.bool (ownB 3 n x s m)) ∧ Below w.heap.size w w' := by
  go_enter Tryz.func110, Tryz.ntmps110
  go_wp2_with (go_at_call 38; refine (i_within _ _ _ _).mono ?_; rintro e w1 ⟨rfl, rfl⟩)
  all_goals (go_ret; refine ⟨ret_bool ?_, by first | exact Below.one _ _ | exact hb.boxed⟩)
  all_goals first | (simp [ownB, *]; done) | (simp [ownB, *]; omega) | (simp only [ownB]; rw [Bool.eq_iff_iff]; simp [*]; done) | (simp only [ownB]; rw [Bool.eq_iff_iff]; simp [*]; omega) | (simp [ownB, inR, *]; done) | (simp [ownB, inR, *]; omega) | (simp only [ownB, inR]; rw [Bool.eq_iff_iff]; simp [*]; omega)
set_option maxHeartbeats 1000000 in
theorem i_ownOk_4 (n x : Int) (s : ByteArray) (A : Option Addr) (m c : Nat) (w : World) (hn : -9223372036854775808 ≤ n ∧ n ≤ 9223372036854775807) (hx : -9223372036854775808 ≤ x ∧ x ≤ 9223372036854775807) (hs : s.size ≤ 1048576) (hm : m ≤ 1048576) (hT : Lib.Utf8Tabs 1 2 w) (hP : PowT w) :
    Calls Tryz.prog 110 #[.agg #[.int .i64 4, .int .i64 n, .int .i64 x, .string s, .slice A m c]] w fun r w' => r = .returned (.bool (ownB 4 n x s m)) ∧ Below w.heap.size w w' := by
  go_enter Tryz.func110, Tryz.ntmps110
  go_wp2_with (go_at_call 143; refine (i_FltOk n x _ hx.2).mono ?_; rintro e w1 ⟨rfl, hb⟩)
  all_goals (go_ret; refine ⟨ret_bool ?_, by first | exact Below.one _ _ | exact hb.boxed⟩)
  all_goals first | (simp [ownB, *]; done) | (simp [ownB, *]; omega) | (simp only [ownB]; rw [Bool.eq_iff_iff]; simp [*]; done) | (simp only [ownB]; rw [Bool.eq_iff_iff]; simp [*]; omega) | (simp [ownB, inR, *]; done) | (simp [ownB, inR, *]; omega) | (simp only [ownB, inR]; rw [Bool.eq_iff_iff]; simp [*]; omega)
set_option maxHeartbeats 1000000 in
theorem i_ownOk_5 (n x : Int) (s : ByteArray) (A : Option Addr) (m c : Nat) (w : World) (hn : -9223372036854775808 ≤ n ∧ n ≤ 9223372036854775807) (hx : -9223372036854775808 ≤ x ∧ x ≤ 9223372036854775807) (hs : s.size ≤ 1048576) (hm : m ≤ 1048576) (hT : Lib.Utf8Tabs 1 2 w) (hP : PowT w) :
    Calls Tryz.prog 110 #[.agg #[.int .i64 5, .int .i64 n, .int .i64 x, .string s, .slice A m c]] w fun r w' => r = .returned (.bool (ownB 5 n x s m)) ∧ Below w.heap.size w w' := by
  go_enter Tryz.func110, Tryz.ntmps110
  go_wp2_with (go_at_call 38; refine (i_within _ _ _ _).mono ?_; rintro e w1 ⟨rfl, rfl⟩)
  all_goals (go_ret; refine ⟨ret_bool ?_, by first | exact Below.one _ _ | exact hb.boxed⟩)
  all_goals first | (simp [ownB, *]; done) | (simp [ownB, *]; omega) | (simp only [ownB]; rw [Bool.eq_iff_iff]; simp [*]; done) | (simp only [ownB]; rw [Bool.eq_iff_iff]; simp [*]; omega) | (simp [ownB, inR, *]; done) | (simp [ownB, inR, *]; omega) | (simp only [ownB, inR]; rw [Bool.eq_iff_iff]; simp [*]; omega)
set_option maxHeartbeats 1000000 in
theorem i_ownOk_6 (n x : Int) (s : ByteArray) (A : Option Addr) (m c : Nat) (w : World) (hn : -9223372036854775808 ≤ n ∧ n ≤ 9223372036854775807) (hx : -9223372036854775808 ≤ x ∧ x ≤ 9223372036854775807) (hs : s.size ≤ 1048576) (hm : m ≤ 1048576) (hT : Lib.Utf8Tabs 1 2 w) (hP : PowT w) :
    Calls Tryz.prog 110 #[.agg #[.int .i64 6, .int .i64 n, .int .i64 x, .string s, .slice A m c]] w fun r w' => r = .returned (.bool (ownB 6 n x s m)) ∧ Below w.heap.size w w' := by
  go_enter Tryz.func110, Tryz.ntmps110
  go_wp2_with (go_at_call 116; refine (i_DecOk n x _ hn hx (hP.below (Below.one w _))).mono ?_; rintro e w1 ⟨rfl, hb⟩)
  all_goals (go_ret; refine ⟨ret_bool ?_, by first | exact Below.one _ _ | exact hb.boxed⟩)
  all_goals first | (simp [ownB, *]; done) | (simp [ownB, *]; omega) | (simp only [ownB]; rw [Bool.eq_iff_iff]; simp [*]; done) | (simp only [ownB]; rw [Bool.eq_iff_iff]; simp [*]; omega) | (simp [ownB, inR, *]; done) | (simp [ownB, inR, *]; omega) | (simp only [ownB, inR]; rw [Bool.eq_iff_iff]; simp [*]; omega)
set_option maxHeartbeats 1000000 in
theorem i_ownOk_7 (n x : Int) (s : ByteArray) (A : Option Addr) (m c : Nat) (w : World) (hn : -9223372036854775808 ≤ n ∧ n ≤ 9223372036854775807) (hx : -9223372036854775808 ≤ x ∧ x ≤ 9223372036854775807) (hs : s.size ≤ 1048576) (hm : m ≤ 1048576) (hT : Lib.Utf8Tabs 1 2 w) (hP : PowT w) :
    Calls Tryz.prog 110 #[.agg #[.int .i64 7, .int .i64 n, .int .i64 x, .string s, .slice A m c]] w fun r w' => r = .returned (.bool (ownB 7 n x s m)) ∧ Below w.heap.size w w' := by
  go_enter Tryz.func110, Tryz.ntmps110
  go_wp2_with (go_at_call 100; refine (i_TextOk s _ (by omega) (Utf8Tabs_below hT (Below.one w _))).mono ?_; rintro e w1 ⟨rfl, hb⟩)
  all_goals (go_ret; refine ⟨ret_bool ?_, by first | exact Below.one _ _ | exact hb.boxed⟩)
  all_goals first | (simp [ownB, *]; done) | (simp [ownB, *]; omega) | (simp only [ownB]; rw [Bool.eq_iff_iff]; simp [*]; done) | (simp only [ownB]; rw [Bool.eq_iff_iff]; simp [*]; omega) | (simp [ownB, inR, *]; done) | (simp [ownB, inR, *]; omega) | (simp only [ownB, inR]; rw [Bool.eq_iff_iff]; simp [*]; omega)
set_option maxHeartbeats 1000000 in
theorem i_ownOk_8 (n x : Int) (s : ByteArray) (A : Option Addr) (m c : Nat) (w : World) (hn : -9223372036854775808 ≤ n ∧ n ≤ 9223372036854775807) (hx : -9223372036854775808 ≤ x ∧ x ≤ 9223372036854775807) (hs : s.size ≤ 1048576) (hm : m ≤ 1048576) (hT : Lib.Utf8Tabs 1 2 w) (hP : PowT w) :
    Calls Tryz.prog 110 #[.agg #[.int .i64 8, .int .i64 n, .int .i64 x, .string s, .slice A m c]] w fun r w' => r = .returned (.bool (ownB 8 n x s m)) ∧ Below w.heap.size w w' := by
  go_enter Tryz.func110, Tryz.ntmps110
  go_wp2_with fail
  all_goals (go_ret; refine ⟨ret_bool ?_, by first | exact Below.one _ _ | exact hb.boxed⟩)
  all_goals first | (simp [ownB, *]; done) | (simp [ownB, *]; omega) | (simp only [ownB]; rw [Bool.eq_iff_iff]; simp [*]; done) | (simp only [ownB]; rw [Bool.eq_iff_iff]; simp [*]; omega) | (simp [ownB, inR, *]; done) | (simp [ownB, inR, *]; omega) | (simp only [ownB, inR]; rw [Bool.eq_iff_iff]; simp [*]; omega)
set_option maxHeartbeats 1000000 in
theorem i_ownOk_9 (n x : Int) (s : ByteArray) (A : Option Addr) (m c : Nat) (w : World) (hn : -9223372036854775808 ≤ n ∧ n ≤ 9223372036854775807) (hx : -9223372036854775808 ≤ x ∧ x ≤ 9223372036854775807) (hs : s.size ≤ 1048576) (hm : m ≤ 1048576) (hT : Lib.Utf8Tabs 1 2 w) (hP : PowT w) :
    Calls Tryz.prog 110 #[.agg #[.int .i64 9, .int .i64 n, .int .i64 x, .string s, .slice A m c]] w fun r w' => r = .returned (.bool (ownB 9 n x s m)) ∧ Below w.heap.size w w' := by
  go_enter Tryz.func110, Tryz.ntmps110
  go_wp2_with fail
  all_goals (go_ret; refine ⟨ret_bool ?_, by first | exact Below.one _ _ | exact hb.boxed⟩)
  all_goals first | (simp [ownB, *]; done) | (simp [ownB, *]; omega) | (simp only [ownB]; rw [Bool.eq_iff_iff]; simp [*]; done) | (simp only [ownB]; rw [Bool.eq_iff_iff]; simp [*]; omega) | (simp [ownB, inR, *]; done) | (simp [ownB, inR, *]; omega) | (simp only [ownB, inR]; rw [Bool.eq_iff_iff]; simp [*]; omega)
set_option maxHeartbeats 1000000 in
theorem i_ownOk_10 (n x : Int) (s : ByteArray) (A : Option Addr) (m c : Nat) (w : World) (hn : -9223372036854775808 ≤ n ∧ n ≤ 9223372036854775807) (hx : -9223372036854775808 ≤ x ∧ x ≤ 9223372036854775807) (hs : s.size ≤ 1048576) (hm : m ≤ 1048576) (hT : Lib.Utf8Tabs 1 2 w) (hP : PowT w) :
    Calls Tryz.prog 110 #[.agg #[.int .i64 10, .int .i64 n, .int .i64 x, .string s, .slice A m c]] w fun r w' => r = .returned (.bool (ownB 10 n x s m)) ∧ Below w.heap.size w w' := by
  go_enter Tryz.func110, Tryz.ntmps110
  go_wp2_with fail
  all_goals (go_ret; refine ⟨ret_bool ?_, by first | exact Below.one _ _ | exact hb.boxed⟩)
  all_goals first | (simp [ownB, *]; done) | (simp [ownB, *]; omega) | (simp only [ownB]; rw [Bool.eq_iff_iff]; simp [*]; done) | (simp only [ownB]; rw [Bool.eq_iff_iff]; simp [*]; omega) | (simp [ownB, inR, *]; done) | (simp [ownB, inR, *]; omega) | (simp only [ownB, inR]; rw [Bool.eq_iff_iff]; simp [*]; omega)
set_option maxHeartbeats 1000000 in
theorem i_ownOk_11 (n x : Int) (s : ByteArray) (A : Option Addr) (m c : Nat) (w : World) (hn : -9223372036854775808 ≤ n ∧ n ≤ 9223372036854775807) (hx : -9223372036854775808 ≤ x ∧ x ≤ 9223372036854775807) (hs : s.size ≤ 1048576) (hm : m ≤ 1048576) (hT : Lib.Utf8Tabs 1 2 w) (hP : PowT w) :
    Calls Tryz.prog 110 #[.agg #[.int .i64 11, .int .i64 n, .int .i64 x, .string s, .slice A m c]] w fun r w' => r = .returned (.bool (ownB 11 n x s m)) ∧ Below w.heap.size w w' := by
  go_enter Tryz.func110, Tryz.ntmps110
  go_wp2_with (go_at_call 38; refine (i_within _ _ _ _).mono ?_; rintro e w1 ⟨rfl, rfl⟩)
  all_goals (go_ret; refine ⟨ret_bool ?_, by first | exact Below.one _ _ | exact hb.boxed⟩)
  all_goals first | (simp [ownB, *]; done) | (simp [ownB, *]; omega) | (simp only [ownB]; rw [Bool.eq_iff_iff]; simp [*]; done) | (simp only [ownB]; rw [Bool.eq_iff_iff]; simp [*]; omega) | (simp [ownB, inR, *]; done) | (simp [ownB, inR, *]; omega) | (simp only [ownB, inR]; rw [Bool.eq_iff_iff]; simp [*]; omega)
set_option maxHeartbeats 1000000 in
theorem i_ownOk_no (k n x : Int) (s : ByteArray) (A : Option Addr) (m c : Nat) (w : World) (hm : m ≤ 1048576) (hk : k < 1 ∨ 11 < k) :
    Calls Tryz.prog 110 #[.agg #[.int .i64 k, .int .i64 n, .int .i64 x, .string s, .slice A m c]] w fun r w' => r = .returned (.bool (ownB k n x s m)) ∧ Below w.heap.size w w' := by
  have q1 : (k == 1) = false := by simp; omega
  have q2 : (k == 2) = false := by simp; omega
  have q3 : (k == 3) = false := by simp; omega
  have q4 : (k == 4) = false := by simp; omega
  have q5 : (k == 5) = false := by simp; omega
  have q6 : (k == 6) = false := by simp; omega
  have q7 : (k == 7) = false := by simp; omega
  have q8 : (k == 8) = false := by simp; omega
  have q9 : (k == 9) = false := by simp; omega
  have q10 : (k == 10) = false := by simp; omega
  have q11 : (k == 11) = false := by simp; omega
  have p4 : (k != 4) = true := by simp; omega
  have p6 : (k != 6) = true := by simp; omega
  have e : ownB k n x s m = false := by
    unfold ownB
    rw [if_neg (by omega), if_neg (by omega), if_neg (by omega), if_neg (by omega), if_neg (by omega), if_neg (by omega), if_neg (by omega), if_neg (by omega), if_neg (by omega), if_neg (by omega), if_neg (by omega)]
  rw [e]
  clear e hk
  go_enter Tryz.func110, Tryz.ntmps110
  go_wp2_with fail
  all_goals (go_ret; exact ⟨rfl, Below.one _ _⟩)
theorem i_ownOk (t : Tr) (e : El) (w : World) (hF : Fit t) (hl : LsAt w t.l e) (hel : e.lt w.heap.size) (hT : TabUP w) :
    Calls Tryz.prog 110 #[trV t e] w fun r w' => r = .returned (.bool (ownT t)) ∧ Below w.heap.size w w' := by
  have h1 := (Tr.wf_iff t).1 hF.1
  have h2 := hF.len
  have h3 := hF.size
  have hen := hl.len
  unfold ownT
  rw [hen] at h2 ⊢
  obtain ⟨k, n, x, s, l⟩ := t
  obtain ⟨A, m, c, fp⟩ := e
  obtain ⟨hk, hn, hx, _, _⟩ := h1
  by_cases hr : k < 1 ∨ 11 < k
  · exact i_ownOk_no k n x s A m c w h2 hr
  have hc : k = 1 ∨ k = 2 ∨ k = 3 ∨ k = 4 ∨ k = 5 ∨ k = 6 ∨ k = 7 ∨ k = 8 ∨ k = 9 ∨ k = 10 ∨ k = 11 := by omega
  rcases hc with rfl | rfl | rfl | rfl | rfl | rfl | rfl | rfl | rfl | rfl | rfl
  · exact i_ownOk_1 n x s A m c w hn hx h3 h2 hT.1 hT.2
  · exact i_ownOk_2 n x s A m c w hn hx h3 h2 hT.1 hT.2
  · exact i_ownOk_3 n x s A m c w hn hx h3 h2 hT.1 hT.2
  · exact i_ownOk_4 n x s A m c w hn hx h3 h2 hT.1 hT.2
  · exact i_ownOk_5 n x s A m c w hn hx h3 h2 hT.1 hT.2
  · exact i_ownOk_6 n x s A m c w hn hx h3 h2 hT.1 hT.2
  · exact i_ownOk_7 n x s A m c w hn hx h3 h2 hT.1 hT.2
  · exact i_ownOk_8 n x s A m c w hn hx h3 h2 hT.1 hT.2
  · exact i_ownOk_9 n x s A m c w hn hx h3 h2 hT.1 hT.2
  · exact i_ownOk_10 n x s A m c w hn hx h3 h2 hT.1 hT.2
  · exact i_ownOk_11 n x s A m c w hn hx h3 h2 hT.1 hT.2
theorem enters_ownOk : EntersF 110 := enters_of Tryz.func110 (by kernel_rfl) rfl
theorem enters_every1 : EntersF 112 := enters_of Tryz.func112 (by kernel_rfl) rfl
theorem i_ValOk (t : Tr) (e : El) (w : World) (hF : Fit t) (hl : LsAt w t.l e) (hel : e.lt w.heap.size) (hT : TabUP w) :
    Calls Tryz.prog 78 #[trV t e] w fun r w' => r = .returned (.bool (valOk t)) ∧ Below w.heap.size w w' := by
  have kb := Below.one w (.cells (valCells t e) 33)
  have h := i_every 110 enters_ownOk enters_every1 ownT Fit TabUP (fun _ _ h hb => h.below hb) (fun _ _ h hu => h.kid hu) (fun u e w hu hl hel hT => i_ownOk u e w hu hl hel hT) t hF e _ (hl.below hel kb) (hel.mono kb.size) (hT.below kb)
  unfold valOk
  generalize allT ownT t = R at h
  go_enter Tryz.func78, Tryz.ntmps78
  go_wp2_with (go_at_call 79; refine h.mono ?_; rintro r w1 ⟨rfl, hb⟩)
  go_ret
  exact ⟨rfl, kb.up hb⟩
end Go.Proofs.YtgddnpglgakkdaaGreatDoor
