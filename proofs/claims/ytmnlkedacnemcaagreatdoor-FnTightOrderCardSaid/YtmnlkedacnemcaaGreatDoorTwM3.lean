/- Runes: RuneOk, and the reference's WideOf, PutRune, FromRunes. FromRunes: the reference's. The laws' own helpers on []byte: copies, comparison. -/
import Derived.Test.YtmnlkedacnemcaaGreatDoorTwM2
import Derived.Test.YtmnlkedacnemcaaGreatDoorTwM1
import Derived.Test.YtmnlkedacnemcaaGreatDoorTwM0
import Derived.BigQuiet
import Derived.Deep.QuietTactic
set_option linter.unusedVariables false
set_option maxRecDepth 100000
set_option linter.unusedSimpArgs false
namespace Go.Proofs.YtmnlkedacnemcaaGreatDoor
open Go.RowKit

theorem u8s_of1 {k1 : Int} {m1 : Nat} (e1 : k1 = m1) (h1 : m1 < 256) : [Value.int .u8 k1] = u8s [UInt8.ofNat m1] := by
  subst e1; simp [u8s]; omega
theorem u8s_of2 {k1 k2 : Int} {m1 m2 : Nat} (e1 : k1 = m1) (h1 : m1 < 256) (e2 : k2 = m2) (h2 : m2 < 256) : [Value.int .u8 k1, Value.int .u8 k2] = u8s [UInt8.ofNat m1, UInt8.ofNat m2] := by
  subst e1 e2; simp [u8s]; omega
theorem u8s_of3 {k1 k2 k3 : Int} {m1 m2 m3 : Nat} (e1 : k1 = m1) (h1 : m1 < 256) (e2 : k2 = m2) (h2 : m2 < 256) (e3 : k3 = m3) (h3 : m3 < 256) : [Value.int .u8 k1, Value.int .u8 k2, Value.int .u8 k3] = u8s [UInt8.ofNat m1, UInt8.ofNat m2, UInt8.ofNat m3] := by
  subst e1 e2 e3; simp [u8s]; omega
theorem u8s_of4 {k1 k2 k3 k4 : Int} {m1 m2 m3 m4 : Nat} (e1 : k1 = m1) (h1 : m1 < 256) (e2 : k2 = m2) (h2 : m2 < 256) (e3 : k3 = m3) (h3 : m3 < 256) (e4 : k4 = m4) (h4 : m4 < 256) : [Value.int .u8 k1, Value.int .u8 k2, Value.int .u8 k3, Value.int .u8 k4] = u8s [UInt8.ofNat m1, UInt8.ofNat m2, UInt8.ofNat m3, UInt8.ofNat m4] := by
  subst e1 e2 e3 e4; simp [u8s]; omega
def runeOk (n : Int) : Bool := decide (0 ≤ n ∧ n ≤ 1114111 ∧ ¬ (55296 ≤ n ∧ n ≤ 57343))
def wideOf (n : Int) : Int := if runeOk n = true then (if n < 128 then 1 else if n < 2048 then 2 else if n < 65536 then 3 else 4) else 0
theorem runeOk_yes {n : Int} (h : 0 ≤ n) (h2 : n ≤ 1114111) (h3 : n < 55296 ∨ 57343 < n) : runeOk n = true := decide_eq_true (by omega)
theorem runeOk_iff {n : Int} : runeOk n = true ↔ 0 ≤ n ∧ n ≤ 1114111 ∧ ¬ (55296 ≤ n ∧ n ≤ 57343) := by simp only [runeOk, decide_eq_true_eq]
theorem runeOk_no {n : Int} : runeOk n = false ↔ ¬ (0 ≤ n ∧ n ≤ 1114111 ∧ ¬ (55296 ≤ n ∧ n ≤ 57343)) := by simp only [runeOk, decide_eq_false_iff_not]
/-- A character's bytes. -/
def encL (c : Nat) : List UInt8 :=
  if c < 128 then [UInt8.ofNat c] else if c < 2048 then [UInt8.ofNat (192 + c / 64), UInt8.ofNat (128 + c % 64)]
  else if c < 65536 then [UInt8.ofNat (224 + c / 4096), UInt8.ofNat (128 + c / 64 % 64), UInt8.ofNat (128 + c % 64)]
  else [UInt8.ofNat (240 + c / 262144), UInt8.ofNat (128 + c / 4096 % 64), UInt8.ofNat (128 + c / 64 % 64), UInt8.ofNat (128 + c % 64)]
def encR (n : Int) : List UInt8 := if runeOk n = true then encL n.toNat else []
theorem encL_len (c : Nat) : (encL c).length ≤ 4 := by unfold encL; (repeat' split) <;> simp
theorem encR_len (n : Int) : (encR n).length ≤ 4 := by
  unfold encR
  split
  · exact encL_len _
  · simp
theorem encode_ok {n : Int} (h : runeOk n = true) : Utf8.encode n = ⟨(encL n.toNat).toArray⟩ := by
  rw [runeOk_iff] at h
  have hv : Utf8.valid n = true := by simp [Utf8.valid]; omega
  unfold Utf8.encode encL
  simp only [hv, if_true]
  (repeat' split) <;> first | rfl | omega
theorem s_RuneOk (n : Int) (w : World) :
    Calls Tryz.prog 107 #[.int .i64 n] w fun e w' => e = .returned (.bool (runeOk n)) ∧ w = w' := by
  by_cases h : 0 ≤ n ∧ n ≤ 1114111
  · have hb := inR_yes h.1 h.2
    cases hb2 : inR n 55296 57343
    all_goals
      have H2 := Lib.hid hb2
      go_enter Tryz.func107, Tryz.ntmps107
      go_wp2_with (go_at_call 42; refine (s_l1In _ _ _ _).mono ?_; rintro e w' ⟨rfl, rfl⟩)
      go_ret
      refine ⟨ret_bool ?_, rfl⟩
    · have := inR_not.1 H2.out; exact (runeOk_iff.2 (by omega)).symm
    · have := inR_iff.1 H2.out; exact (runeOk_no.2 (by omega)).symm
  · have hb : inR n 0 1114111 = false := inR_no (by omega)
    go_enter Tryz.func107, Tryz.ntmps107
    go_wp2_with (go_at_call 42; refine (s_l1In _ _ _ _).mono ?_; rintro e w' ⟨rfl, rfl⟩)
    go_ret
    exact ⟨ret_bool (runeOk_no.2 (by omega)).symm, rfl⟩
theorem s_WideOf (n : Int) (w : World) :
    Calls Tryz.prog 102 #[.int .i64 n] w fun e w' => e = .returned (.int .i64 (wideOf n)) ∧ w = w' := by
  cases hr : runeOk n with
  | false =>
    go_enter Tryz.func102, Tryz.ntmps102
    go_wp2_with (go_at_call 107; refine (s_RuneOk _ _).mono ?_; rintro e w' ⟨rfl, rfl⟩)
    go_ret
    exact ⟨ret_int (by unfold wideOf; rw [hr]; rfl), rfl⟩
  | true =>
    have HR := Lib.hid hr
    go_enter Tryz.func102, Tryz.ntmps102
    go_wp2_with (go_at_call 107; refine (s_RuneOk _ _).mono ?_; rintro e w' ⟨rfl, rfl⟩)
    all_goals
      go_ret
      exact ⟨ret_int (by unfold wideOf; rw [if_pos HR.out]; (repeat' split) <;> omega), rfl⟩
set_option maxHeartbeats 1600000 in
theorem s_PutRune1 (A : Option Addr) (n c : Nat) (b : List UInt8) (r : Int) (w : World) (B : Nat) (h : Sl w B 1 A n c (u8s b)) (hB : B ≤ w.heap.size) (hn : n ≤ 1099511627776) (h1 : 0 ≤ r) (h2 : r < 128) :
    Calls Tryz.prog 92 #[.slice A n c, .int .i64 r] w fun e w' => ∃ A' c', e = .returned (.slice A' (n + 1) c') ∧
      w'.ownsRow w.heap.size 5 1 (.slice A' (n + 1) c') (n + 1) (u8s (b ++ encR r)) ∧ Below w.heap.size w w' := by
  obtain ⟨i0, hi, hz0, hz1, hz2⟩ := info_parts info_u8h
  have hwd : wideOf r = 1 := by unfold wideOf; rw [if_pos (runeOk_yes (by omega) (by omega) (by omega)), if_pos (by omega)]
  have hen : encR r = [UInt8.ofNat (r.toNat)] := by unfold encR encL; rw [if_pos (runeOk_yes (by omega) (by omega) (by omega)), if_pos (by omega)]
  have HEN := Lib.hid hen; clear hen
  have ho0 := World.ownsRow_lit (base := w.heap.size) (e := 5) (size := 1) w #[] 0 (Nat.le_refl _) (by decide) rfl
  go_enter Tryz.func92, Tryz.ntmps92
  go_wp2_with (at_builtin; refine wpList_append_sl _ rfl (.tmp 6) (.tmp 7) 22 rfl w.heap.size 5 i0 (.int .u8 0) 1 1 Tryz.underlying22 hi hz0 hz1 hz2 rfl (by decide) (.slice (some ⟨w.heap.size, 0, none⟩) 0 0) 0 [] rfl ho0 B A n c (u8s b) rfl (h.alloc hB _) (u8s_one _) (by unfold maxLen; omega) (by omega) (by simp) ?_; intro A1 c1 w1 ho1 hg1 _)
  have hb1 : Below w.heap.size w w1 := below_append (Below.one w _) ho0 (Nat.le_refl _) (by simp) hg1
  simp only [Nat.zero_add, List.nil_append] at ho1
  clear hg1 ho0
  refine (s_WideOf _ _).mono ?_; rintro e w2 ⟨rfl, rfl⟩
  rw [hwd]
  go_wp2_with (at_builtin; refine wpList_append_sl _ rfl (.tmp 13) (.tmp 16) 22 rfl w.heap.size 5 i0 (.int .u8 0) 1 1 Tryz.underlying22 hi hz0 hz1 hz2 rfl (by decide) (.slice A1 n c1) n (u8s b) rfl (ho1.alloc _) (w1.heap.size + 1) (some ⟨w1.heap.size, 0, none⟩) 1 1 (u8s [UInt8.ofNat (r.toNat)]) rfl (by exact (Sl.congr (u8s_of1 (by omega) (by omega)) (Sl.lit w1 5 #[_] 1 1 rfl (by decide) _ (Nat.lt_succ_self _)))) (u8s_one _) (by unfold maxLen; omega) (by omega) (by have := hb1.size; simp; omega) ?_; intro A2 c2 w2 ho2 hg2 _)
  have hb2 : Below w.heap.size w w2 := below_append (hb1.alloc hb1.size _) (ho1.alloc _) (Nat.le_refl _) (by have := hb1.size; simp; omega) hg2
  clear hg2 ho1 hb1
  go_wp2_with fail
  go_ret
  exact ⟨A2, c2, rfl, by rw [HEN.out, u8s_append]; exact ho2, hb2⟩
set_option maxHeartbeats 1600000 in
theorem s_PutRune2 (A : Option Addr) (n c : Nat) (b : List UInt8) (r : Int) (w : World) (B : Nat) (h : Sl w B 1 A n c (u8s b)) (hB : B ≤ w.heap.size) (hn : n ≤ 1099511627776) (h1 : 128 ≤ r) (h2 : r < 2048) :
    Calls Tryz.prog 92 #[.slice A n c, .int .i64 r] w fun e w' => ∃ A' c', e = .returned (.slice A' (n + 2) c') ∧
      w'.ownsRow w.heap.size 5 1 (.slice A' (n + 2) c') (n + 2) (u8s (b ++ encR r)) ∧ Below w.heap.size w w' := by
  obtain ⟨i0, hi, hz0, hz1, hz2⟩ := info_parts info_u8h
  have hwd : wideOf r = 2 := by unfold wideOf; rw [if_pos (runeOk_yes (by omega) (by omega) (by omega)), if_neg (by omega), if_pos (by omega)]
  have hen : encR r = [UInt8.ofNat (192 + r.toNat / 64), UInt8.ofNat (128 + r.toNat % 64)] := by unfold encR encL; rw [if_pos (runeOk_yes (by omega) (by omega) (by omega)), if_neg (by omega), if_pos (by omega)]
  have HEN := Lib.hid hen; clear hen
  have ho0 := World.ownsRow_lit (base := w.heap.size) (e := 5) (size := 1) w #[] 0 (Nat.le_refl _) (by decide) rfl
  go_enter Tryz.func92, Tryz.ntmps92
  go_wp2_with (at_builtin; refine wpList_append_sl _ rfl (.tmp 6) (.tmp 7) 22 rfl w.heap.size 5 i0 (.int .u8 0) 1 1 Tryz.underlying22 hi hz0 hz1 hz2 rfl (by decide) (.slice (some ⟨w.heap.size, 0, none⟩) 0 0) 0 [] rfl ho0 B A n c (u8s b) rfl (h.alloc hB _) (u8s_one _) (by unfold maxLen; omega) (by omega) (by simp) ?_; intro A1 c1 w1 ho1 hg1 _)
  have hb1 : Below w.heap.size w w1 := below_append (Below.one w _) ho0 (Nat.le_refl _) (by simp) hg1
  simp only [Nat.zero_add, List.nil_append] at ho1
  clear hg1 ho0
  refine (s_WideOf _ _).mono ?_; rintro e w2 ⟨rfl, rfl⟩
  rw [hwd]
  go_wp2_with (at_builtin; refine wpList_append_sl _ rfl (.tmp 20) (.tmp 29) 22 rfl w.heap.size 5 i0 (.int .u8 0) 1 1 Tryz.underlying22 hi hz0 hz1 hz2 rfl (by decide) (.slice A1 n c1) n (u8s b) rfl (ho1.alloc _) (w1.heap.size + 1) (some ⟨w1.heap.size, 0, none⟩) 2 2 (u8s [UInt8.ofNat (192 + r.toNat / 64), UInt8.ofNat (128 + r.toNat % 64)]) rfl (by exact (Sl.congr (u8s_of2 (by omega) (by omega) (by omega) (by omega)) (Sl.lit w1 5 #[_, _] 1 2 rfl (by decide) _ (Nat.lt_succ_self _)))) (u8s_one _) (by unfold maxLen; omega) (by omega) (by have := hb1.size; simp; omega) ?_; intro A2 c2 w2 ho2 hg2 _)
  have hb2 : Below w.heap.size w w2 := below_append (hb1.alloc hb1.size _) (ho1.alloc _) (Nat.le_refl _) (by have := hb1.size; simp; omega) hg2
  clear hg2 ho1 hb1
  go_wp2_with fail
  go_ret
  exact ⟨A2, c2, rfl, by rw [HEN.out, u8s_append]; exact ho2, hb2⟩
set_option maxHeartbeats 1600000 in
theorem s_PutRune3 (A : Option Addr) (n c : Nat) (b : List UInt8) (r : Int) (w : World) (B : Nat) (h : Sl w B 1 A n c (u8s b)) (hB : B ≤ w.heap.size) (hn : n ≤ 1099511627776) (h1 : 2048 ≤ r) (h2 : r < 65536) (h3 : r < 55296 ∨ 57343 < r) :
    Calls Tryz.prog 92 #[.slice A n c, .int .i64 r] w fun e w' => ∃ A' c', e = .returned (.slice A' (n + 3) c') ∧
      w'.ownsRow w.heap.size 5 1 (.slice A' (n + 3) c') (n + 3) (u8s (b ++ encR r)) ∧ Below w.heap.size w w' := by
  obtain ⟨i0, hi, hz0, hz1, hz2⟩ := info_parts info_u8h
  have hwd : wideOf r = 3 := by unfold wideOf; rw [if_pos (runeOk_yes (by omega) (by omega) (by omega)), if_neg (by omega), if_neg (by omega), if_pos (by omega)]
  have hen : encR r = [UInt8.ofNat (224 + r.toNat / 4096), UInt8.ofNat (128 + r.toNat / 64 % 64), UInt8.ofNat (128 + r.toNat % 64)] := by unfold encR encL; rw [if_pos (runeOk_yes (by omega) (by omega) (by omega)), if_neg (by omega), if_neg (by omega), if_pos (by omega)]
  have HEN := Lib.hid hen; clear hen
  have ho0 := World.ownsRow_lit (base := w.heap.size) (e := 5) (size := 1) w #[] 0 (Nat.le_refl _) (by decide) rfl
  go_enter Tryz.func92, Tryz.ntmps92
  go_wp2_with (at_builtin; refine wpList_append_sl _ rfl (.tmp 6) (.tmp 7) 22 rfl w.heap.size 5 i0 (.int .u8 0) 1 1 Tryz.underlying22 hi hz0 hz1 hz2 rfl (by decide) (.slice (some ⟨w.heap.size, 0, none⟩) 0 0) 0 [] rfl ho0 B A n c (u8s b) rfl (h.alloc hB _) (u8s_one _) (by unfold maxLen; omega) (by omega) (by simp) ?_; intro A1 c1 w1 ho1 hg1 _)
  have hb1 : Below w.heap.size w w1 := below_append (Below.one w _) ho0 (Nat.le_refl _) (by simp) hg1
  simp only [Nat.zero_add, List.nil_append] at ho1
  clear hg1 ho0
  refine (s_WideOf _ _).mono ?_; rintro e w2 ⟨rfl, rfl⟩
  rw [hwd]
  go_wp2_with (at_builtin; refine wpList_append_sl _ rfl (.tmp 33) (.tmp 47) 22 rfl w.heap.size 5 i0 (.int .u8 0) 1 1 Tryz.underlying22 hi hz0 hz1 hz2 rfl (by decide) (.slice A1 n c1) n (u8s b) rfl (ho1.alloc _) (w1.heap.size + 1) (some ⟨w1.heap.size, 0, none⟩) 3 3 (u8s [UInt8.ofNat (224 + r.toNat / 4096), UInt8.ofNat (128 + r.toNat / 64 % 64), UInt8.ofNat (128 + r.toNat % 64)]) rfl (by exact (Sl.congr (u8s_of3 (by omega) (by omega) (by omega) (by omega) (by omega) (by omega)) (Sl.lit w1 5 #[_, _, _] 1 3 rfl (by decide) _ (Nat.lt_succ_self _)))) (u8s_one _) (by unfold maxLen; omega) (by omega) (by have := hb1.size; simp; omega) ?_; intro A2 c2 w2 ho2 hg2 _)
  have hb2 : Below w.heap.size w w2 := below_append (hb1.alloc hb1.size _) (ho1.alloc _) (Nat.le_refl _) (by have := hb1.size; simp; omega) hg2
  clear hg2 ho1 hb1
  go_wp2_with fail
  go_ret
  exact ⟨A2, c2, rfl, by rw [HEN.out, u8s_append]; exact ho2, hb2⟩
set_option maxHeartbeats 1600000 in
theorem s_PutRune4 (A : Option Addr) (n c : Nat) (b : List UInt8) (r : Int) (w : World) (B : Nat) (h : Sl w B 1 A n c (u8s b)) (hB : B ≤ w.heap.size) (hn : n ≤ 1099511627776) (h1 : 65536 ≤ r) (h2 : r ≤ 1114111) :
    Calls Tryz.prog 92 #[.slice A n c, .int .i64 r] w fun e w' => ∃ A' c', e = .returned (.slice A' (n + 4) c') ∧
      w'.ownsRow w.heap.size 5 1 (.slice A' (n + 4) c') (n + 4) (u8s (b ++ encR r)) ∧ Below w.heap.size w w' := by
  obtain ⟨i0, hi, hz0, hz1, hz2⟩ := info_parts info_u8h
  have hwd : wideOf r = 4 := by unfold wideOf; rw [if_pos (runeOk_yes (by omega) (by omega) (by omega)), if_neg (by omega), if_neg (by omega), if_neg (by omega)]
  have hen : encR r = [UInt8.ofNat (240 + r.toNat / 262144), UInt8.ofNat (128 + r.toNat / 4096 % 64), UInt8.ofNat (128 + r.toNat / 64 % 64), UInt8.ofNat (128 + r.toNat % 64)] := by unfold encR encL; rw [if_pos (runeOk_yes (by omega) (by omega) (by omega)), if_neg (by omega), if_neg (by omega), if_neg (by omega)]
  have HEN := Lib.hid hen; clear hen
  have ho0 := World.ownsRow_lit (base := w.heap.size) (e := 5) (size := 1) w #[] 0 (Nat.le_refl _) (by decide) rfl
  go_enter Tryz.func92, Tryz.ntmps92
  go_wp2_with (at_builtin; refine wpList_append_sl _ rfl (.tmp 6) (.tmp 7) 22 rfl w.heap.size 5 i0 (.int .u8 0) 1 1 Tryz.underlying22 hi hz0 hz1 hz2 rfl (by decide) (.slice (some ⟨w.heap.size, 0, none⟩) 0 0) 0 [] rfl ho0 B A n c (u8s b) rfl (h.alloc hB _) (u8s_one _) (by unfold maxLen; omega) (by omega) (by simp) ?_; intro A1 c1 w1 ho1 hg1 _)
  have hb1 : Below w.heap.size w w1 := below_append (Below.one w _) ho0 (Nat.le_refl _) (by simp) hg1
  simp only [Nat.zero_add, List.nil_append] at ho1
  clear hg1 ho0
  refine (s_WideOf _ _).mono ?_; rintro e w2 ⟨rfl, rfl⟩
  rw [hwd]
  go_wp2_with (at_builtin; refine wpList_append_sl _ rfl (.tmp 51) (.tmp 70) 22 rfl w.heap.size 5 i0 (.int .u8 0) 1 1 Tryz.underlying22 hi hz0 hz1 hz2 rfl (by decide) (.slice A1 n c1) n (u8s b) rfl (ho1.alloc _) (w1.heap.size + 1) (some ⟨w1.heap.size, 0, none⟩) 4 4 (u8s [UInt8.ofNat (240 + r.toNat / 262144), UInt8.ofNat (128 + r.toNat / 4096 % 64), UInt8.ofNat (128 + r.toNat / 64 % 64), UInt8.ofNat (128 + r.toNat % 64)]) rfl (by exact (Sl.congr (u8s_of4 (by omega) (by omega) (by omega) (by omega) (by omega) (by omega) (by omega) (by omega)) (Sl.lit w1 5 #[_, _, _, _] 1 4 rfl (by decide) _ (Nat.lt_succ_self _)))) (u8s_one _) (by unfold maxLen; omega) (by omega) (by have := hb1.size; simp; omega) ?_; intro A2 c2 w2 ho2 hg2 _)
  have hb2 : Below w.heap.size w w2 := below_append (hb1.alloc hb1.size _) (ho1.alloc _) (Nat.le_refl _) (by have := hb1.size; simp; omega) hg2
  clear hg2 ho1 hb1
  go_wp2_with fail
  go_ret
  exact ⟨A2, c2, rfl, by rw [HEN.out, u8s_append]; exact ho2, hb2⟩
set_option maxHeartbeats 1600000 in
theorem s_PutRune0 (A : Option Addr) (n c : Nat) (b : List UInt8) (r : Int) (w : World) (B : Nat) (h : Sl w B 1 A n c (u8s b)) (hB : B ≤ w.heap.size) (hn : n ≤ 1099511627776) (h0 : runeOk r = false) :
    Calls Tryz.prog 92 #[.slice A n c, .int .i64 r] w fun e w' => ∃ A' c', e = .returned (.slice A' (n + 0) c') ∧
      w'.ownsRow w.heap.size 5 1 (.slice A' (n + 0) c') (n + 0) (u8s (b ++ encR r)) ∧ Below w.heap.size w w' := by
  obtain ⟨i0, hi, hz0, hz1, hz2⟩ := info_parts info_u8h
  have hwd : wideOf r = 0 := by unfold wideOf; rw [h0]; rfl
  have hen : encR r = [] := by unfold encR; rw [h0]; rfl
  have HEN := Lib.hid hen; clear hen h0
  have ho0 := World.ownsRow_lit (base := w.heap.size) (e := 5) (size := 1) w #[] 0 (Nat.le_refl _) (by decide) rfl
  go_enter Tryz.func92, Tryz.ntmps92
  go_wp2_with (at_builtin; refine wpList_append_sl _ rfl (.tmp 6) (.tmp 7) 22 rfl w.heap.size 5 i0 (.int .u8 0) 1 1 Tryz.underlying22 hi hz0 hz1 hz2 rfl (by decide) (.slice (some ⟨w.heap.size, 0, none⟩) 0 0) 0 [] rfl ho0 B A n c (u8s b) rfl (h.alloc hB _) (u8s_one _) (by unfold maxLen; omega) (by omega) (by simp) ?_; intro A1 c1 w1 ho1 hg1 _)
  have hb1 : Below w.heap.size w w1 := below_append (Below.one w _) ho0 (Nat.le_refl _) (by simp) hg1
  simp only [Nat.zero_add, List.nil_append] at ho1
  clear hg1 ho0
  refine (s_WideOf _ _).mono ?_; rintro e w2 ⟨rfl, rfl⟩
  rw [hwd]
  go_wp2_with fail
  go_ret
  exact ⟨A1, c1, rfl, by rw [HEN.out, List.append_nil]; exact ho1, hb1⟩
theorem s_PutRune (A : Option Addr) (n c : Nat) (b : List UInt8) (r : Int) (w : World) (B : Nat) (h : Sl w B 1 A n c (u8s b)) (hB : B ≤ w.heap.size) (hn : n ≤ 1099511627776) :
    Calls Tryz.prog 92 #[.slice A n c, .int .i64 r] w fun e w' => ∃ A' n' c', e = .returned (.slice A' n' c') ∧ n' ≤ n + 4 ∧
      w'.ownsRow w.heap.size 5 1 (.slice A' n' c') n' (u8s (b ++ encR r)) ∧ Below w.heap.size w w' := by
  cases hr : runeOk r with
  | false => exact (s_PutRune0 A n c b r w B h hB hn hr).mono fun e w' ⟨A', c', h1, h2, h3⟩ => ⟨A', _, c', h1, by omega, h2, h3⟩
  | true =>
    have hr2 := runeOk_iff.1 hr
    by_cases h1 : r < 128
    · exact (s_PutRune1 A n c b r w B h hB hn (by omega) h1).mono fun e w' ⟨A', c', h1, h2, h3⟩ => ⟨A', _, c', h1, by omega, h2, h3⟩
    by_cases h2 : r < 2048
    · exact (s_PutRune2 A n c b r w B h hB hn (by omega) h2).mono fun e w' ⟨A', c', h1, h2, h3⟩ => ⟨A', _, c', h1, by omega, h2, h3⟩
    by_cases h3 : r < 65536
    · exact (s_PutRune3 A n c b r w B h hB hn (by omega) h3 (by omega)).mono fun e w' ⟨A', c', h1, h2, h3⟩ => ⟨A', _, c', h1, by omega, h2, h3⟩
    · exact (s_PutRune4 A n c b r w B h hB hn (by omega) (by omega)).mono fun e w' ⟨A', c', h1, h2, h3⟩ => ⟨A', _, c', h1, by omega, h2, h3⟩
end Go.Proofs.YtmnlkedacnemcaaGreatDoor

namespace Go.Proofs.YtmnlkedacnemcaaGreatDoor
open Go.RowKit

theorem own_mono {w : World} {base base' : Nat} {e : TypeId} {m : Nat} {v : Value} {n : Nat} {xs : List Value} (h : w.ownsRow base e m v n xs) (hb : base' ≤ base) : w.ownsRow base' e m v n xs := by
  refine ⟨h.1, ?_⟩
  rcases h.2 with h1 | ⟨g, cap, cur, h1, h2, h3⟩
  · exact .inl h1
  · exact .inr ⟨g, cap, cur, h1, Nat.le_trans hb h2, h3⟩
def i64s (l : List Int) : List Value := l.map (Value.int .i64)
theorem i64s_get (l : List Int) (k : Nat) (h : k < l.length) : (i64s l)[k]? = some (.int .i64 l[k]) := by simp [i64s, h]
theorem Sl.int {w : World} {B n c : Nat} {A : Option Addr} {l : List Int} (h : Sl w B 1 A n c (i64s l)) {k : Nat} (hk : k < n) :
    ∃ g o, A = some ⟨g, o, none⟩ ∧ g < B ∧ ∃ hb : k < l.length, w.cell? ⟨g, o + k, none⟩ = some (.int .i64 l[k]) := by
  obtain ⟨g, o, e, hg, hc⟩ := h.at_ (by omega)
  have hl : k < l.length := by have := h.len; simp [i64s] at this; omega
  exact ⟨g, o, e, hg, hl, hc k _ (i64s_get l k hl)⟩
theorem Sl.ilen {w : World} {B n c : Nat} {A : Option Addr} {l : List Int} (h : Sl w B 1 A n c (i64s l)) : l.length = n := by have := h.len; simp [i64s] at this; omega
def encAll (l : List Int) : List UInt8 := l.flatMap encR
theorem encAll_snoc (l : List Int) (x : Int) : encAll (l ++ [x]) = encAll l ++ encR x := by simp [encAll, List.flatMap_append]
theorem encAll_len (l : List Int) : (encAll l).length ≤ 4 * l.length := by
  induction l with
  | nil => simp [encAll]
  | cons a l ih => have := encR_len a; simp only [encAll, List.flatMap_cons, List.length_append, List.length_cons] at ih ⊢; omega
set_option maxHeartbeats 800000 in
theorem s_FromRunes (A : Option Addr) (n c : Nat) (l : List Int) (w : World) (B : Nat) (h : Sl w B 1 A n c (i64s l)) (hB : B ≤ w.heap.size) (hn : n ≤ 200000000000) :
    Calls Tryz.prog 77 #[.slice A n c] w fun e w' => e = .returned (.string ⟨(encAll l).toArray⟩) ∧ Below w.heap.size w w' := by
  have hl := h.ilen
  go_enter Tryz.func77, Tryz.ntmps77
  go_wp2_with fail
  go_loopg [3, 4] n (fun k v i wr => ∃ (j m c : Nat) (A : Option Addr), j + k = n ∧ i = .int .i64 j ∧ v = .slice A m c ∧ m ≤ 4 * j ∧ wr.ownsRow w.heap.size 5 1 (.slice A m c) m (u8s (encAll (l.take j))) ∧ Below w.heap.size w wr)
  case atStart => exact ⟨0, 0, 0, some ⟨w.heap.size, 0, none⟩, by omega, rfl, rfl, by omega, World.ownsRow_lit w #[] 0 (Nat.le_refl _) (by decide) rfl, Below.one _ _⟩
  case round =>
    obtain ⟨j, m, c', A', hjk, rfl, rfl, hm, hown, hb⟩ := hrel
    by_cases hlt : j < n
    · obtain ⟨k, rfl⟩ : ∃ k, gk = k + 1 := ⟨gk - 1, by omega⟩
      have HJK : j + k + 1 = n := by omega
      have hjk' := Lib.hid HJK; clear hjk HJK
      obtain ⟨g, o, rfl, hg, hjl, hc⟩ := (h.below (hb.mono hB)).int hlt
      go_wp2_with (go_at_call 92; refine (s_PutRune _ _ _ (encAll (l.take j)) _ _ _ (Sl.of_own hown) (Nat.le_refl _) (by omega)).mono ?_; rintro e w2 ⟨A2, m2, c2, rfl, hm2, ho2, hb2⟩)
      go_roundg k
      case measure => omega
      case rel =>
        refine ⟨j + 1, m2, c2, A2, by have := hjk'.out; omega, by go_num, rfl, by omega, ?_, hb.up hb2⟩
        rw [List.take_succ_eq_append_getElem hjl, encAll_snoc]
        exact own_mono ho2 hb.size
    · have hj : j = n := by omega
      have Hj := Lib.hid hj
      clear hj hjk
      have hcv := run_str_sl (P := Tryz.prog) 22 5 Tryz.underlying22 Tryz.underlying5 (Sl.of_own hown) 9 Tryz.underlying9
      go_wp2
      go_ret
      refine ⟨ret_str ?_, hb⟩
      rw [List.take_of_length_le (by have := Hj.out; omega)]
end Go.Proofs.YtmnlkedacnemcaaGreatDoor

namespace Go.Proofs.YtmnlkedacnemcaaGreatDoor
open Go.RowKit

theorem info_u8 : (Tryz.prog.info? 5).map (fun i => (i.zero, i.size, i.bytes)) = some (some (.int .u8 0), 1, 1) := by kernel_rfl

end Go.Proofs.YtmnlkedacnemcaaGreatDoor
