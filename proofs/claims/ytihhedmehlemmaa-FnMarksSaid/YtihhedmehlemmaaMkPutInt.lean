/- The marks' numbers: BitsOf of a width; putInt, putMany and the reference's. -/
import Derived.Test.YtihhedmehlemmaaMkBig
import Derived.Test.YtihhedmehlemmaaShelf
set_option linter.unusedVariables false
set_option maxRecDepth 100000
set_option linter.unusedSimpArgs false
namespace Go.Proofs.Ytihhedmehlemmaa
open Go.RowKit

def blen (w : Int) : Int := if w = 1 then 1 else if w = 2 then 2 else if w = 4 then 3 else 4
theorem widthFor_is {n : Int} (h : 0 ≤ n) : widthFor n = 1 ∨ widthFor n = 2 ∨ widthFor n = 4 ∨ widthFor n = 8 := by
  unfold widthFor; rw [if_neg (by omega)]; (repeat' split) <;> simp
def intB (n : Int) : List UInt8 :=
  if -32 ≤ n ∧ n ≤ 127 then [UInt8.ofNat (n % 256).toNat]
  else if 0 ≤ n then UInt8.ofNat (203 + blen (widthFor n)).toNat :: putBig n (widthFor n)
  else if -128 ≤ n then 208 :: beI 1 n else if -32768 ≤ n then 209 :: beI 2 n else if -2147483648 ≤ n then 210 :: beI 4 n else 211 :: beI 8 n
def manyB (few base short long n : Int) : List UInt8 :=
  if n < few then [UInt8.ofNat (base + n).toNat] else if n < 256 ∧ short ≠ 0 then UInt8.ofNat short.toNat :: putBig n 1 else UInt8.ofNat long.toNat :: putBig n 2
theorem intB_one {n : Int} (h : -32 ≤ n ∧ n ≤ 127) : intB n = [UInt8.ofNat (n % 256).toNat] := if_pos h
theorem intB_pos {n v : Int} (h : 127 < n) (hv : widthFor n = v) : intB n = [UInt8.ofNat (203 + blen v).toNat] ++ putBig n v := by
  unfold intB; rw [if_neg (by omega), if_pos (by omega), hv]; rfl
theorem intB_1 {n : Int} (h : -128 ≤ n) (h2 : n < -32) : intB n = [208] ++ beI 1 n := by unfold intB; rw [if_neg (by omega), if_neg (by omega), if_pos h]; rfl
theorem intB_2 {n : Int} (h : -32768 ≤ n) (h2 : n < -128) : intB n = [209] ++ beI 2 n := by unfold intB; rw [if_neg (by omega), if_neg (by omega), if_neg (by omega), if_pos h]; rfl
theorem intB_4 {n : Int} (h : -2147483648 ≤ n) (h2 : n < -32768) : intB n = [210] ++ beI 4 n := by unfold intB; rw [if_neg (by omega), if_neg (by omega), if_neg (by omega), if_neg (by omega), if_pos h]; rfl
theorem intB_8 {n : Int} (h2 : n < -2147483648) : intB n = [211] ++ beI 8 n := by unfold intB; rw [if_neg (by omega), if_neg (by omega), if_neg (by omega), if_neg (by omega), if_neg (by omega)]; rfl
theorem beI_1 (n : Int) : beI 1 n = [UInt8.ofNat (n % 256).toNat] := by simp [beI, List.range_succ]
theorem beI_2 (n : Int) : beI 2 n = [UInt8.ofNat (n / 256 % 256).toNat, UInt8.ofNat (n % 256).toNat] := by simp [beI, List.range_succ]
theorem beI_4 (n : Int) : beI 4 n = [UInt8.ofNat (n / 16777216 % 256).toNat, UInt8.ofNat (n / 65536 % 256).toNat, UInt8.ofNat (n / 256 % 256).toNat, UInt8.ofNat (n % 256).toNat] := by simp [beI, List.range_succ]
theorem putBig_mod2 (n : Int) : putBig (n % 65536) 2 = beI 2 n := by
  rw [show putBig (n % 65536) 2 = beI 2 (n % 65536) from putBig_yes (v := 2) (by decide) (by unfold fitsB; exact decide_eq_true (by omega)), beI_2, beI_2, show n % 65536 / 256 % 256 = n / 256 % 256 by omega, show n % 65536 % 256 = n % 256 by omega]
theorem putBig_mod4 (n : Int) : putBig (n % 4294967296) 4 = beI 4 n := by
  rw [show putBig (n % 4294967296) 4 = beI 4 (n % 4294967296) from putBig_yes (v := 4) (by decide) (by unfold fitsB; exact decide_eq_true (by omega)), beI_4, beI_4, show n % 4294967296 / 16777216 % 256 = n / 16777216 % 256 by omega, show n % 4294967296 / 65536 % 256 = n / 65536 % 256 by omega, show n % 4294967296 / 256 % 256 = n / 256 % 256 by omega, show n % 4294967296 % 256 = n % 256 by omega]
theorem i64_andp (n : Int) (k : Nat) (hk : k ≤ 62) (hw : (BitVec.ofInt 64 (2 ^ k - 1)).toNat = 2 ^ k - 1) : bits .and .i64 n (2 ^ k - 1) = n % 2 ^ k := by
  have key : (BitVec.ofInt 64 n &&& BitVec.ofInt 64 (2 ^ k - 1)).toNat = (n % ((2 ^ 64 : Nat) : Int)).toNat % 2 ^ k := by
    rw [BitVec.toNat_and, BitVec.toNat_ofInt, hw, Nat.and_two_pow_sub_one_eq_mod]
  show IntKind.i64.wrap ((BitVec.ofInt 64 n &&& BitVec.ofInt 64 (2 ^ k - 1)).toNat : Nat) = n % 2 ^ k
  have h2 : (2 : Int) ^ k = ((2 ^ k : Nat) : Int) := by simp
  have hd : ((2 ^ k : Nat) : Int) ∣ ((2 ^ 64 : Nat) : Int) := Int.natCast_dvd_natCast.2 (Nat.pow_dvd_pow 2 (by omega))
  rw [key, h2, Int.natCast_emod, Int.toNat_of_nonneg (Int.emod_nonneg _ (by decide)), Int.emod_emod_of_dvd _ hd, IntKind.wrap_i64]
  have hp : 2 ^ k ≤ 2 ^ 62 := Nat.pow_le_pow_right (by decide) hk
  have h0 : 0 < 2 ^ k := Nat.pos_of_ne_zero (by simp)
  have h3 := Int.emod_nonneg n (show ((2 ^ k : Nat) : Int) ≠ 0 by omega)
  have h4 := Int.emod_lt_of_pos n (show (0 : Int) < ((2 ^ k : Nat) : Int) by omega)
  omega
theorem i64_and65535 (n : Int) : bits .and .i64 n 65535 = n % 65536 := i64_andp n 16 (by decide) (by decide)
theorem i64_and32 (n : Int) : bits .and .i64 n 4294967295 = n % 4294967296 := i64_andp n 32 (by decide) (by decide)
theorem lit2 (w : World) (x y : Int) (h : 0 ≤ x ∧ x < 256) (h2 : 0 ≤ y ∧ y < 256) : Sl (w.alloc (.cells #[.int .u8 x, .int .u8 y] 5)) (w.heap.size + 1) 1 (some ⟨w.heap.size, 0, none⟩) 2 2 (u8s [UInt8.ofNat x.toNat, UInt8.ofNat y.toNat]) :=
  Sl.congr (u8s_of2 (m1 := x.toNat) (m2 := y.toNat) (by omega) (by omega) (by omega) (by omega)) (Sl.lit w 5 #[_, _] 1 2 rfl (by decide) _ (Nat.lt_succ_self _))
theorem lit3 (w : World) (x y z : Int) (h : 0 ≤ x ∧ x < 256) (h2 : 0 ≤ y ∧ y < 256) (h3 : 0 ≤ z ∧ z < 256) : Sl (w.alloc (.cells #[.int .u8 x, .int .u8 y, .int .u8 z] 5)) (w.heap.size + 1) 1 (some ⟨w.heap.size, 0, none⟩) 3 3 (u8s [UInt8.ofNat x.toNat, UInt8.ofNat y.toNat, UInt8.ofNat z.toNat]) :=
  Sl.congr (u8s_of3 (m1 := x.toNat) (m2 := y.toNat) (m3 := z.toNat) (by omega) (by omega) (by omega) (by omega) (by omega) (by omega)) (Sl.lit w 5 #[_, _, _] 1 3 rfl (by decide) _ (Nat.lt_succ_self _))
theorem i_BitsOf (v : Int) (w : World) (hv : v = 1 ∨ v = 2 ∨ v = 4 ∨ v = 8) : Calls Try.prog 80 #[.int .i64 v] w fun e w' => e = .returned (.int .i64 (blen v)) ∧ w = w' := by
  rcases hv with rfl | rfl | rfl | rfl
  all_goals
    have hb : inR 1 0 1000000000000000 = true := by decide
    have hb2 : inR 2 0 1000000000000000 = true := by decide
    have hb4 : inR 4 0 1000000000000000 = true := by decide
    have hb8 : inR 8 0 1000000000000000 = true := by decide
    go_enter Try.func80, Try.ntmps80
    go_wp2_with (first | (go_at_call 50; refine (i_within _ _ _ _).mono ?_; rintro e w' ⟨rfl, rfl⟩) | (go_at_call 100; refine (Try.bits_Len _ _ (by decide) (by decide)).mono ?_; rintro e w' ⟨rfl, rfl⟩))
    go_ret
    exact ⟨ret_int (by decide), rfl⟩
theorem s_BitsOf (v : Int) (w : World) (hv : v = 1 ∨ v = 2 ∨ v = 4 ∨ v = 8) : Calls Try.prog 86 #[.int .i64 v] w fun e w' => e = .returned (.int .i64 (blen v)) ∧ w = w' := by
  rcases hv with rfl | rfl | rfl | rfl
  · have hb : inR 1 0 1000000000000000 = true := by decide
    go_enter Try.func86, Try.ntmps86
    go_wp2_with (go_at_call 53; refine (s_l1In _ _ _ _).mono ?_; rintro e w' ⟨rfl, rfl⟩)
    go_loop [3, 4] (fun x y => (x = .int .i64 0 ∧ y = .int .i64 1) ∨ (x = .int .i64 1 ∧ y = .int .i64 0)) (fun x y => (intOf y).toNat)
    case atStart => exact Or.inl ⟨rfl, rfl⟩
    case round =>
      rcases hrel with ⟨rfl, rfl⟩ | ⟨rfl, rfl⟩
      · go_wp2_with fail
        go_round
        case rel => simp
        case measure => simp [intOf]
      · go_wp2_with fail
        go_ret
        exact ⟨ret_int (by decide), rfl⟩
  · have hb : inR 2 0 1000000000000000 = true := by decide
    go_enter Try.func86, Try.ntmps86
    go_wp2_with (go_at_call 53; refine (s_l1In _ _ _ _).mono ?_; rintro e w' ⟨rfl, rfl⟩)
    go_loop [3, 4] (fun x y => (x = .int .i64 0 ∧ y = .int .i64 2) ∨ (x = .int .i64 1 ∧ y = .int .i64 1) ∨ (x = .int .i64 2 ∧ y = .int .i64 0)) (fun x y => (intOf y).toNat)
    case atStart => exact Or.inl ⟨rfl, rfl⟩
    case round =>
      rcases hrel with ⟨rfl, rfl⟩ | ⟨rfl, rfl⟩ | ⟨rfl, rfl⟩
      · go_wp2_with fail
        go_round
        case rel => simp
        case measure => simp [intOf]
      · go_wp2_with fail
        go_round
        case rel => simp
        case measure => simp [intOf]
      · go_wp2_with fail
        go_ret
        exact ⟨ret_int (by decide), rfl⟩
  · have hb : inR 4 0 1000000000000000 = true := by decide
    go_enter Try.func86, Try.ntmps86
    go_wp2_with (go_at_call 53; refine (s_l1In _ _ _ _).mono ?_; rintro e w' ⟨rfl, rfl⟩)
    go_loop [3, 4] (fun x y => (x = .int .i64 0 ∧ y = .int .i64 4) ∨ (x = .int .i64 1 ∧ y = .int .i64 2) ∨ (x = .int .i64 2 ∧ y = .int .i64 1) ∨ (x = .int .i64 3 ∧ y = .int .i64 0)) (fun x y => (intOf y).toNat)
    case atStart => exact Or.inl ⟨rfl, rfl⟩
    case round =>
      rcases hrel with ⟨rfl, rfl⟩ | ⟨rfl, rfl⟩ | ⟨rfl, rfl⟩ | ⟨rfl, rfl⟩
      · go_wp2_with fail
        go_round
        case rel => simp
        case measure => simp [intOf]
      · go_wp2_with fail
        go_round
        case rel => simp
        case measure => simp [intOf]
      · go_wp2_with fail
        go_round
        case rel => simp
        case measure => simp [intOf]
      · go_wp2_with fail
        go_ret
        exact ⟨ret_int (by decide), rfl⟩
  · have hb : inR 8 0 1000000000000000 = true := by decide
    go_enter Try.func86, Try.ntmps86
    go_wp2_with (go_at_call 53; refine (s_l1In _ _ _ _).mono ?_; rintro e w' ⟨rfl, rfl⟩)
    go_loop [3, 4] (fun x y => (x = .int .i64 0 ∧ y = .int .i64 8) ∨ (x = .int .i64 1 ∧ y = .int .i64 4) ∨ (x = .int .i64 2 ∧ y = .int .i64 2) ∨ (x = .int .i64 3 ∧ y = .int .i64 1) ∨ (x = .int .i64 4 ∧ y = .int .i64 0)) (fun x y => (intOf y).toNat)
    case atStart => exact Or.inl ⟨rfl, rfl⟩
    case round =>
      rcases hrel with ⟨rfl, rfl⟩ | ⟨rfl, rfl⟩ | ⟨rfl, rfl⟩ | ⟨rfl, rfl⟩ | ⟨rfl, rfl⟩
      · go_wp2_with fail
        go_round
        case rel => simp
        case measure => simp [intOf]
      · go_wp2_with fail
        go_round
        case rel => simp
        case measure => simp [intOf]
      · go_wp2_with fail
        go_round
        case rel => simp
        case measure => simp [intOf]
      · go_wp2_with fail
        go_round
        case rel => simp
        case measure => simp [intOf]
      · go_wp2_with fail
        go_ret
        exact ⟨ret_int (by decide), rfl⟩
set_option maxHeartbeats 1600000 in
theorem i_putInt (A : Option Addr) (m c : Nat) (b : List UInt8) (n : Int) (w : World) (lo : Nat) (h : BS w lo A m c b) (hlo : lo ≤ w.heap.size) (hm : m ≤ 274877906944) (hn : -1000000000000000 ≤ n ∧ n ≤ 1000000000000000) :
    Calls Try.prog 42 #[.slice A m c, .int .i64 n] w fun e w' => ∃ A' n' c', e = .returned (.slice A' n' c') ∧ BS w' lo A' n' c' (b ++ intB n) ∧ Below lo w w' := by
  by_cases h0 : -32 ≤ n ∧ n ≤ 127
  · have HI := Lib.hid (intB_one h0)
    have hb : inR n (-32) 127 = true := inR_yes h0.1 h0.2
    have ha := i64_and255 n
    go_enter Try.func42, Try.ntmps42
    go_wp2_with (first | (go_at_call 50; refine (i_within _ _ _ _).mono ?_; rintro e w' ⟨rfl, rfl⟩) | (at_builtin; refine app_u8 rfl _ _ rfl (h.alloc _) rfl (lit1 w _ (by omega)) rfl (by omega) (by simp <;> omega) ?_; intro A1 c1 w1 h1 hb1))
    go_ret
    exact ⟨_, _, _, rfl, by rw [HI.out]; exact h1, ((Below.one w _).mono hlo).trans hb1⟩
  have hb : inR n (-32) 127 = false := inR_no (by omega)
  by_cases hp : 127 < n
  · obtain ⟨v, hv⟩ : ∃ v, widthFor n = v := ⟨_, rfl⟩
    have HI := Lib.hid (intB_pos hp hv)
    have hv4 := widthFor_is (n := n) (by omega)
    rw [hv] at hv4
    have hw : Calls Try.prog 79 #[.int .i64 n] w fun e w' => e = .returned (.int .i64 v) ∧ w = w' := by
      rw [← hv]; exact i_WidthFor n w (by omega)
    have hbl : ∀ w1, Calls Try.prog 80 #[.int .i64 v] w1 fun e w' => e = .returned (.int .i64 (blen v)) ∧ w1 = w' := fun w1 => i_BitsOf v w1 hv4
    have hl : 1 ≤ blen v ∧ blen v ≤ 4 := by unfold blen; (repeat' split) <;> omega
    obtain ⟨q, hq⟩ : ∃ q, blen v = q := ⟨_, rfl⟩
    rw [hq] at HI hbl hl
    clear hq hv hv4 h0
    go_enter Try.func42, Try.ntmps42
    go_wp2_with (first | (go_at_call 50; refine (i_within _ _ _ _).mono ?_; rintro e w' ⟨rfl, rfl⟩) | (go_at_call 79; refine hw.mono ?_; rintro e w' ⟨rfl, rfl⟩) | (go_at_call 80; refine (hbl _).mono ?_; rintro e w' ⟨rfl, rfl⟩) | (at_builtin; refine app_u8 rfl _ _ rfl (h.alloc _) rfl (lit1 w _ (by omega)) rfl (by omega) (by simp <;> omega) ?_; intro A1 c1 w1 h1 hb1))
    refine (i_PutBig A1 (m + 1) c1 _ n v _ _ h1.sl (Nat.le_refl _) (by omega) (by omega)).mono ?_; rintro e w2 ⟨A2, n2, c2, rfl, h2, hb2⟩
    go_wp2_with fail
    go_ret
    exact ⟨_, _, _, rfl, by rw [HI.out, ← List.append_assoc]; exact (BS.mono (by rw [show (203 + q).toNat = (204 + q - 1).toNat by omega]; exact h2) (Nat.le_trans hlo (by have := hb1.size; simp at this; omega))), ((Below.one w _).mono hlo).trans (hb1.trans (hb2.mono (by have := hb1.size; simp at this; omega)))⟩
  by_cases hc : -128 ≤ n
  · have HI := Lib.hid (intB_1 hc (by omega))
    go_enter Try.func42, Try.ntmps42
    go_wp2_with (go_at_call 50; refine (i_within _ _ _ _).mono ?_; rintro e w' ⟨rfl, rfl⟩)
    go_loop [6] (fun x => x = .int .i64 1) (fun x => (8 - intOf x).toNat)
    case atStart => rfl
    case round =>
      rcases hrel with rfl
      · have hl1 : blen 1 = 1 := by decide
        have hbl : Calls Try.prog 80 #[.int .i64 1] w fun e w' => e = .returned (.int .i64 1) ∧ w = w' := by rw [← hl1]; exact i_BitsOf 1 w (by decide)
        go_wp2_with (first | (go_at_call 80; refine hbl.mono ?_; rintro e w' ⟨rfl, rfl⟩) | (at_builtin; refine app_u8 rfl _ _ rfl (h.alloc _) rfl (lit1 w _ (by omega)) rfl (by omega) (by simp <;> omega) ?_; intro A1 c1 w1 h1 hb1))
        go_loopw [0, 7] (fun x y wr => ∃ (k c' : Nat) (A' : Option Addr), k ≤ 1 ∧ x = .slice A' (m + 1 + k) c' ∧ y = .int .i64 (0 - k) ∧ BS wr lo A' (m + 1 + k) c' (b ++ [208] ++ (beI 1 n).take k) ∧ Below lo w wr) (fun x y _ => (intOf y + 1).toNat)
        case atStart => exact ⟨0, c1, A1, Nat.zero_le _, rfl, by simp, by rw [List.take_zero, List.append_nil]; exact h1, ((Below.one w _).mono hlo).trans hb1⟩
        case round =>
          obtain ⟨k, c', A', hk, rfl, rfl, ho, hb⟩ := hrel
          clear h1 hb1
          by_cases hlt : k < 1
          · have hst := beI_step 1 n k hlt
            go_wp2_with (at_builtin; refine app_u8 rfl _ _ rfl (ho.alloc _) rfl (lit1 wr _ (by omega)) rfl (by omega) (by have := hb.size; simp; omega) ?_; intro A2 c2 w2 h2 hb2)
            go_roundw
            case rel => (obtain rfl : k = 0 := by omega); exact ⟨1, c2, A2, by omega, rfl, by go_num, by rw [beI_1, List.take_of_length_le (by simp)]; simpa [beI_1] using h2, (hb.alloc (by have := hb.size; omega) _).trans hb2⟩
            case measure => simp [intOf]; omega
          · obtain rfl : k = 1 := by omega
            go_wp2_with fail
            go_ret
            rw [List.take_of_length_le (by rw [beI_len]; exact Nat.le_refl _)] at ho
            exact ⟨_, _, _, rfl, by rw [HI.out, ← List.append_assoc]; exact ho, hb⟩
  by_cases hc : -32768 ≤ n
  · have HI := Lib.hid (intB_2 hc (by omega))
    go_enter Try.func42, Try.ntmps42
    go_wp2_with (go_at_call 50; refine (i_within _ _ _ _).mono ?_; rintro e w' ⟨rfl, rfl⟩)
    go_loop [6] (fun x => x = .int .i64 1 ∨ x = .int .i64 2) (fun x => (8 - intOf x).toNat)
    case atStart => exact Or.inl rfl
    case round =>
      rcases hrel with rfl | rfl
      · go_wp2_with fail
        go_round
        case rel => simp
        case measure => simp [intOf]
      · have hl2 : blen 2 = 2 := by decide
        have hbl : Calls Try.prog 80 #[.int .i64 2] w fun e w' => e = .returned (.int .i64 2) ∧ w = w' := by rw [← hl2]; exact i_BitsOf 2 w (by decide)
        go_wp2_with (first | (go_at_call 80; refine hbl.mono ?_; rintro e w' ⟨rfl, rfl⟩) | (at_builtin; refine app_u8 rfl _ _ rfl (h.alloc _) rfl (lit1 w _ (by omega)) rfl (by omega) (by simp <;> omega) ?_; intro A1 c1 w1 h1 hb1))
        go_loopw [0, 7] (fun x y wr => ∃ (k c' : Nat) (A' : Option Addr), k ≤ 2 ∧ x = .slice A' (m + 1 + k) c' ∧ y = .int .i64 (1 - k) ∧ BS wr lo A' (m + 1 + k) c' (b ++ [209] ++ (beI 2 n).take k) ∧ Below lo w wr) (fun x y _ => (intOf y + 1).toNat)
        case atStart => exact ⟨0, c1, A1, Nat.zero_le _, rfl, by simp, by rw [List.take_zero, List.append_nil]; exact h1, ((Below.one w _).mono hlo).trans hb1⟩
        case round =>
          obtain ⟨k, c', A', hk, rfl, rfl, ho, hb⟩ := hrel
          clear h1 hb1
          by_cases hlt : k < 2
          · have hst := beI_step 2 n k hlt
            go_wp2_with (at_builtin; refine app_u8 rfl _ _ rfl (ho.alloc _) rfl (lit1 wr _ (by omega)) rfl (by omega) (by have := hb.size; simp; omega) ?_; intro A2 c2 w2 h2 hb2)
            go_roundw
            case rel => exact ⟨k + 1, c2, A2, by omega, rfl, by go_num, by rw [hst, ← List.append_assoc]; exact h2, (hb.alloc (by have := hb.size; omega) _).trans hb2⟩
            case measure => simp [intOf]; omega
          · obtain rfl : k = 2 := by omega
            go_wp2_with fail
            go_ret
            rw [List.take_of_length_le (by rw [beI_len]; exact Nat.le_refl _)] at ho
            exact ⟨_, _, _, rfl, by rw [HI.out, ← List.append_assoc]; exact ho, hb⟩
  by_cases hc : -2147483648 ≤ n
  · have HI := Lib.hid (intB_4 hc (by omega))
    go_enter Try.func42, Try.ntmps42
    go_wp2_with (go_at_call 50; refine (i_within _ _ _ _).mono ?_; rintro e w' ⟨rfl, rfl⟩)
    go_loop [6] (fun x => x = .int .i64 1 ∨ x = .int .i64 2 ∨ x = .int .i64 4) (fun x => (8 - intOf x).toNat)
    case atStart => exact Or.inl rfl
    case round =>
      rcases hrel with rfl | rfl | rfl
      · go_wp2_with fail
        go_round
        case rel => simp
        case measure => simp [intOf]
      · go_wp2_with fail
        go_round
        case rel => simp
        case measure => simp [intOf]
      · have hl4 : blen 4 = 3 := by decide
        have hbl : Calls Try.prog 80 #[.int .i64 4] w fun e w' => e = .returned (.int .i64 3) ∧ w = w' := by rw [← hl4]; exact i_BitsOf 4 w (by decide)
        go_wp2_with (first | (go_at_call 80; refine hbl.mono ?_; rintro e w' ⟨rfl, rfl⟩) | (at_builtin; refine app_u8 rfl _ _ rfl (h.alloc _) rfl (lit1 w _ (by omega)) rfl (by omega) (by simp <;> omega) ?_; intro A1 c1 w1 h1 hb1))
        go_loopw [0, 7] (fun x y wr => ∃ (k c' : Nat) (A' : Option Addr), k ≤ 4 ∧ x = .slice A' (m + 1 + k) c' ∧ y = .int .i64 (3 - k) ∧ BS wr lo A' (m + 1 + k) c' (b ++ [210] ++ (beI 4 n).take k) ∧ Below lo w wr) (fun x y _ => (intOf y + 1).toNat)
        case atStart => exact ⟨0, c1, A1, Nat.zero_le _, rfl, by simp, by rw [List.take_zero, List.append_nil]; exact h1, ((Below.one w _).mono hlo).trans hb1⟩
        case round =>
          obtain ⟨k, c', A', hk, rfl, rfl, ho, hb⟩ := hrel
          clear h1 hb1
          by_cases hlt : k < 4
          · have hst := beI_step 4 n k hlt
            go_wp2_with (at_builtin; refine app_u8 rfl _ _ rfl (ho.alloc _) rfl (lit1 wr _ (by omega)) rfl (by omega) (by have := hb.size; simp; omega) ?_; intro A2 c2 w2 h2 hb2)
            go_roundw
            case rel => exact ⟨k + 1, c2, A2, by omega, rfl, by go_num, by rw [hst, ← List.append_assoc]; exact h2, (hb.alloc (by have := hb.size; omega) _).trans hb2⟩
            case measure => simp [intOf]; omega
          · obtain rfl : k = 4 := by omega
            go_wp2_with fail
            go_ret
            rw [List.take_of_length_le (by rw [beI_len]; exact Nat.le_refl _)] at ho
            exact ⟨_, _, _, rfl, by rw [HI.out, ← List.append_assoc]; exact ho, hb⟩
  · have HI := Lib.hid (intB_8 (n := n) (by omega))
    go_enter Try.func42, Try.ntmps42
    go_wp2_with (go_at_call 50; refine (i_within _ _ _ _).mono ?_; rintro e w' ⟨rfl, rfl⟩)
    go_loop [6] (fun x => x = .int .i64 1 ∨ x = .int .i64 2 ∨ x = .int .i64 4 ∨ x = .int .i64 8) (fun x => (8 - intOf x).toNat)
    case atStart => exact Or.inl rfl
    case round =>
      rcases hrel with rfl | rfl | rfl | rfl
      · go_wp2_with fail
        go_round
        case rel => simp
        case measure => simp [intOf]
      · go_wp2_with fail
        go_round
        case rel => simp
        case measure => simp [intOf]
      · go_wp2_with fail
        go_round
        case rel => simp
        case measure => simp [intOf]
      · have hl8 : blen 8 = 4 := by decide
        have hbl : Calls Try.prog 80 #[.int .i64 8] w fun e w' => e = .returned (.int .i64 4) ∧ w = w' := by rw [← hl8]; exact i_BitsOf 8 w (by decide)
        go_wp2_with (first | (go_at_call 80; refine hbl.mono ?_; rintro e w' ⟨rfl, rfl⟩) | (at_builtin; refine app_u8 rfl _ _ rfl (h.alloc _) rfl (lit1 w _ (by omega)) rfl (by omega) (by simp <;> omega) ?_; intro A1 c1 w1 h1 hb1))
        go_loopw [0, 7] (fun x y wr => ∃ (k c' : Nat) (A' : Option Addr), k ≤ 8 ∧ x = .slice A' (m + 1 + k) c' ∧ y = .int .i64 (7 - k) ∧ BS wr lo A' (m + 1 + k) c' (b ++ [211] ++ (beI 8 n).take k) ∧ Below lo w wr) (fun x y _ => (intOf y + 1).toNat)
        case atStart => exact ⟨0, c1, A1, Nat.zero_le _, rfl, by simp, by rw [List.take_zero, List.append_nil]; exact h1, ((Below.one w _).mono hlo).trans hb1⟩
        case round =>
          obtain ⟨k, c', A', hk, rfl, rfl, ho, hb⟩ := hrel
          clear h1 hb1
          by_cases hlt : k < 8
          · have hst := beI_step 8 n k hlt
            go_wp2_with (at_builtin; refine app_u8 rfl _ _ rfl (ho.alloc _) rfl (lit1 wr _ (by omega)) rfl (by omega) (by have := hb.size; simp; omega) ?_; intro A2 c2 w2 h2 hb2)
            go_roundw
            case rel => exact ⟨k + 1, c2, A2, by omega, rfl, by go_num, by rw [hst, ← List.append_assoc]; exact h2, (hb.alloc (by have := hb.size; omega) _).trans hb2⟩
            case measure => simp [intOf]; omega
          · obtain rfl : k = 8 := by omega
            go_wp2_with fail
            go_ret
            rw [List.take_of_length_le (by rw [beI_len]; exact Nat.le_refl _)] at ho
            exact ⟨_, _, _, rfl, by rw [HI.out, ← List.append_assoc]; exact ho, hb⟩
set_option maxHeartbeats 1600000 in
theorem s_l15Int (A : Option Addr) (m c : Nat) (b : List UInt8) (n : Int) (w : World) (lo : Nat) (h : BS w lo A m c b) (hlo : lo ≤ w.heap.size) (hm : m ≤ 274877906944) (hn : -1000000000000000 ≤ n ∧ n ≤ 1000000000000000) :
    Calls Try.prog 47 #[.slice A m c, .int .i64 n] w fun e w' => ∃ A' n' c', e = .returned (.slice A' n' c') ∧ BS w' lo A' n' c' (b ++ intB n) ∧ Below lo w w' := by
  by_cases h0 : -32 ≤ n ∧ n ≤ 127
  · have HI := Lib.hid (intB_one h0)
    have hb : inR n (-32) 127 = true := inR_yes h0.1 h0.2
    have ha := i64_and255 n
    go_enter Try.func47, Try.ntmps47
    go_wp2_with (first | (go_at_call 53; refine (s_l1In _ _ _ _).mono ?_; rintro e w' ⟨rfl, rfl⟩) | (at_builtin; refine app_u8 rfl _ _ rfl (h.alloc _) rfl (lit1 w _ (by omega)) rfl (by omega) (by simp <;> omega) ?_; intro A1 c1 w1 h1 hb1))
    go_ret
    exact ⟨_, _, _, rfl, by rw [HI.out]; exact h1, ((Below.one w _).mono hlo).trans hb1⟩
  have hb : inR n (-32) 127 = false := inR_no (by omega)
  by_cases hp : 127 < n
  · obtain ⟨v, hv⟩ : ∃ v, widthFor n = v := ⟨_, rfl⟩
    have HI := Lib.hid (intB_pos hp hv)
    have hv4 := widthFor_is (n := n) (by omega)
    rw [hv] at hv4
    have hw : Calls Try.prog 85 #[.int .i64 n] w fun e w' => e = .returned (.int .i64 v) ∧ w = w' := by
      rw [← hv]; exact s_WidthFor n w
    have hbl : ∀ w1, Calls Try.prog 86 #[.int .i64 v] w1 fun e w' => e = .returned (.int .i64 (blen v)) ∧ w1 = w' := fun w1 => s_BitsOf v w1 hv4
    have hl : 1 ≤ blen v ∧ blen v ≤ 4 := by unfold blen; (repeat' split) <;> omega
    obtain ⟨q, hq⟩ : ∃ q, blen v = q := ⟨_, rfl⟩
    rw [hq] at HI hbl hl
    clear hq hv hv4 h0
    go_enter Try.func47, Try.ntmps47
    go_wp2_with (first | (go_at_call 53; refine (s_l1In _ _ _ _).mono ?_; rintro e w' ⟨rfl, rfl⟩) | (go_at_call 85; refine hw.mono ?_; rintro e w' ⟨rfl, rfl⟩) | (go_at_call 86; refine (hbl _).mono ?_; rintro e w' ⟨rfl, rfl⟩) | (at_builtin; refine app_u8 rfl _ _ rfl (h.alloc _) rfl (lit1 w _ (by omega)) rfl (by omega) (by simp <;> omega) ?_; intro A1 c1 w1 h1 hb1))
    refine (s_PutBig A1 (m + 1) c1 _ n v _ _ h1.sl (Nat.le_refl _) (by omega) (by omega)).mono ?_; rintro e w2 ⟨A2, n2, c2, rfl, h2, hb2⟩
    go_wp2_with fail
    go_ret
    exact ⟨_, _, _, rfl, by rw [HI.out, ← List.append_assoc]; exact (BS.mono (by exact h2) (Nat.le_trans hlo (by have := hb1.size; simp at this; omega))), ((Below.one w _).mono hlo).trans (hb1.trans (hb2.mono (by have := hb1.size; simp at this; omega)))⟩
  by_cases hc : -128 ≤ n
  · have HI := Lib.hid (intB_1 hc (by omega))
    have ha := i64_and255 n
    go_enter Try.func47, Try.ntmps47
    go_wp2_with (first | (go_at_call 53; refine (s_l1In _ _ _ _).mono ?_; rintro e w' ⟨rfl, rfl⟩) | (at_builtin; refine app_u8 rfl _ _ rfl (h.alloc _) rfl (lit2 w _ _ (by decide) (by omega)) rfl (by omega) (by simp <;> omega) ?_; intro A1 c1 w1 h1 hb1))
    go_ret
    exact ⟨_, _, _, rfl, by rw [HI.out, beI_1]; exact h1, ((Below.one w _).mono hlo).trans hb1⟩
  by_cases hc2 : -32768 ≤ n
  · have HI := Lib.hid (intB_2 hc2 (by omega))
    have ha := i64_and65535 n
    have hr : 0 ≤ n % 65536 ∧ n % 65536 < 65536 := by omega
    go_enter Try.func47, Try.ntmps47
    go_wp2_with (first | (go_at_call 53; refine (s_l1In _ _ _ _).mono ?_; rintro e w' ⟨rfl, rfl⟩) | (at_builtin; refine app_u8 rfl _ _ rfl (h.alloc _) rfl (lit1 w _ (by decide)) rfl (by omega) (by simp <;> omega) ?_; intro A1 c1 w1 h1 hb1))
    refine (s_PutBig A1 (m + 1) c1 _ (n % 65536) 2 _ _ h1.sl (Nat.le_refl _) (by omega) (by omega)).mono ?_; rintro e w2 ⟨A2, n2, c2, rfl, h2, hb2⟩
    go_wp2_with fail
    go_ret
    exact ⟨_, _, _, rfl, by rw [HI.out, ← List.append_assoc, ← putBig_mod2]; exact h2.mono (Nat.le_trans hlo (by have := hb1.size; simp at this; omega)), ((Below.one w _).mono hlo).trans (hb1.trans (hb2.mono (by have := hb1.size; simp at this; omega)))⟩
  by_cases hc4 : -2147483648 ≤ n
  · have HI := Lib.hid (intB_4 hc4 (by omega))
    have ha := i64_and32 n
    have hr : 0 ≤ n % 4294967296 ∧ n % 4294967296 < 4294967296 := by omega
    go_enter Try.func47, Try.ntmps47
    go_wp2_with (first | (go_at_call 53; refine (s_l1In _ _ _ _).mono ?_; rintro e w' ⟨rfl, rfl⟩) | (at_builtin; refine app_u8 rfl _ _ rfl (h.alloc _) rfl (lit1 w _ (by decide)) rfl (by omega) (by simp <;> omega) ?_; intro A1 c1 w1 h1 hb1))
    refine (s_PutBig A1 (m + 1) c1 _ (n % 4294967296) 4 _ _ h1.sl (Nat.le_refl _) (by omega) (by omega)).mono ?_; rintro e w2 ⟨A2, n2, c2, rfl, h2, hb2⟩
    go_wp2_with fail
    go_ret
    exact ⟨_, _, _, rfl, by rw [HI.out, ← List.append_assoc, ← putBig_mod4]; exact h2.mono (Nat.le_trans hlo (by have := hb1.size; simp at this; omega)), ((Below.one w _).mono hlo).trans (hb1.trans (hb2.mono (by have := hb1.size; simp at this; omega)))⟩
  · have HI := Lib.hid (intB_8 (n := n) (by omega))
    have h255 : ∀ x, bits .and .i64 x 255 = x % 256 := i64_and255
    go_enter Try.func47, Try.ntmps47
    go_wp2_with (first | (go_at_call 53; refine (s_l1In _ _ _ _).mono ?_; rintro e w' ⟨rfl, rfl⟩) | (at_builtin; refine app_u8 rfl _ _ rfl (h.alloc _) rfl (lit1 w _ (by decide)) rfl (by omega) (by simp <;> omega) ?_; intro A1 c1 w1 h1 hb1))
    go_loopw [6, 7] (fun x y wr => ∃ (k c' : Nat) (A' : Option Addr), k ≤ 8 ∧ x = .slice A' (m + 1 + k) c' ∧ y = .int .i64 (7 - k) ∧ BS wr lo A' (m + 1 + k) c' (b ++ [211] ++ (beI 8 n).take k) ∧ Below lo w wr) (fun x y _ => (intOf y + 1).toNat)
    case atStart => exact ⟨0, c1, A1, Nat.zero_le _, rfl, by simp, by rw [List.take_zero, List.append_nil]; exact h1, ((Below.one w _).mono hlo).trans hb1⟩
    case round =>
      obtain ⟨k, c', A', hk, rfl, rfl, ho, hb⟩ := hrel
      clear h1 hb1
      by_cases hlt : k < 8
      · have hst := beI_step 8 n k hlt
        go_wp2_with (at_builtin; refine app_u8 rfl _ _ rfl (ho.alloc _) rfl (lit1 wr _ (by omega)) rfl (by omega) (by have := hb.size; simp; omega) ?_; intro A2 c2 w2 h2 hb2)
        go_roundw
        case rel => exact ⟨k + 1, c2, A2, by omega, rfl, by go_num, by rw [hst, ← List.append_assoc]; exact h2, (hb.alloc (by have := hb.size; omega) _).trans hb2⟩
        case measure => simp [intOf]; omega
      · obtain rfl : k = 8 := by omega
        go_wp2_with fail
        go_ret
        rw [List.take_of_length_le (by rw [beI_len]; exact Nat.le_refl _)] at ho
        exact ⟨_, _, _, rfl, by rw [HI.out, ← List.append_assoc]; exact ho, hb⟩
set_option maxHeartbeats 800000 in
theorem i_putMany (A : Option Addr) (m c : Nat) (b : List UInt8) (few base short long n : Int) (w : World) (lo : Nat) (h : BS w lo A m c b) (hlo : lo ≤ w.heap.size) (hm : m ≤ 274877906944) (hn : 0 ≤ n ∧ n ≤ 65535) (hf : 0 ≤ base ∧ base + few ≤ 256) (hs : 0 ≤ short ∧ short < 256) (hg : 0 ≤ long ∧ long < 256) :
    Calls Try.prog 44 #[.slice A m c, .int .i64 n, .int .i64 few, .int .i64 base, .int .i64 short, .int .i64 long] w fun e w' => ∃ A' n' c', e = .returned (.slice A' n' c') ∧ BS w' lo A' n' c' (b ++ manyB few base short long n) ∧ Below lo w w' := by
  by_cases h0 : n < few
  · have HI := Lib.hid (show manyB few base short long n = [UInt8.ofNat (base + n).toNat] from if_pos h0)
    go_enter Try.func44, Try.ntmps44
    go_wp2_with (at_builtin; refine app_u8 rfl _ _ rfl (h.alloc _) rfl (lit1 w _ (by omega)) rfl (by omega) (by simp <;> omega) ?_; intro A1 c1 w1 h1 hb1)
    go_ret
    exact ⟨_, _, _, rfl, by rw [HI.out]; exact h1, ((Below.one w _).mono hlo).trans hb1⟩
  by_cases h2 : n < 256 ∧ short ≠ 0
  · have HI := Lib.hid (show manyB few base short long n = [UInt8.ofNat short.toNat] ++ putBig n 1 from by unfold manyB; rw [if_neg h0, if_pos h2]; rfl)
    have hx : (short != 0) = true := by simpa using h2.2
    obtain ⟨h2a, h2b⟩ := h2
    have hx2 : 0 < short := by omega
    go_enter Try.func44, Try.ntmps44
    go_wp2_with (at_builtin; refine app_u8 rfl _ _ rfl (h.alloc _) rfl (lit1 w _ (by omega)) rfl (by omega) (by simp <;> omega) ?_; intro A1 c1 w1 h1 hb1)
    refine (i_PutBig A1 (m + 1) c1 _ n 1 _ _ h1.sl (Nat.le_refl _) (by omega) (by omega)).mono ?_; rintro e w2 ⟨A2, n2, c2, rfl, h2, hb2⟩
    go_wp2_with fail
    go_ret
    exact ⟨_, _, _, rfl, by rw [HI.out, ← List.append_assoc]; exact h2.mono (Nat.le_trans hlo (by have := hb1.size; simp at this; omega)), ((Below.one w _).mono hlo).trans (hb1.trans (hb2.mono (by have := hb1.size; simp at this; omega)))⟩
  · have HI := Lib.hid (show manyB few base short long n = [UInt8.ofNat long.toNat] ++ putBig n 2 from by unfold manyB; rw [if_neg h0, if_neg h2]; rfl)
    by_cases h3 : n < 256
    · have hs0 : short = 0 := by omega
      subst hs0
      go_enter Try.func44, Try.ntmps44
      go_wp2_with (at_builtin; refine app_u8 rfl _ _ rfl (h.alloc _) rfl (lit1 w _ (by omega)) rfl (by omega) (by simp <;> omega) ?_; intro A1 c1 w1 h1 hb1)
      refine (i_PutBig A1 (m + 1) c1 _ n 2 _ _ h1.sl (Nat.le_refl _) (by omega) (by omega)).mono ?_; rintro e w2 ⟨A2, n2, c2, rfl, h2, hb2⟩
      go_wp2_with fail
      go_ret
      exact ⟨_, _, _, rfl, by rw [HI.out, ← List.append_assoc]; exact h2.mono (Nat.le_trans hlo (by have := hb1.size; simp at this; omega)), ((Below.one w _).mono hlo).trans (hb1.trans (hb2.mono (by have := hb1.size; simp at this; omega)))⟩
    · clear h2
      go_enter Try.func44, Try.ntmps44
      go_wp2_with (at_builtin; refine app_u8 rfl _ _ rfl (h.alloc _) rfl (lit1 w _ (by omega)) rfl (by omega) (by simp <;> omega) ?_; intro A1 c1 w1 h1 hb1)
      refine (i_PutBig A1 (m + 1) c1 _ n 2 _ _ h1.sl (Nat.le_refl _) (by omega) (by omega)).mono ?_; rintro e w2 ⟨A2, n2, c2, rfl, h2, hb2⟩
      go_wp2_with fail
      go_ret
      exact ⟨_, _, _, rfl, by rw [HI.out, ← List.append_assoc]; exact h2.mono (Nat.le_trans hlo (by have := hb1.size; simp at this; omega)), ((Below.one w _).mono hlo).trans (hb1.trans (hb2.mono (by have := hb1.size; simp at this; omega)))⟩
set_option maxHeartbeats 800000 in
theorem s_l15Len (A : Option Addr) (m c : Nat) (b : List UInt8) (few base short long n : Int) (w : World) (lo : Nat) (h : BS w lo A m c b) (hlo : lo ≤ w.heap.size) (hm : m ≤ 274877906944) (hn : 0 ≤ n ∧ n ≤ 65535) (hf : 0 ≤ base ∧ base + few ≤ 256) (hs : 0 ≤ short ∧ short < 256) (hg : 0 ≤ long ∧ long < 256) :
    Calls Try.prog 49 #[.slice A m c, .int .i64 n, .int .i64 base, .int .i64 few, .int .i64 short, .int .i64 long] w fun e w' => ∃ A' n' c', e = .returned (.slice A' n' c') ∧ BS w' lo A' n' c' (b ++ manyB few base short long n) ∧ Below lo w w' := by
  by_cases h0 : n < few
  · have HI := Lib.hid (show manyB few base short long n = [UInt8.ofNat (base + n).toNat] from if_pos h0)
    go_enter Try.func49, Try.ntmps49
    go_wp2_with (at_builtin; refine app_u8 rfl _ _ rfl (h.alloc _) rfl (lit1 w _ (by omega)) rfl (by omega) (by simp <;> omega) ?_; intro A1 c1 w1 h1 hb1)
    go_ret
    exact ⟨_, _, _, rfl, by rw [HI.out]; exact h1, ((Below.one w _).mono hlo).trans hb1⟩
  by_cases h2 : n < 256 ∧ short ≠ 0
  · have HI := Lib.hid (show manyB few base short long n = [UInt8.ofNat short.toNat] ++ putBig n 1 from by unfold manyB; rw [if_neg h0, if_pos h2]; rfl)
    have hx : (short != 0) = true := by simpa using h2.2
    obtain ⟨h2a, h2b⟩ := h2
    have hx2 : 0 < short := by omega
    go_enter Try.func49, Try.ntmps49
    go_wp2_with (at_builtin; refine app_u8 rfl _ _ rfl (h.alloc _) rfl (lit1 w _ (by omega)) rfl (by omega) (by simp <;> omega) ?_; intro A1 c1 w1 h1 hb1)
    refine (s_PutBig A1 (m + 1) c1 _ n 1 _ _ h1.sl (Nat.le_refl _) (by omega) (by omega)).mono ?_; rintro e w2 ⟨A2, n2, c2, rfl, h2, hb2⟩
    go_wp2_with fail
    go_ret
    exact ⟨_, _, _, rfl, by rw [HI.out, ← List.append_assoc]; exact h2.mono (Nat.le_trans hlo (by have := hb1.size; simp at this; omega)), ((Below.one w _).mono hlo).trans (hb1.trans (hb2.mono (by have := hb1.size; simp at this; omega)))⟩
  · have HI := Lib.hid (show manyB few base short long n = [UInt8.ofNat long.toNat] ++ putBig n 2 from by unfold manyB; rw [if_neg h0, if_neg h2]; rfl)
    by_cases h3 : n < 256
    · have hs0 : short = 0 := by omega
      subst hs0
      go_enter Try.func49, Try.ntmps49
      go_wp2_with (at_builtin; refine app_u8 rfl _ _ rfl (h.alloc _) rfl (lit1 w _ (by omega)) rfl (by omega) (by simp <;> omega) ?_; intro A1 c1 w1 h1 hb1)
      refine (s_PutBig A1 (m + 1) c1 _ n 2 _ _ h1.sl (Nat.le_refl _) (by omega) (by omega)).mono ?_; rintro e w2 ⟨A2, n2, c2, rfl, h2, hb2⟩
      go_wp2_with fail
      go_ret
      exact ⟨_, _, _, rfl, by rw [HI.out, ← List.append_assoc]; exact h2.mono (Nat.le_trans hlo (by have := hb1.size; simp at this; omega)), ((Below.one w _).mono hlo).trans (hb1.trans (hb2.mono (by have := hb1.size; simp at this; omega)))⟩
    · clear h2
      go_enter Try.func49, Try.ntmps49
      go_wp2_with (at_builtin; refine app_u8 rfl _ _ rfl (h.alloc _) rfl (lit1 w _ (by omega)) rfl (by omega) (by simp <;> omega) ?_; intro A1 c1 w1 h1 hb1)
      refine (s_PutBig A1 (m + 1) c1 _ n 2 _ _ h1.sl (Nat.le_refl _) (by omega) (by omega)).mono ?_; rintro e w2 ⟨A2, n2, c2, rfl, h2, hb2⟩
      go_wp2_with fail
      go_ret
      exact ⟨_, _, _, rfl, by rw [HI.out, ← List.append_assoc]; exact h2.mono (Nat.le_trans hlo (by have := hb1.size; simp at this; omega)), ((Below.one w _).mono hlo).trans (hb1.trans (hb2.mono (by have := hb1.size; simp at this; omega)))⟩
end Go.Proofs.Ytihhedmehlemmaa
