/- Numbers of several bytes: GetBig. -/
import Derived.Test.YtmelnaidjgpclaaDoorHead
import Derived.Test.YtmelnaidjgpclaaDoorBs
import Derived.Laws.BitsAllLaws
set_option linter.unusedVariables false
set_option maxRecDepth 100000
set_option linter.unusedSimpArgs false
namespace Go.Proofs.YtmelnaidjgpclaaDoor
open Go.RowKit

def bigN (l : List UInt8) : Nat := l.foldl (fun a c => 256 * a + c.toNat) 0
theorem bigN_snoc (l : List UInt8) (c : UInt8) : bigN (l ++ [c]) = 256 * bigN l + c.toNat := by simp [bigN, List.foldl_append]
theorem bigN_lt (l : List UInt8) : bigN l < 256 ^ l.length := by
  have h : ∀ (l : List UInt8) (a m : Nat), a < 256 ^ m → l.foldl (fun a c => 256 * a + c.toNat) a < 256 ^ (m + l.length) := by
    intro l
    induction l with
    | nil => intro a m h; simpa using h
    | cons c l ih =>
      intro a m h
      have hc := c.toNat_lt
      have := ih (256 * a + c.toNat) (m + 1) (by rw [Nat.pow_succ]; omega)
      rw [List.foldl_cons, List.length_cons, show m + (l.length + 1) = m + 1 + l.length by omega]
      exact this
  have := h l 0 0 (by decide)
  rw [Nat.zero_add] at this
  exact this
/-- The bytes from 'at' on, k of them. -/
def part (b : List UInt8) (i k : Nat) : List UInt8 := (b.drop i).take k
theorem part_succ {b : List UInt8} {i k : Nat} (h : i + k < b.length) : part b i (k + 1) = part b i k ++ [b[i + k]] := by
  unfold part
  rw [List.take_succ_eq_append_getElem (by simp; omega), List.getElem_drop]
theorem part_len {b : List UInt8} {i k : Nat} (h : i + k ≤ b.length) : (part b i k).length = k := by
  unfold part; simp; omega
theorem bigN_mono {b : List UInt8} {i : Nat} : ∀ k m, i + k + m ≤ b.length → bigN (part b i k) ≤ bigN (part b i (k + m)) := by
  intro k m
  induction m with
  | zero => intro _; exact Nat.le_refl _
  | succ m ih =>
    intro h
    have := ih (by omega)
    rw [show k + (m + 1) = k + m + 1 by omega, part_succ (by omega), bigN_snoc]
    omega
def bigOk (b : List UInt8) (i w : Int) : Bool := isW w && decide (0 ≤ i ∧ i ≤ b.length - w)
def getBig (b : List UInt8) (i w : Int) : Int × Bool :=
  if bigOk b i w = true ∧ bigN (part b i.toNat w.toNat) ≤ 1000000000000000 then ((bigN (part b i.toNat w.toNat) : Int), true) else (0, false)
theorem s_l3Width (v : Int) (w : World) :
    Calls Tryd.prog 71 #[.int .i64 v] w fun e w' => e = .returned (.bool (isW v)) ∧ w = w' := by
  by_cases hv : v = 1 ∨ v = 2 ∨ v = 4 ∨ v = 8
  · rcases hv with rfl | rfl | rfl | rfl
    all_goals
      go_enter Tryd.func71, Tryd.ntmps71
      go_wp2_with fail
      go_ret
      exact ⟨ret_bool (by decide), rfl⟩
  · have h1 : (v == 1) = false := by simp; omega
    have h2 : (v == 2) = false := by simp; omega
    have h4 : (v == 4) = false := by simp; omega
    have h8 : (v == 8) = false := by simp; omega
    go_enter Tryd.func71, Tryd.ntmps71
    go_wp2_with fail
    go_ret
    exact ⟨ret_bool (by unfold isW; rw [eq_comm, decide_eq_false_iff_not]; omega), rfl⟩
theorem i_exist (A : Option Addr) (m c : Nat) (i n : Int) (w : World) (hm : m ≤ 9223372036854775807) (hn : -9223372036854775808 ≤ n ∧ n ≤ 9223372036854775807) :
    Calls Tryd.prog 62 #[.slice A m c, .int .i64 i, .int .i64 n] w fun e w' => e = .returned (.bool (inR n 0 m && inR i 0 (m - n))) ∧ w = w' := by
  cases h1 : inR n 0 m
  · go_enter Tryd.func62, Tryd.ntmps62
    go_wp2_with (go_at_call 66; refine (i_within _ _ _ _).mono ?_; rintro e w' ⟨rfl, rfl⟩)
    go_ret
    exact ⟨rfl, rfl⟩
  · have h2 := inR_iff.1 h1
    go_enter Tryd.func62, Tryd.ntmps62
    go_wp2_with (go_at_call 66; refine (i_within _ _ _ _).mono ?_; rintro e w' ⟨rfl, rfl⟩)
    go_ret
    exact ⟨by simp, rfl⟩
theorem getBig_no {b : List UInt8} {i w : Int} (h : bigOk b i w = false) : getBig b i w = (0, false) := by simp [getBig, h]
theorem getBig_big {b : List UInt8} {i w : Int} (h : ¬ bigN (part b i.toNat w.toNat) ≤ 1000000000000000) : getBig b i w = (0, false) := by simp [getBig, h]
theorem getBig_yes {b : List UInt8} {i w : Int} (h : bigOk b i w = true) (h2 : bigN (part b i.toNat w.toNat) ≤ 1000000000000000) : getBig b i w = ((bigN (part b i.toNat w.toNat) : Int), true) := by simp [getBig, h, h2]
set_option maxHeartbeats 1600000 in
theorem s_GetBig (A : Option Addr) (m c : Nat) (b : List UInt8) (i wd : Int) (w : World) (B : Nat) (h : Sl w B 1 A m c (u8s b)) (hm : m ≤ 1048576) (hi : -9223372036854775808 ≤ i ∧ i ≤ 9223372036854775807) :
    Calls Tryd.prog 51 #[.slice A m c, .int .i64 i, .int .i64 wd] w fun e w' => e = .returned (.tuple #[.int .i64 (getBig b i wd).1, .bool (getBig b i wd).2]) ∧ w = w' := by
  have hl := h.blen
  cases hw : isW wd
  · have HG := Lib.hid (getBig_no (b := b) (i := i) (w := wd) (by simp [bigOk, hw]))
    go_enter Tryd.func51, Tryd.ntmps51
    go_wp2_with (go_at_call 71; refine (s_l3Width _ _).mono ?_; rintro e w' ⟨rfl, rfl⟩)
    exact bodyPost_ret (v := .tuple #[.int .i64 0, .bool false]) (by simp [results, Tryd.results51, go_sem]) rfl ⟨by rw [HG.out], rfl⟩
  · have hw2 : wd = 1 ∨ wd = 2 ∨ wd = 4 ∨ wd = 8 := of_decide_eq_true hw
    by_cases hr : 0 ≤ i ∧ i ≤ m - wd
    · obtain ⟨j, rfl⟩ := Int.eq_ofNat_of_zero_le hr.1
      obtain ⟨v, rfl⟩ := Int.eq_ofNat_of_zero_le (show 0 ≤ wd by omega)
      have hv : v = 1 ∨ v = 2 ∨ v = 4 ∨ v = 8 := by omega
      have hjv : j + v ≤ m := by omega
      have hok : bigOk b j v = true := by simp only [bigOk, hw, Bool.true_and, decide_eq_true_eq]; omega
      have HOK := Lib.hid hok
      have HV := Lib.hid hv
      have hv8 : v ≤ 8 := by omega
      clear hv hw2 hok hr
      go_enter Tryd.func51, Tryd.ntmps51
      go_wp2_with (go_at_call 71; refine (s_l3Width _ _).mono ?_; rintro e w' ⟨rfl, rfl⟩)
      go_loop [8, 9] (fun x y => ∃ k : Nat, k ≤ v ∧ x = .int .i64 (bigN (part b j k) : Nat) ∧ bigN (part b j k) ≤ 256000000000000255 ∧ y = .int .i64 k) (fun x y => v - (intOf y).toNat)
      case atStart => exact ⟨0, Nat.zero_le _, by simp [part, bigN], by simp [part, bigN], rfl⟩
      case round =>
        obtain ⟨k, hk, rfl, hkb, rfl⟩ := hrel
        by_cases hlt : k < v
        · by_cases hbig : bigN (part b j k) ≤ 1000000000000000
          · obtain ⟨g, o, rfl, hg, hkl, hc⟩ := h.byte (k := j + k) (by omega)
            have hps := part_succ (b := b) (i := j) (k := k) (by omega)
            have hc8 := (b[j + k]).toNat_lt
            go_wp2
            go_round
            case rel => exact ⟨k + 1, by omega, by rw [hps, bigN_snoc]; go_num, by rw [hps, bigN_snoc]; omega, by go_num⟩
            case measure => simp [intOf]; omega
          · have hmo := bigN_mono (b := b) (i := j) k (v - k) (by omega)
            rw [show k + (v - k) = v by omega] at hmo
            have HG := Lib.hid (getBig_big (b := b) (i := j) (w := v) (by simp; omega))
            go_wp2
            exact bodyPost_ret (v := .tuple #[.int .i64 0, .bool false]) (by simp [results, Tryd.results51, go_sem]) rfl ⟨by rw [HG.out], rfl⟩
        · have hkv : k = v := by omega
          subst hkv
          by_cases hbig : bigN (part b j k) ≤ 1000000000000000
          · have HG := Lib.hid (getBig_yes (b := b) (i := j) (w := k) HOK.out (by simpa using hbig))
            go_wp2
            exact bodyPost_ret (v := .tuple #[.int .i64 (bigN (part b j k)), .bool true]) (by simp [results, Tryd.results51, go_sem]) rfl ⟨by rw [HG.out]; rfl, rfl⟩
          · have HG := Lib.hid (getBig_big (b := b) (i := j) (w := k) (by simpa using hbig))
            go_wp2
            exact bodyPost_ret (v := .tuple #[.int .i64 0, .bool false]) (by simp [results, Tryd.results51, go_sem]) rfl ⟨by rw [HG.out], rfl⟩
    · have HG := Lib.hid (getBig_no (b := b) (i := i) (w := wd) (by simp only [bigOk, hw, Bool.true_and, decide_eq_false_iff_not]; omega))
      by_cases h0 : 0 ≤ i
      · have hgt : (m : Int) - wd < i := by omega
        go_enter Tryd.func51, Tryd.ntmps51
        go_wp2_with (go_at_call 71; refine (s_l3Width _ _).mono ?_; rintro e w' ⟨rfl, rfl⟩)
        exact bodyPost_ret (v := .tuple #[.int .i64 0, .bool false]) (by simp [results, Tryd.results51, go_sem]) rfl ⟨by rw [HG.out], rfl⟩
      · go_enter Tryd.func51, Tryd.ntmps51
        go_wp2_with (go_at_call 71; refine (s_l3Width _ _).mono ?_; rintro e w' ⟨rfl, rfl⟩)
        exact bodyPost_ret (v := .tuple #[.int .i64 0, .bool false]) (by simp [results, Tryd.results51, go_sem]) rfl ⟨by rw [HG.out], rfl⟩
theorem or_byte (n : Nat) (c : UInt8) (h : n < 72057594037927936) : bits .or .u64 (IntKind.u64.wrap ((n : Int) * 256)) (c.toNat : Int) = ((256 * n + c.toNat : Nat) : Int) := by
  have hc := c.toNat_lt
  rw [IntKind.wrap_u64, show ((n : Int) * 256) % 18446744073709551616 = ((256 * n : Nat) : Int) by omega, u64_or_nat _ _ (by omega) (by omega), ← Nat.two_pow_add_eq_or_of_lt (i := 8) (by omega) n]
set_option maxHeartbeats 1600000 in
theorem i_GetBig (A : Option Addr) (m c : Nat) (b : List UInt8) (i wd : Int) (w : World) (B : Nat) (h : Sl w B 1 A m c (u8s b)) (hm : m ≤ 1048576) (hi : -9223372036854775808 ≤ i ∧ i ≤ 9223372036854775807) (hwd : -9223372036854775808 ≤ wd ∧ wd ≤ 9223372036854775807) :
    Calls Tryd.prog 79 #[.slice A m c, .int .i64 i, .int .i64 wd] w fun e w' => e = .returned (.tuple #[.int .i64 (getBig b i wd).1, .bool (getBig b i wd).2]) ∧ w = w' := by
  have hl := h.blen
  cases hw : isW wd
  · have HG := Lib.hid (getBig_no (b := b) (i := i) (w := wd) (by simp [bigOk, hw]))
    go_enter Tryd.func79, Tryd.ntmps79
    go_wp2_with (first | (go_at_call 80; refine (i_isWidth _ _).mono ?_; rintro e w' ⟨rfl, rfl⟩) | (go_at_call 62; refine (i_exist _ _ _ _ _ _ (by omega) hwd).mono ?_; rintro e w' ⟨rfl, rfl⟩))
    exact bodyPost_ret (v := .tuple #[.int .i64 0, .bool false]) (by simp [results, Tryd.results79, go_sem]) rfl ⟨by rw [HG.out], rfl⟩
  · have hw2 : wd = 1 ∨ wd = 2 ∨ wd = 4 ∨ wd = 8 := of_decide_eq_true hw
    by_cases hr : 0 ≤ i ∧ i ≤ m - wd
    · obtain ⟨j, rfl⟩ := Int.eq_ofNat_of_zero_le hr.1
      obtain ⟨v, rfl⟩ := Int.eq_ofNat_of_zero_le (show 0 ≤ wd by omega)
      have hv : v = 1 ∨ v = 2 ∨ v = 4 ∨ v = 8 := by omega
      have hjv : j + v ≤ m := by omega
      have hok : bigOk b j v = true := by simp only [bigOk, hw, Bool.true_and, decide_eq_true_eq]; omega
      have HOK := Lib.hid hok
      have hv8 : v ≤ 8 := by omega
      have r1 : inR (v : Int) 0 m = true := inR_yes (by omega) (by omega)
      have r2 : inR (j : Int) 0 (m - v) = true := inR_yes (by omega) (by omega)
      have hjm : j ≤ m := by omega
      have hcap := h.cap
      have hjc : ¬ c = j := by omega
      obtain ⟨g, o, rfl, hg, hc⟩ := h.at_ (by omega)
      have hbl : ∀ k, k < v → ∃ hb : j + k < b.length, w.cell? ⟨g, o + j + k, none⟩ = some (.int .u8 (b[j + k].toNat : Int)) := fun k hk => ⟨by omega, by rw [Nat.add_assoc]; exact hc _ _ (u8s_get b _ (by omega))⟩
      have hlow : ∀ k, k < v → bigN (part b j k) < 72057594037927936 := fun k hk => by
        have h1 := bigN_lt (part b j k)
        rw [part_len (by omega)] at h1
        exact Nat.lt_of_lt_of_le h1 (Nat.le_trans (Nat.pow_le_pow_right (by decide) (show k ≤ 7 by omega)) (by decide))
      clear hv hw2 hok hr hc h
      go_enter Tryd.func79, Tryd.ntmps79
      go_wp2_with (first | (go_at_call 80; refine (i_isWidth _ _).mono ?_; rintro e w' ⟨rfl, rfl⟩) | (go_at_call 62; refine (i_exist _ _ _ _ _ _ (by omega) hwd).mono ?_; rintro e w' ⟨rfl, rfl⟩))
      go_loop [8, 28] (fun x y => ∃ k : Nat, k ≤ v ∧ x = .int .u64 (bigN (part b j k) : Nat) ∧ y = .int .i64 k) (fun x y => v - (intOf y).toNat)
      case atStart => exact ⟨0, Nat.zero_le _, by simp [part, bigN], rfl⟩
      case round =>
        obtain ⟨k, hk, rfl, rfl⟩ := hrel
        by_cases hlt : k < v
        · obtain ⟨hkl, hcell⟩ := hbl k hlt
          have hps := part_succ (b := b) (i := j) (k := k) (by omega)
          have hc8 := (b[j + k]).toNat_lt
          go_wp2
          go_round
          case rel => exact ⟨k + 1, by omega, by rw [or_byte _ _ (hlow k hlt), hps, bigN_snoc], by go_num⟩
          case measure => simp [intOf]; omega
        · have hkv : k = v := by omega
          have HK := Lib.hid hkv
          have hr0 := wrap64_as (n := (bigN (part b j k) : Nat))
          by_cases hbig : bigN (part b j k) ≤ 1000000000000000
          · have HG := Lib.hid (getBig_yes (b := b) (i := j) (w := v) HOK.out (by rw [← hkv]; simpa using hbig))
            clear hkv
            go_wp2
            exact bodyPost_ret (v := .tuple #[.int .i64 (bigN (part b j k)), .bool true]) (by simp [results, Tryd.results79, go_sem]; try omega) rfl ⟨by rw [HG.out, ← HK.out]; rfl, rfl⟩
          · have HG := Lib.hid (getBig_big (b := b) (i := j) (w := v) (by rw [← hkv]; simpa using hbig))
            clear hkv
            go_wp2
            exact bodyPost_ret (v := .tuple #[.int .i64 0, .bool false]) (by simp [results, Tryd.results79, go_sem]) rfl ⟨by rw [HG.out], rfl⟩
    · have hb2 : (inR wd 0 m && inR i 0 (m - wd)) = false := by
        rw [Bool.and_eq_false_iff]
        simp only [inR_not]
        omega
      have HG := Lib.hid (getBig_no (b := b) (i := i) (w := wd) (by simp only [bigOk, hw, Bool.true_and, decide_eq_false_iff_not]; omega))
      go_enter Tryd.func79, Tryd.ntmps79
      go_wp2_with (first | (go_at_call 80; refine (i_isWidth _ _).mono ?_; rintro e w' ⟨rfl, rfl⟩) | (go_at_call 62; refine (i_exist _ _ _ _ _ _ (by omega) hwd).mono ?_; rintro e w' ⟨rfl, rfl⟩))
      exact bodyPost_ret (v := .tuple #[.int .i64 0, .bool false]) (by simp [results, Tryd.results79, go_sem]) rfl ⟨by rw [HG.out], rfl⟩
/-- n as w bytes, the highest first. -/
def beI (w : Nat) (n : Int) : List UInt8 := (List.range w).map fun j => UInt8.ofNat (n / 2 ^ (8 * (w - 1 - j)) % 256).toNat
theorem beI_len (w : Nat) (n : Int) : (beI w n).length = w := by simp [beI]
theorem beI_get (w : Nat) (n : Int) (j : Nat) (h : j < w) : (beI w n)[j]'(by rw [beI_len]; exact h) = UInt8.ofNat (n / 2 ^ (8 * (w - 1 - j)) % 256).toNat := by simp [beI]
theorem beI_step (w : Nat) (n : Int) (j : Nat) (h : j < w) : (beI w n).take (j + 1) = (beI w n).take j ++ [UInt8.ofNat (n / 2 ^ (8 * (w - 1 - j)) % 256).toNat] := by
  rw [List.take_succ_eq_append_getElem (by rw [beI_len]; exact h), beI_get w n j h]
def putBig (n w : Int) : List UInt8 := if isW w = true ∧ fitsB n w = true then beI w.toNat n else []
theorem putBig_no {n w : Int} (h : isW w = false ∨ fitsB n w = false) : putBig n w = [] := by
  unfold putBig; rw [if_neg]; rintro ⟨h1, h2⟩; rw [h1, h2] at h; simp at h
theorem putBig_yes {n : Int} {v : Nat} (h1 : isW v = true) (h2 : fitsB n v = true) : putBig n v = beI v n := by
  unfold putBig; rw [if_pos ⟨h1, h2⟩]; rfl
theorem shift_no {n : Int} {v : Nat} (h0 : 0 ≤ n) (h1 : isW v = true) (h8 : v < 8) (hf : fitsB n v = false) : (n / 2 ^ (8 * v) != 0) = true := by
  have hv : v = 1 ∨ v = 2 ∨ v = 4 := by have := of_decide_eq_true (show decide ((v : Int) = 1 ∨ (v : Int) = 2 ∨ (v : Int) = 4 ∨ (v : Int) = 8) = true from h1); omega
  have hf := decide_eq_false_iff_not.1 hf
  rcases hv with rfl | rfl | rfl <;> simp <;> omega
theorem shift_yes {n : Int} {v : Nat} (h1 : isW v = true) (h8 : v < 8) (hf : fitsB n v = true) : (n / 2 ^ (8 * v) != 0) = false := by
  have hv : v = 1 ∨ v = 2 ∨ v = 4 := by have := of_decide_eq_true (show decide ((v : Int) = 1 ∨ (v : Int) = 2 ∨ (v : Int) = 4 ∨ (v : Int) = 8) = true from h1); omega
  have hf := of_decide_eq_true (show decide (0 ≤ n ∧ ((v : Int) = 8 ∨ ((v : Int) = 4 ∧ n < 4294967296) ∨ ((v : Int) = 2 ∧ n < 65536) ∨ ((v : Int) = 1 ∧ n < 256))) = true from hf)
  rcases hv with rfl | rfl | rfl <;> simp <;> omega
theorem i64_and255 (n : Int) : bits .and .i64 n 255 = n % 256 := by
  have h255 : (BitVec.ofInt 64 255).toNat = 2 ^ 8 - 1 := by decide
  have key : (BitVec.ofInt 64 n &&& BitVec.ofInt 64 255).toNat = (n % ((2 ^ 64 : Nat) : Int)).toNat % 2 ^ 8 := by
    rw [BitVec.toNat_and, BitVec.toNat_ofInt, h255, Nat.and_two_pow_sub_one_eq_mod]
  show IntKind.i64.wrap ((BitVec.ofInt 64 n &&& BitVec.ofInt 64 255).toNat : Nat) = n % 256
  rw [key, IntKind.wrap_i64]
  omega
end Go.Proofs.YtmelnaidjgpclaaDoor
