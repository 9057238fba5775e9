/- Numbers of several bytes: GetBig. -/
import Derived.Test.YtmnlkedacnemcaaGreatDoorTwM10
import Derived.Test.YtmnlkedacnemcaaGreatDoorTwM4
import Derived.Laws.BitsAllLaws
set_option linter.unusedVariables false
set_option maxRecDepth 100000
set_option linter.unusedSimpArgs false
namespace Go.Proofs.YtmnlkedacnemcaaGreatDoor
open Go.RowKit

def bigN (l : List UInt8) : Nat := l.foldl (fun a c => 256 * a + c.toNat) 0
theorem bigN_snoc (l : List UInt8) (c : UInt8) : bigN (l ++ [c]) = 256 * bigN l + c.toNat := by simp [bigN, List.foldl_append]
theorem bigN_lt (l : List UInt8) : bigN l < 256 ^ l.length := by
  have h : ∀ (l : List UInt8) (a m : Nat), a < 256 ^ m → l.foldl (fun a c => 256 * a + c.toNat) a < 256 ^ (m + l.length) := by
    intro l
    induction l with
    | nil => intro a m h; simpa using h
    | cons c l ih =>
      intro a m h
      have hc := c.toNat_lt
      have := ih (256 * a + c.toNat) (m + 1) (by rw [Nat.pow_succ]; omega)
      rw [List.foldl_cons, List.length_cons, show m + (l.length + 1) = m + 1 + l.length by omega]
      exact this
  have := h l 0 0 (by decide)
  rw [Nat.zero_add] at this
  exact this
/-- The bytes from 'at' on, k of them. -/
def part (b : List UInt8) (i k : Nat) : List UInt8 := (b.drop i).take k
theorem part_succ {b : List UInt8} {i k : Nat} (h : i + k < b.length) : part b i (k + 1) = part b i k ++ [b[i + k]] := by
  unfold part
  rw [List.take_succ_eq_append_getElem (by simp; omega), List.getElem_drop]
theorem part_len {b : List UInt8} {i k : Nat} (h : i + k ≤ b.length) : (part b i k).length = k := by
  unfold part; simp; omega
theorem bigN_mono {b : List UInt8} {i : Nat} : ∀ k m, i + k + m ≤ b.length → bigN (part b i k) ≤ bigN (part b i (k + m)) := by
  intro k m
  induction m with
  | zero => intro _; exact Nat.le_refl _
  | succ m ih =>
    intro h
    have := ih (by omega)
    rw [show k + (m + 1) = k + m + 1 by omega, part_succ (by omega), bigN_snoc]
    omega
def bigOk (b : List UInt8) (i w : Int) : Bool := isW w && decide (0 ≤ i ∧ i ≤ b.length - w)
def getBig (b : List UInt8) (i w : Int) : Int × Bool :=
  if bigOk b i w = true ∧ bigN (part b i.toNat w.toNat) ≤ 1000000000000000 then ((bigN (part b i.toNat w.toNat) : Int), true) else (0, false)
theorem s_l3Width (v : Int) (w : World) :
    Calls Tryz.prog 82 #[.int .i64 v] w fun e w' => e = .returned (.bool (isW v)) ∧ w = w' := by
  by_cases hv : v = 1 ∨ v = 2 ∨ v = 4 ∨ v = 8
  · rcases hv with rfl | rfl | rfl | rfl
    all_goals
      go_enter Tryz.func82, Tryz.ntmps82
      go_wp2_with fail
      go_ret
      exact ⟨ret_bool (by decide), rfl⟩
  · have h1 : (v == 1) = false := by simp; omega
    have h2 : (v == 2) = false := by simp; omega
    have h4 : (v == 4) = false := by simp; omega
    have h8 : (v == 8) = false := by simp; omega
    go_enter Tryz.func82, Tryz.ntmps82
    go_wp2_with fail
    go_ret
    exact ⟨ret_bool (by unfold isW; rw [eq_comm, decide_eq_false_iff_not]; omega), rfl⟩
theorem getBig_no {b : List UInt8} {i w : Int} (h : bigOk b i w = false) : getBig b i w = (0, false) := by simp [getBig, h]
theorem getBig_big {b : List UInt8} {i w : Int} (h : ¬ bigN (part b i.toNat w.toNat) ≤ 1000000000000000) : getBig b i w = (0, false) := by simp [getBig, h]
theorem getBig_yes {b : List UInt8} {i w : Int} (h : bigOk b i w = true) (h2 : bigN (part b i.toNat w.toNat) ≤ 1000000000000000) : getBig b i w = ((bigN (part b i.toNat w.toNat) : Int), true) := by simp [getBig, h, h2]
theorem or_byte (n : Nat) (c : UInt8) (h : n < 72057594037927936) : bits .or .u64 (IntKind.u64.wrap ((n : Int) * 256)) (c.toNat : Int) = ((256 * n + c.toNat : Nat) : Int) := by
  have hc := c.toNat_lt
  rw [IntKind.wrap_u64, show ((n : Int) * 256) % 18446744073709551616 = ((256 * n : Nat) : Int) by omega, u64_or_nat _ _ (by omega) (by omega), ← Nat.two_pow_add_eq_or_of_lt (i := 8) (by omega) n]
/-- n as w bytes, the highest first. -/
def beI (w : Nat) (n : Int) : List UInt8 := (List.range w).map fun j => UInt8.ofNat (n / 2 ^ (8 * (w - 1 - j)) % 256).toNat
theorem beI_len (w : Nat) (n : Int) : (beI w n).length = w := by simp [beI]
theorem beI_get (w : Nat) (n : Int) (j : Nat) (h : j < w) : (beI w n)[j]'(by rw [beI_len]; exact h) = UInt8.ofNat (n / 2 ^ (8 * (w - 1 - j)) % 256).toNat := by simp [beI]
theorem beI_step (w : Nat) (n : Int) (j : Nat) (h : j < w) : (beI w n).take (j + 1) = (beI w n).take j ++ [UInt8.ofNat (n / 2 ^ (8 * (w - 1 - j)) % 256).toNat] := by
  rw [List.take_succ_eq_append_getElem (by rw [beI_len]; exact h), beI_get w n j h]
def putBig (n w : Int) : List UInt8 := if isW w = true ∧ fitsB n w = true then beI w.toNat n else []
theorem putBig_no {n w : Int} (h : isW w = false ∨ fitsB n w = false) : putBig n w = [] := by
  unfold putBig; rw [if_neg]; rintro ⟨h1, h2⟩; rw [h1, h2] at h; simp at h
theorem putBig_yes {n : Int} {v : Nat} (h1 : isW v = true) (h2 : fitsB n v = true) : putBig n v = beI v n := by
  unfold putBig; rw [if_pos ⟨h1, h2⟩]; rfl
set_option maxHeartbeats 1600000 in
theorem i_PutBig (A : Option Addr) (m c : Nat) (b : List UInt8) (n wd : Int) (w : World) (B : Nat) (h : Sl w B 1 A m c (u8s b)) (hB : B ≤ w.heap.size) (hm : m ≤ 1099511627776) (hn : n ≤ 9223372036854775807) :
    Calls Tryz.prog 97 #[.slice A m c, .int .i64 n, .int .i64 wd] w fun e w' => ∃ A' n' c', e = .returned (.slice A' n' c') ∧ BS w' w.heap.size A' n' c' (b ++ putBig n wd) ∧ Below w.heap.size w w' := by
  cases hw : isW wd
  · have HP := Lib.hid (putBig_no (n := n) (w := wd) (Or.inl hw))
    go_enter Tryz.func97, Tryz.ntmps97
    go_wp2_with (at_builtin; refine app_u8 rfl _ _ rfl (BS.new w) rfl (h.alloc hB _) rfl (by omega) (by simp) ?_; intro A1 c1 w1 h1 hb1)
    rw [Nat.zero_add, List.nil_append] at h1
    go_wp2_with (go_at_call 94; refine (i_isWidth _ _).mono ?_; rintro e w' ⟨rfl, rfl⟩)
    go_ret
    exact ⟨_, _, _, rfl, by rw [HP.out, List.append_nil]; exact h1, (Below.one w _).trans hb1⟩
  · have hw2 : wd = 1 ∨ wd = 2 ∨ wd = 4 ∨ wd = 8 := of_decide_eq_true hw
    cases hf : fitsB n wd
    · have HP := Lib.hid (putBig_no (n := n) (w := wd) (Or.inr hf))
      have HW2 := Lib.hid hw2; clear hw2
      go_enter Tryz.func97, Tryz.ntmps97
      go_wp2_with (at_builtin; refine app_u8 rfl _ _ rfl (BS.new w) rfl (h.alloc hB _) rfl (by omega) (by simp) ?_; intro A1 c1 w1 h1 hb1)
      rw [Nat.zero_add, List.nil_append] at h1
      go_wp2_with (first | (go_at_call 94; refine (i_isWidth _ _).mono ?_; rintro e w' ⟨rfl, rfl⟩) | (go_at_call 95; refine (i_fitsInto _ _ _ HW2.out hn).mono ?_; rintro e w' ⟨rfl, rfl⟩))
      go_ret
      exact ⟨_, _, _, rfl, by rw [HP.out, List.append_nil]; exact h1, (Below.one w _).trans hb1⟩
    · obtain ⟨v, rfl⟩ := Int.eq_ofNat_of_zero_le (show 0 ≤ wd by omega)
      have HP := Lib.hid (putBig_yes hw hf)
      have hv8 : v ≤ 8 := by omega
      have HW2 := Lib.hid hw2; clear hw2
      go_enter Tryz.func97, Tryz.ntmps97
      go_wp2_with (at_builtin; refine app_u8 rfl _ _ rfl (BS.new w) rfl (h.alloc hB _) rfl (by omega) (by simp) ?_; intro A1 c1 w1 h1 hb1)
      rw [Nat.zero_add, List.nil_append] at h1
      go_wp2_with (first | (go_at_call 94; refine (i_isWidth _ _).mono ?_; rintro e w' ⟨rfl, rfl⟩) | (go_at_call 95; refine (i_fitsInto _ _ _ HW2.out hn).mono ?_; rintro e w' ⟨rfl, rfl⟩))
      go_loopw [7, 8] (fun x y wr => ∃ (k c' : Nat) (A' : Option Addr), k ≤ v ∧ x = .slice A' (m + k) c' ∧ y = .int .i64 ((v : Int) - 1 - k) ∧ BS wr w.heap.size A' (m + k) c' (b ++ (beI v n).take k) ∧ Below w.heap.size w wr) (fun x y _ => (intOf y + 1).toNat)
      case atStart => exact ⟨0, c1, A1, Nat.zero_le _, rfl, by simp, by rw [List.take_zero, List.append_nil]; exact h1, (Below.one w _).trans hb1⟩
      case round =>
        obtain ⟨k, c', A', hk, rfl, rfl, ho, hb⟩ := hrel
        clear h1 hb1
        by_cases hlt : k < v
        · have hst := beI_step v n k hlt
          go_wp2_with (at_builtin; refine app_u8 rfl _ _ rfl (ho.alloc _) rfl (lit1 wr _ (by omega)) rfl (by omega) (by have := hb.size; simp; omega) ?_; intro A2 c2 w2 h2 hb2)
          go_roundw
          case rel => exact ⟨k + 1, c2, A2, by omega, rfl, by go_num, by rw [hst, ← List.append_assoc]; exact h2, (hb.alloc hb.size _).trans hb2⟩
          case measure => simp [intOf]; omega
        · have hkv : k = v := by omega
          have HK := Lib.hid hkv; clear hkv
          have hneg : ¬ (k : Int) ≤ v - 1 := by omega
          go_wp2_with fail
          go_ret
          refine ⟨_, _, _, rfl, ?_, hb⟩
          rw [HP.out]
          rw [List.take_of_length_le (by rw [beI_len]; exact Nat.le_of_eq HK.out.symm)] at ho
          exact ho
theorem shift_no {n : Int} {v : Nat} (h0 : 0 ≤ n) (h1 : isW v = true) (h8 : v < 8) (hf : fitsB n v = false) : (n / 2 ^ (8 * v) != 0) = true := by
  have hv : v = 1 ∨ v = 2 ∨ v = 4 := by have := of_decide_eq_true (show decide ((v : Int) = 1 ∨ (v : Int) = 2 ∨ (v : Int) = 4 ∨ (v : Int) = 8) = true from h1); omega
  have hf := decide_eq_false_iff_not.1 hf
  rcases hv with rfl | rfl | rfl <;> simp <;> omega
theorem shift_yes {n : Int} {v : Nat} (h1 : isW v = true) (h8 : v < 8) (hf : fitsB n v = true) : (n / 2 ^ (8 * v) != 0) = false := by
  have hv : v = 1 ∨ v = 2 ∨ v = 4 := by have := of_decide_eq_true (show decide ((v : Int) = 1 ∨ (v : Int) = 2 ∨ (v : Int) = 4 ∨ (v : Int) = 8) = true from h1); omega
  have hf := of_decide_eq_true (show decide (0 ≤ n ∧ ((v : Int) = 8 ∨ ((v : Int) = 4 ∧ n < 4294967296) ∨ ((v : Int) = 2 ∧ n < 65536) ∨ ((v : Int) = 1 ∧ n < 256))) = true from hf)
  rcases hv with rfl | rfl | rfl <;> simp <;> omega
theorem i64_and255 (n : Int) : bits .and .i64 n 255 = n % 256 := by
  have h255 : (BitVec.ofInt 64 255).toNat = 2 ^ 8 - 1 := by decide
  have key : (BitVec.ofInt 64 n &&& BitVec.ofInt 64 255).toNat = (n % ((2 ^ 64 : Nat) : Int)).toNat % 2 ^ 8 := by
    rw [BitVec.toNat_and, BitVec.toNat_ofInt, h255, Nat.and_two_pow_sub_one_eq_mod]
  show IntKind.i64.wrap ((BitVec.ofInt 64 n &&& BitVec.ofInt 64 255).toNat : Nat) = n % 256
  rw [key, IntKind.wrap_i64]
  omega
set_option maxHeartbeats 1600000 in
theorem s_PutBig_no (A : Option Addr) (m c : Nat) (b : List UInt8) (n wd : Int) (w : World) (B : Nat) (h : Sl w B 1 A m c (u8s b)) (hB : B ≤ w.heap.size) (hm : m ≤ 1099511627776) (hn : n ≤ 9223372036854775807) (hq : isW wd = false ∨ fitsB n wd = false) :
    Calls Tryz.prog 64 #[.slice A m c, .int .i64 n, .int .i64 wd] w fun e w' => ∃ A' n' c', e = .returned (.slice A' n' c') ∧ BS w' w.heap.size A' n' c' (b ++ putBig n wd) ∧ Below w.heap.size w w' := by
  have HP := Lib.hid (putBig_no (n := n) (w := wd) hq)
  have fin : ∀ (A1 : Option Addr) (c1 : Nat) (w1 : World), BS w1 w.heap.size A1 m c1 b → Below w.heap.size (w.alloc (.cells #[] 5)) w1 → ∃ A' n' c', Ending.returned (.slice A1 m c1) = .returned (.slice A' n' c') ∧ BS w1 w.heap.size A' n' c' (b ++ putBig n wd) ∧ Below w.heap.size w w1 :=
    fun A1 c1 w1 h1 hb1 => ⟨_, _, _, rfl, by rw [HP.out, List.append_nil]; exact h1, (Below.one w _).trans hb1⟩
  by_cases h0 : n < 0
  · clear hq
    go_enter Tryz.func64, Tryz.ntmps64
    go_wp2_with (at_builtin; refine app_u8 rfl _ _ rfl (BS.new w) rfl (h.alloc hB _) rfl (by omega) (by simp) ?_; intro A1 c1 w1 h1 hb1)
    rw [Nat.zero_add, List.nil_append] at h1
    go_wp2_with (go_at_call 82; refine (s_l3Width _ _).mono ?_; rintro e w' ⟨rfl, rfl⟩)
    go_ret
    exact fin _ _ _ h1 hb1
  cases hw : isW wd
  · clear hq
    go_enter Tryz.func64, Tryz.ntmps64
    go_wp2_with (at_builtin; refine app_u8 rfl _ _ rfl (BS.new w) rfl (h.alloc hB _) rfl (by omega) (by simp) ?_; intro A1 c1 w1 h1 hb1)
    rw [Nat.zero_add, List.nil_append] at h1
    go_wp2_with (go_at_call 82; refine (s_l3Width _ _).mono ?_; rintro e w' ⟨rfl, rfl⟩)
    go_ret
    exact fin _ _ _ h1 hb1
  · have hw2 : wd = 1 ∨ wd = 2 ∨ wd = 4 ∨ wd = 8 := of_decide_eq_true hw
    obtain ⟨v, rfl⟩ := Int.eq_ofNat_of_zero_le (show 0 ≤ wd by omega)
    have hf : fitsB n v = false := by rcases hq with h | h; (rw [hw] at h; cases h); exact h
    have h8 : v < 8 := by
      rcases Nat.lt_or_ge v 8 with h | h
      · exact h
      · exfalso
        have := decide_eq_false_iff_not.1 hf
        omega
    have hsh := shift_no (by omega) hw h8 hf
    clear hq hw2 hf
    go_enter Tryz.func64, Tryz.ntmps64
    go_wp2_with (at_builtin; refine app_u8 rfl _ _ rfl (BS.new w) rfl (h.alloc hB _) rfl (by omega) (by simp) ?_; intro A1 c1 w1 h1 hb1)
    rw [Nat.zero_add, List.nil_append] at h1
    go_wp2_with (go_at_call 82; refine (s_l3Width _ _).mono ?_; rintro e w' ⟨rfl, rfl⟩)
    go_ret
    exact fin _ _ _ h1 hb1
set_option maxHeartbeats 1600000 in
theorem s_PutBig (A : Option Addr) (m c : Nat) (b : List UInt8) (n wd : Int) (w : World) (B : Nat) (h : Sl w B 1 A m c (u8s b)) (hB : B ≤ w.heap.size) (hm : m ≤ 1099511627776) (hn : n ≤ 9223372036854775807) :
    Calls Tryz.prog 64 #[.slice A m c, .int .i64 n, .int .i64 wd] w fun e w' => ∃ A' n' c', e = .returned (.slice A' n' c') ∧ BS w' w.heap.size A' n' c' (b ++ putBig n wd) ∧ Below w.heap.size w w' := by
  cases hw : isW wd
  · exact s_PutBig_no A m c b n wd w B h hB hm hn (Or.inl hw)
  cases hf : fitsB n wd
  · exact s_PutBig_no A m c b n wd w B h hB hm hn (Or.inr hf)
  have hw2 : wd = 1 ∨ wd = 2 ∨ wd = 4 ∨ wd = 8 := of_decide_eq_true hw
  have h0 : 0 ≤ n := (of_decide_eq_true (show decide (0 ≤ n ∧ (wd = 8 ∨ (wd = 4 ∧ n < 4294967296) ∨ (wd = 2 ∧ n < 65536) ∨ (wd = 1 ∧ n < 256))) = true from hf)).1
  obtain ⟨v, rfl⟩ := Int.eq_ofNat_of_zero_le (show 0 ≤ wd by omega)
  have HP := Lib.hid (putBig_yes hw hf)
  have hv8 : v ≤ 8 := by omega
  have h255 : ∀ x, bits .and .i64 x 255 = x % 256 := i64_and255
  have H : 8 ≤ v ∨ (v < 8 ∧ (n / 2 ^ (8 * v) != 0) = false) := by
    rcases Nat.lt_or_ge v 8 with h | h
    · exact Or.inr ⟨h, shift_yes hw h hf⟩
    · exact Or.inl h
  clear hw2
  rcases H with h8 | ⟨h8, hsh⟩
  all_goals
    go_enter Tryz.func64, Tryz.ntmps64
    go_wp2_with (at_builtin; refine app_u8 rfl _ _ rfl (BS.new w) rfl (h.alloc hB _) rfl (by omega) (by simp) ?_; intro A1 c1 w1 h1 hb1)
    rw [Nat.zero_add, List.nil_append] at h1
    go_wp2_with (go_at_call 82; refine (s_l3Width _ _).mono ?_; rintro e w' ⟨rfl, rfl⟩)
    go_loopw [7, 8] (fun x y wr => ∃ (k c' : Nat) (A' : Option Addr), k ≤ v ∧ x = .slice A' (m + k) c' ∧ y = .int .i64 ((v : Int) - 1 - k) ∧ BS wr w.heap.size A' (m + k) c' (b ++ (beI v n).take k) ∧ Below w.heap.size w wr) (fun x y _ => (intOf y + 1).toNat)
    case atStart => exact ⟨0, c1, A1, Nat.zero_le _, rfl, by simp, by rw [List.take_zero, List.append_nil]; exact h1, (Below.one w _).trans hb1⟩
    case round =>
      obtain ⟨k, c', A', hk, rfl, rfl, ho, hb⟩ := hrel
      clear h1 hb1
      by_cases hlt : k < v
      · have hst := beI_step v n k hlt
        go_wp2_with (at_builtin; refine app_u8 rfl _ _ rfl (ho.alloc _) rfl (lit1 wr _ (by omega)) rfl (by omega) (by have := hb.size; simp; omega) ?_; intro A2 c2 w2 h2 hb2)
        go_roundw
        case rel => exact ⟨k + 1, c2, A2, by omega, rfl, by go_num, by rw [hst, ← List.append_assoc]; exact h2, (hb.alloc hb.size _).trans hb2⟩
        case measure => simp [intOf]; omega
      · have hkv : k = v := by omega
        have HK := Lib.hid hkv; clear hkv
        have hneg : ¬ (k : Int) ≤ v - 1 := by omega
        go_wp2_with fail
        go_ret
        refine ⟨_, _, _, rfl, ?_, hb⟩
        rw [HP.out]
        rw [List.take_of_length_le (by rw [beI_len]; exact Nat.le_of_eq HK.out.symm)] at ho
        exact ho
end Go.Proofs.YtmnlkedacnemcaaGreatDoor
