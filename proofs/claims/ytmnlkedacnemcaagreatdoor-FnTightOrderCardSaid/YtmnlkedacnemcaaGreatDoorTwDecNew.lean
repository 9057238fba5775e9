/- DecNew: both sides. Written by gen/decnew.py. -/
import Derived.Test.YtmnlkedacnemcaaGreatDoorTwM25
import Derived.Deep.LoopGhost
set_option linter.unusedVariables false
set_option maxRecDepth 100000
set_option linter.unusedSimpArgs false
namespace Go.Proofs.YtmnlkedacnemcaaGreatDoor
open Go.RowKit

theorem decDigits_le (d : Nat) : ∀ u : Nat, 1 ≤ d → ((Lib.decDigits u).length ≤ d ↔ u < 10 ^ d) := by
  induction d with
  | zero => intro u h; omega
  | succ d ih =>
    intro u _
    by_cases h : u < 10
    · rw [decDigits_len_one h]
      have : 10 ≤ 10 ^ (d + 1) := by rw [Nat.pow_succ]; have := Nat.one_le_two_pow (n := 0); have : 1 ≤ 10 ^ d := Nat.one_le_pow _ _ (by decide); omega
      omega
    · rw [decDigits_len_step h]
      have hp : 10 ^ (d + 1) = 10 * 10 ^ d := by rw [Nat.pow_succ]; omega
      rcases Nat.eq_zero_or_pos d with h0 | h0
      · subst h0
        have := decDigits_len_pos (u / 10)
        rw [hp, Nat.pow_zero]
        omega
      · have h5 := ih (u / 10) h0
        rw [hp]
        generalize 10 ^ d = y at h5
        generalize (Lib.decDigits (u / 10)).length = z at h5
        omega
theorem digN_17 {n : Int} : digN n ≤ 17 ↔ n.natAbs < 100000000000000000 := decDigits_le 17 n.natAbs (by decide)
theorem digN_16 {n : Int} : digN n ≤ 16 ↔ n.natAbs < 10000000000000000 := decDigits_le 16 n.natAbs (by decide)
/-- Noughts struck off the end, at most so many; what is left, and how many times it might still be. -/
def stripD : Nat → Int → Int × Nat
  | 0, n => (n, 0)
  | k + 1, n => if (n.tmod 10 == 0) = true then stripD k (n.tdiv 10) else (n, k + 1)
theorem stripD_yes {k : Nat} {n : Int} (h : (n.tmod 10 == 0) = true) : stripD (k + 1) n = stripD k (n.tdiv 10) := if_pos h
theorem stripD_no {k : Nat} {n : Int} (h : (n.tmod 10 == 0) = false) : stripD (k + 1) n = (n, k + 1) := if_neg (by rw [h]; decide)
theorem stripD_bd : ∀ (k : Nat) (n : Int), (stripD k n).2 ≤ k
  | 0, n => Nat.le_refl _
  | k + 1, n => by
    unfold stripD
    split
    · have := stripD_bd k (n.tdiv 10); omega
    · exact Nat.le_refl _
/-- The decimal number of a number and a power of ten. -/
def decNew (n x : Int) : Option (Int × Int) :=
  if ¬ (digN n ≤ 17 ∧ -40 ≤ x ∧ x ≤ 40) then none
  else if n = 0 then some (0, 0)
  else if x ≤ 0 then (if decOk (stripD (-x).toNat n).1 (-((stripD (-x).toNat n).2 : Int)) = true then some ((stripD (-x).toNat n).1, -((stripD (-x).toNat n).2 : Int)) else none)
  else if (n * 10 ^ x.toNat).natAbs ≤ 1000000000000000 then some (n * 10 ^ x.toNat, 0) else none
def decV (r : Option (Int × Int)) : Value := match r with
  | none => .tuple #[.agg #[.int .i64 0, .int .i64 0], .bool false]
  | some p => .tuple #[.agg #[.int .i64 p.1, .int .i64 p.2], .bool true]
theorem decNew_out {n x : Int} (h : ¬ (digN n ≤ 17 ∧ -40 ≤ x ∧ x ≤ 40)) : decNew n x = none := by unfold decNew; rw [if_pos h]
theorem decNew_zero {x : Int} (h : -40 ≤ x ∧ x ≤ 40) : decNew 0 x = some (0, 0) := by unfold decNew; rw [if_neg (fun hn => hn ⟨by unfold digN; rw [decDigits_len_one (by decide)]; decide, h⟩), if_pos rfl]
theorem decNew_low {n x : Int} (h : digN n ≤ 17 ∧ -40 ≤ x ∧ x ≤ 40) (h0 : n ≠ 0) (hx : x ≤ 0) {a : Int} {k : Nat} (hs : stripD (-x).toNat n = (a, k)) : decNew n x = if decOk a (-(k : Int)) = true then some (a, -(k : Int)) else none := by
  unfold decNew; rw [if_neg (fun hn => hn h), if_neg h0, if_pos hx, hs]
theorem decNew_high {n x : Int} (h : digN n ≤ 17 ∧ -40 ≤ x ∧ x ≤ 40) (h0 : n ≠ 0) (hx : ¬ x ≤ 0) : decNew n x = if (n * 10 ^ x.toNat).natAbs ≤ 1000000000000000 then some (n * 10 ^ x.toNat, 0) else none := by
  unfold decNew; rw [if_neg (fun hn => hn h), if_neg h0, if_neg hx]
theorem ten_abs (m : Int) (k : Nat) (hk : 1 ≤ k) : 10 * m.natAbs ≤ (m * 10 ^ k).natAbs := by
  obtain ⟨j, rfl⟩ : ∃ j, k = j + 1 := ⟨k - 1, by omega⟩
  rw [Int.natAbs_mul, Int.natAbs_pow]
  have h1 : (10 : Int).natAbs = 10 := rfl
  rw [h1, Nat.pow_succ]
  have h2 : 1 ≤ 10 ^ j := Nat.one_le_pow _ _ (by decide)
  have h3 : m.natAbs * 10 ≤ m.natAbs * (10 ^ j * 10) := Nat.mul_le_mul_left _ (by omega)
  omega
theorem ten_step (m : Int) (k : Nat) : m * 10 ^ (k + 1) = (m * 10) * 10 ^ k := by
  rw [Int.pow_succ, Int.mul_comm (10 ^ k) 10, ← Int.mul_assoc]
theorem stripD_abs : ∀ (k : Nat) (n : Int), (stripD k n).1.natAbs ≤ n.natAbs
  | 0, n => Nat.le_refl _
  | k + 1, n => by
    unfold stripD
    split
    · have h1 := stripD_abs k (n.tdiv 10)
      have e : (n.tdiv 10).natAbs = n.natAbs / 10 := by rw [Int.natAbs_tdiv]; rfl
      omega
    · exact Nat.le_refl _
/-- What DecNew says. -/
def DecNewAt (w w' : World) (n x : Int) (r : Ending) : Prop := r = .returned (decV (decNew n x)) ∧ Below w.heap.size w w'
set_option maxHeartbeats 4000000 in
theorem s_DecNew (n x : Int) (w : World) (hnb : -9223372036854775808 ≤ n ∧ n ≤ 9223372036854775807) (hxb : -9223372036854775808 ≤ x ∧ x ≤ 9223372036854775807) :
    Calls Tryz.prog 89 #[.int .i64 n, .int .i64 x] w fun r w' => DecNewAt w w' n x r := by
  have K := Below.one w (.cells #[.int .i64 0, .int .i64 0] 75)
  have hR := Blk.new w 75 #[.int .i64 0, .int .i64 0]
  skip
  unfold DecNewAt
  by_cases hd : digN n ≤ 17
  rotate_left
  · rw [decNew_out (fun h => hd h.1)]
    have hd2 : ¬ ((digN n : Nat) : Int) ≤ 17 := by omega
    have hd3 : (17 : Int) < ((digN n : Nat) : Int) := by omega
    go_enter Tryz.func89, Tryz.ntmps89
    go_wp2_with (go_at_call 91; refine (s_Digits _ _ hnb).mono ?_; rintro e w' ⟨rfl, rfl⟩)
    exact bodyPost_ret (results_blk2 Tryz.results89 Tryz.isAgg75 (by exact Tryz.sizeOf75) rfl hR) rfl ⟨rfl, K⟩
  have hd3 : ¬ (17 : Int) < ((digN n : Nat) : Int) := by omega
  by_cases hx : -40 ≤ x ∧ x ≤ 40
  rotate_left
  · rw [decNew_out (fun h => hx h.2)]
    have hb : inR x (-40) 40 = false := inR_no (by omega)
    clear hx hd
    go_enter Tryz.func89, Tryz.ntmps89
    go_wp2_with (first
      | (go_at_call 91; refine (s_Digits _ _ hnb).mono ?_; rintro e w' ⟨rfl, rfl⟩)
      | (go_at_call 42; refine (s_l1In _ _ _ _).mono ?_; rintro e w' ⟨rfl, rfl⟩))
    exact bodyPost_ret (results_blk2 Tryz.results89 Tryz.isAgg75 (by exact Tryz.sizeOf75) rfl hR) rfl ⟨rfl, K⟩
  have hb := inR_yes hx.1 hx.2
  by_cases h0 : n = 0
  · subst h0
    rw [decNew_zero hx]
    clear hx hd
    go_enter Tryz.func89, Tryz.ntmps89
    go_wp2_with (first
      | (go_at_call 91; refine (s_Digits _ _ hnb).mono ?_; rintro e w' ⟨rfl, rfl⟩)
      | (go_at_call 42; refine (s_l1In _ _ _ _).mono ?_; rintro e w' ⟨rfl, rfl⟩))
    exact bodyPost_ret (results_blk2 Tryz.results89 Tryz.isAgg75 (by exact Tryz.sizeOf75) rfl hR) rfl ⟨rfl, K⟩
  have hz : (n == 0) = false := by simpa using h0
  have HDD := Lib.hid (And.intro hd hx)
  have H0 := Lib.hid h0
  have hnb2 : n.natAbs < 100000000000000000 := digN_17.1 hd
  by_cases hx0 : x ≤ 0
  · obtain ⟨k0, rfl⟩ : ∃ k0 : Nat, x = -(k0 : Int) := ⟨(-x).toNat, by omega⟩
    obtain ⟨⟨a, kk⟩, hs⟩ : ∃ r, stripD k0 n = r := ⟨_, rfl⟩
    have hkk := stripD_bd k0 n
    have hdn := decNew_low HDD.out h0 hx0 (a := a) (k := kk) (by rw [show (-(-(k0 : Int))).toNat = k0 by omega]; exact hs)
    rw [hs] at hkk
    have HD := Lib.hid hdn
    have HS := Lib.hid hs
    have HY := Lib.hid (rfl : -(k0 : Int) = -(k0 : Int))
    have hk40 : k0 ≤ 40 := by omega
    obtain ⟨y0, hy0⟩ : ∃ y0 : Int, -(k0 : Int) = y0 := ⟨_, rfl⟩
    rw [hy0] at hb hx0 ⊢
    rw [hy0] at HD
    have HY0 : Hid (y0 = -(k0 : Int)) := Lib.hid hy0.symm
    have hy1 : -40 ≤ y0 := by omega
    clear hd hx h0 hdn hs hy0 HY hxb
    go_enter Tryz.func89, Tryz.ntmps89
    go_wp2_with (first
      | (go_at_call 91; refine (s_Digits _ _ hnb).mono ?_; rintro e w' ⟨rfl, rfl⟩)
      | (go_at_call 42; refine (s_l1In _ _ _ _).mono ?_; rintro e w' ⟨rfl, rfl⟩))
    generalize w.alloc (.cells #[.int .i64 0, .int .i64 0] 75) = w1 at hR K ⊢
    go_loopg [0, 1] k0 (fun f v0 v1 wr => ∃ (m y : Int) (k : Nat), v0 = .int .i64 m ∧ v1 = .int .i64 y ∧ Hid (y = -(k : Int)) ∧ k ≤ f ∧ -40 ≤ y ∧ y ≤ 0 ∧ Hid (stripD k m = (a, kk)) ∧ m.natAbs < 100000000000000000 ∧ wr = w1)
    case atStart => exact ⟨n, y0, k0, rfl, rfl, HY0, Nat.le_refl _, hy1, hx0, HS, hnb2, rfl⟩
    case round =>
      obtain ⟨m, y, k, rfl, rfl, HYk, hkf, hya, hyb, HSk, hmb, rfl⟩ := hrel
      obtain ⟨wo, rfl⟩ : ∃ wo : World, wo = wr := ⟨_, rfl⟩
      clear HY0 HS hnb2
      have hm1 : -100000000000000000 < m ∧ m < 100000000000000000 := by omega
      by_cases hgo : (m.tmod 10 == 0) = true ∧ 1 ≤ k
      · obtain ⟨f, rfl⟩ : ∃ f, gk = f + 1 := ⟨gk - 1, by omega⟩
        obtain ⟨k, rfl⟩ : ∃ j, k = j + 1 := ⟨k - 1, by omega⟩
        have hev := hgo.1
        have hyn : y < 0 := by have := HYk.out; omega
        have hab : (m.tdiv 10).natAbs = m.natAbs / 10 := by rw [Int.natAbs_tdiv]; rfl
        have hbd : (m.tdiv 10).natAbs < 100000000000000000 := by omega
        have HS2 : Hid (stripD k (m.tdiv 10) = (a, kk)) := Lib.hid (by rw [← HSk.out, stripD_yes hev])
        have hm2 : m.tmod 10 = 0 := by simpa using hev
        clear hgo hab hev
        go_wp2_with fail
        go_roundg f
        case measure => omega
        case rel => exact ⟨m.tdiv 10, y + 1, k, rfl, rfl, Lib.hid (by have := HYk.out; omega), by omega, by omega, by omega, HS2, hbd, rfl⟩
      · have hma : m = a ∧ k = kk := by
          have h2 := HSk.out
          cases k with
          | zero => unfold stripD at h2; simp only [Prod.mk.injEq] at h2; exact h2
          | succ j =>
            have hev : (m.tmod 10 == 0) = false := by
              cases h : (m.tmod 10 == 0) with
              | false => rfl
              | true => exact absurd ⟨h, by omega⟩ hgo
            rw [stripD_no hev] at h2
            simp only [Prod.mk.injEq] at h2
            exact h2
        have hcase : ((m.tmod 10 == 0) = false ∧ y < 0) ∨ ((m.tmod 10 == 0) = false ∧ ¬ y < 0) ∨ ((m.tmod 10 == 0) = true ∧ ¬ y < 0) := by
          cases h : (m.tmod 10 == 0) with
          | false =>
            by_cases hy : y < 0
            · exact .inl ⟨rfl, hy⟩
            · exact .inr (.inl ⟨rfl, hy⟩)
          | true => exact .inr (.inr ⟨rfl, fun hy => hgo ⟨h, by have := HYk.out; omega⟩⟩)
        obtain ⟨okv, hok⟩ : ∃ b, decOk m y = b := ⟨_, rfl⟩
        have HF : Hid (decV (decNew n y0) = if okv = true then decV (some (m, y)) else decV none) := Lib.hid (by
          rw [HD.out, ← hma.1, ← hma.2, ← HYk.out, hok]
          cases okv <;> rfl)
        have hdc := fun w2 (hb : Below w.heap.size w w2) => s_DecOk m y w2 (by omega) (by omega)
        rw [hok] at hdc
        clear hgo hma hok HSk HYk HD HDD
        rcases hcase with ⟨hev, hyn⟩ | ⟨hev, hyn⟩ | ⟨hev, hyn⟩
        all_goals
          cases okv
          all_goals
            go_wp2_with fail
            go_loopg [0, 1] 0 (fun f v0 v1 wr => v0 = .int .i64 m ∧ v1 = .int .i64 y ∧ wr = wo)
            case atStart => exact ⟨rfl, rfl, rfl⟩
            case round =>
              obtain ⟨rfl, rfl, rfl⟩ := hrel
              have r0 := hR.cell 0
              have r1 := hR.cell 1
              have g0 := hR.frozen 0
              have g1 := hR.frozen 1
              have hz1 := hR.lt
              have kd := Below.one wr (.cells #[.int .i64 m, .int .i64 y] 75)
              go_wp2_with (go_at_call 74; refine (hdc _ (K.up kd)).mono ?_; rintro e w2 ⟨rfl, hb2⟩; obtain ⟨hc2, hf2⟩ := bcell hb2; have hR2 := (hR.below kd hz1).below hb2 (by simp; omega))
              exact bodyPost_ret (results_blk2 Tryz.results89 Tryz.isAgg75 (by exact Tryz.sizeOf75) rfl (hR2.two _ _)) rfl ⟨by rw [HF.out]; rfl, (((K.up kd).up hb2).setCell (Nat.le_refl _) _).setCell (Nat.le_refl _) _⟩
  · obtain ⟨k0, rfl⟩ : ∃ k0 : Nat, x = (k0 : Int) := ⟨x.toNat, by omega⟩
    have hdn := decNew_high HDD.out h0 hx0
    rw [Int.toNat_natCast] at hdn
    obtain ⟨T, hT⟩ : ∃ T, n * 10 ^ k0 = T := ⟨_, rfl⟩
    rw [hT] at hdn
    have HD := Lib.hid hdn
    have HT := Lib.hid hT
    have hk40 : k0 ≤ 40 := by omega
    have hkp : (0 : Int) < (k0 : Int) := by omega
    clear hd hx h0 hdn hT hxb hx0
    go_enter Tryz.func89, Tryz.ntmps89
    go_wp2_with (first
      | (go_at_call 91; refine (s_Digits _ _ hnb).mono ?_; rintro e w' ⟨rfl, rfl⟩)
      | (go_at_call 42; refine (s_l1In _ _ _ _).mono ?_; rintro e w' ⟨rfl, rfl⟩))
    generalize w.alloc (.cells #[.int .i64 0, .int .i64 0] 75) = w1 at hR K ⊢
    go_loopg [0, 1] 0 (fun f v0 v1 wr => v0 = .int .i64 n ∧ v1 = .int .i64 k0 ∧ wr = w1)
    case atStart => exact ⟨rfl, rfl, rfl⟩
    case round =>
      obtain ⟨rfl, rfl, rfl⟩ := hrel
      obtain ⟨wo, rfl⟩ : ∃ wo : World, wo = wr := ⟨_, rfl⟩
      have hn1 : -100000000000000000 < n ∧ n < 100000000000000000 := by omega
      have hkn : ¬ (k0 : Int) < 0 := by omega
      cases hev : (n.tmod 10 == 0)
      all_goals
        go_wp2_with fail
        go_loopg [0, 1] k0 (fun f v0 v1 wr => ∃ (m : Int) (k : Nat), v0 = .int .i64 m ∧ v1 = .int .i64 k ∧ k ≤ f ∧ k ≤ 40 ∧ Hid (m * 10 ^ k = T) ∧ m.natAbs < 100000000000000000 ∧ wr = wo)
        case atStart => exact ⟨n, k0, rfl, rfl, Nat.le_refl _, hk40, HT, hnb2, rfl⟩
        case round =>
          obtain ⟨m, k, rfl, rfl, hkf, hk4, HTk, hmb, rfl⟩ := hrel
          clear HT hnb2 hev
          have hm1 : -100000000000000000 < m ∧ m < 100000000000000000 := by omega
          have r0 := hR.cell 0
          have r1 := hR.cell 1
          have g0 := hR.frozen 0
          have g1 := hR.frozen 1
          have hz1 := hR.lt
          cases k with
          | zero =>
            have hmT : m = T := by rw [← HTk.out, Int.pow_zero, Int.mul_one]
            obtain ⟨okv, hok⟩ : ∃ b, decOk m 0 = b := ⟨_, rfl⟩
            have HF : Hid (decV (decNew n k0) = if okv = true then decV (some (m, 0)) else decV none) := Lib.hid (by
              rw [HD.out, ← hmT, ← hok, decOk_zero]
              by_cases h : m.natAbs ≤ 1000000000000000
              · rw [if_pos h, inR_yes (by omega) (by omega)]; rfl
              · rw [if_neg h, inR_no (by omega)]; rfl)
            have hdc := fun w2 (hb : Below w.heap.size w w2) => s_DecOk m 0 w2 (by omega) (by omega)
            rw [hok] at hdc
            have kd := Below.one wr (.cells #[.int .i64 m, .int .i64 0] 75)
            clear hmT hok HTk HD HDD
            cases okv
            all_goals
              go_wp2_with (go_at_call 74; refine (hdc _ (K.up kd)).mono ?_; rintro e w2 ⟨rfl, hb2⟩; obtain ⟨hc2, hf2⟩ := bcell hb2; have hR2 := (hR.below kd hz1).below hb2 (by simp; omega))
              exact bodyPost_ret (results_blk2 Tryz.results89 Tryz.isAgg75 (by exact Tryz.sizeOf75) rfl (hR2.two _ _)) rfl ⟨by rw [HF.out]; rfl, (((K.up kd).up hb2).setCell (Nat.le_refl _) _).setCell (Nat.le_refl _) _⟩
          | succ k =>
            have hkp2 : (0 : Int) < ((k + 1 : Nat) : Int) := by omega
            have hta := ten_abs m (k + 1) (by omega)
            rw [HTk.out] at hta
            have hdgm := fun w2 => s_Digits m w2 (by omega)
            by_cases hlim : digN m ≤ 16
            · have hl := digN_16.1 hlim
              have hnl : ¬ (16 : Int) < ((digN m : Nat) : Int) := by omega
              have hl1 : -10000000000000000 < m := by omega
              have hl2 : m < 10000000000000000 := by omega
              obtain ⟨f, rfl⟩ : ∃ f, gk = f + 1 := ⟨gk - 1, by omega⟩
              have HT2 : Hid ((m * 10) * 10 ^ k = T) := Lib.hid (by rw [← HTk.out, ten_step])
              generalize digN m = dm at hdgm hnl
              clear hta hlim HTk
              go_wp2_with (go_at_call 91; refine (hdgm _).mono ?_; rintro e w' ⟨rfl, rfl⟩)
              go_roundg f
              case measure => omega
              case rel => exact ⟨m * 10, k, rfl, by go_num, by omega, by omega, HT2, by omega, rfl⟩
            · have hl : ¬ m.natAbs < 10000000000000000 := fun h => hlim (digN_16.2 h)
              have hnl : (16 : Int) < ((digN m : Nat) : Int) := by omega
              have HF : Hid (decV (decNew n k0) = decV none) := Lib.hid (by rw [HD.out, if_neg (by omega)])
              generalize digN m = dm at hdgm hnl
              clear hta hlim HTk hl
              go_wp2_with (go_at_call 91; refine (hdgm _).mono ?_; rintro e w' ⟨rfl, rfl⟩)
              exact bodyPost_ret (results_blk2 Tryz.results89 Tryz.isAgg75 (by exact Tryz.sizeOf75) rfl (hR.two _ _)) rfl ⟨by rw [HF.out]; rfl, (K.setCell (Nat.le_refl _) _).setCell (Nat.le_refl _) _⟩
set_option maxHeartbeats 4000000 in
theorem i_DecNew (n x : Int) (w : World) (hnb : -9223372036854775808 ≤ n ∧ n ≤ 9223372036854775807) (hxb : -9223372036854775808 ≤ x ∧ x ≤ 9223372036854775807) (hP : PowT w) :
    Calls Tryz.prog 103 #[.int .i64 n, .int .i64 x] w fun r w' => DecNewAt w w' n x r := by
  have K := Below.one w (.cells #[.int .i64 0, .int .i64 0] 75)
  have hR := Blk.new w 75 #[.int .i64 0, .int .i64 0]
  have hdg := fun w1 (hb : Below w.heap.size w w1) => i_Digits n w1 hnb (hP.below hb)
  unfold DecNewAt
  by_cases hd : digN n ≤ 17
  rotate_left
  · rw [decNew_out (fun h => hd h.1)]
    have hd2 : ¬ ((digN n : Nat) : Int) ≤ 17 := by omega
    have hd3 : (17 : Int) < ((digN n : Nat) : Int) := by omega
    go_enter Tryz.func103, Tryz.ntmps103
    go_wp2_with (go_at_call 99; refine (hdg _ K).mono ?_; rintro e w1 ⟨rfl, hb1⟩; replace hR := hR.below hb1 hR.lt; replace K := K.up hb1; have r0 := hR.cell 0; have r1 := hR.cell 1; have f0 := hR.frozen 0; have f1 := hR.frozen 1)
    exact bodyPost_ret (results_blk2 Tryz.results103 Tryz.isAgg75 (by exact Tryz.sizeOf75) rfl (hR.two _ _)) rfl ⟨rfl, (K.setCell (Nat.le_refl _) _).setCell (Nat.le_refl _) _⟩
  have hd3 : ¬ (17 : Int) < ((digN n : Nat) : Int) := by omega
  by_cases hx : -40 ≤ x ∧ x ≤ 40
  rotate_left
  · rw [decNew_out (fun h => hx h.2)]
    have hb : inR x (-40) 40 = false := inR_no (by omega)
    clear hx hd
    go_enter Tryz.func103, Tryz.ntmps103
    go_wp2_with (first
      | (go_at_call 99; refine (hdg _ K).mono ?_; rintro e w1 ⟨rfl, hb1⟩; replace hR := hR.below hb1 hR.lt; replace K := K.up hb1; have r0 := hR.cell 0; have r1 := hR.cell 1; have f0 := hR.frozen 0; have f1 := hR.frozen 1)
      | (go_at_call 56; refine (i_within _ _ _ _).mono ?_; rintro e w' ⟨rfl, rfl⟩))
    exact bodyPost_ret (results_blk2 Tryz.results103 Tryz.isAgg75 (by exact Tryz.sizeOf75) rfl (hR.two _ _)) rfl ⟨rfl, (K.setCell (Nat.le_refl _) _).setCell (Nat.le_refl _) _⟩
  have hb := inR_yes hx.1 hx.2
  by_cases h0 : n = 0
  · subst h0
    rw [decNew_zero hx]
    clear hx hd
    go_enter Tryz.func103, Tryz.ntmps103
    go_wp2_with (first
      | (go_at_call 99; refine (hdg _ K).mono ?_; rintro e w1 ⟨rfl, hb1⟩; replace hR := hR.below hb1 hR.lt; replace K := K.up hb1; have r0 := hR.cell 0; have r1 := hR.cell 1; have f0 := hR.frozen 0; have f1 := hR.frozen 1)
      | (go_at_call 56; refine (i_within _ _ _ _).mono ?_; rintro e w' ⟨rfl, rfl⟩))
    exact bodyPost_ret (results_blk2 Tryz.results103 Tryz.isAgg75 (by exact Tryz.sizeOf75) rfl (hR.two _ _)) rfl ⟨rfl, (K.setCell (Nat.le_refl _) _).setCell (Nat.le_refl _) _⟩
  have hz : (n == 0) = false := by simpa using h0
  have HDD := Lib.hid (And.intro hd hx)
  have H0 := Lib.hid h0
  have hnb2 : n.natAbs < 100000000000000000 := digN_17.1 hd
  by_cases hx0 : x ≤ 0
  · obtain ⟨k0, rfl⟩ : ∃ k0 : Nat, x = -(k0 : Int) := ⟨(-x).toNat, by omega⟩
    obtain ⟨⟨a, kk⟩, hs⟩ : ∃ r, stripD k0 n = r := ⟨_, rfl⟩
    have hkk := stripD_bd k0 n
    have hdn := decNew_low HDD.out h0 hx0 (a := a) (k := kk) (by rw [show (-(-(k0 : Int))).toNat = k0 by omega]; exact hs)
    rw [hs] at hkk
    have HD := Lib.hid hdn
    have HS := Lib.hid hs
    have HY := Lib.hid (rfl : -(k0 : Int) = -(k0 : Int))
    have hk40 : k0 ≤ 40 := by omega
    obtain ⟨y0, hy0⟩ : ∃ y0 : Int, -(k0 : Int) = y0 := ⟨_, rfl⟩
    rw [hy0] at hb hx0 ⊢
    rw [hy0] at HD
    have HY0 : Hid (y0 = -(k0 : Int)) := Lib.hid hy0.symm
    have hy1 : -40 ≤ y0 := by omega
    clear hd hx h0 hdn hs hy0 HY hxb
    go_enter Tryz.func103, Tryz.ntmps103
    go_wp2_with (first
      | (go_at_call 99; refine (hdg _ K).mono ?_; rintro e w1 ⟨rfl, hb1⟩; replace hR := hR.below hb1 hR.lt; replace K := K.up hb1; have r0 := hR.cell 0; have r1 := hR.cell 1; have f0 := hR.frozen 0; have f1 := hR.frozen 1)
      | (go_at_call 56; refine (i_within _ _ _ _).mono ?_; rintro e w' ⟨rfl, rfl⟩))

    go_loopg [0, 1] k0 (fun f v0 v1 wr => ∃ (m y : Int) (k : Nat), v0 = .int .i64 m ∧ v1 = .int .i64 y ∧ Hid (y = -(k : Int)) ∧ k ≤ f ∧ -40 ≤ y ∧ y ≤ 0 ∧ Hid (stripD k m = (a, kk)) ∧ m.natAbs < 100000000000000000 ∧ wr = w1)
    case atStart => exact ⟨n, y0, k0, rfl, rfl, HY0, Nat.le_refl _, hy1, hx0, HS, hnb2, rfl⟩
    case round =>
      obtain ⟨m, y, k, rfl, rfl, HYk, hkf, hya, hyb, HSk, hmb, rfl⟩ := hrel
      obtain ⟨wo, rfl⟩ : ∃ wo : World, wo = wr := ⟨_, rfl⟩
      clear HY0 HS hnb2
      have hm1 : -100000000000000000 < m ∧ m < 100000000000000000 := by omega
      by_cases hgo : (m.tmod 10 == 0) = true ∧ 1 ≤ k
      · obtain ⟨f, rfl⟩ : ∃ f, gk = f + 1 := ⟨gk - 1, by omega⟩
        obtain ⟨k, rfl⟩ : ∃ j, k = j + 1 := ⟨k - 1, by omega⟩
        have hev := hgo.1
        have hyn : y < 0 := by have := HYk.out; omega
        have hab : (m.tdiv 10).natAbs = m.natAbs / 10 := by rw [Int.natAbs_tdiv]; rfl
        have hbd : (m.tdiv 10).natAbs < 100000000000000000 := by omega
        have HS2 : Hid (stripD k (m.tdiv 10) = (a, kk)) := Lib.hid (by rw [← HSk.out, stripD_yes hev])
        have hm2 : m.tmod 10 = 0 := by simpa using hev
        clear hgo hab hev
        go_wp2_with fail
        go_roundg f
        case measure => omega
        case rel => exact ⟨m.tdiv 10, y + 1, k, rfl, rfl, Lib.hid (by have := HYk.out; omega), by omega, by omega, by omega, HS2, hbd, rfl⟩
      · have hma : m = a ∧ k = kk := by
          have h2 := HSk.out
          cases k with
          | zero => unfold stripD at h2; simp only [Prod.mk.injEq] at h2; exact h2
          | succ j =>
            have hev : (m.tmod 10 == 0) = false := by
              cases h : (m.tmod 10 == 0) with
              | false => rfl
              | true => exact absurd ⟨h, by omega⟩ hgo
            rw [stripD_no hev] at h2
            simp only [Prod.mk.injEq] at h2
            exact h2
        have hcase : ((m.tmod 10 == 0) = false ∧ y < 0) ∨ ((m.tmod 10 == 0) = false ∧ ¬ y < 0) ∨ ((m.tmod 10 == 0) = true ∧ ¬ y < 0) := by
          cases h : (m.tmod 10 == 0) with
          | false =>
            by_cases hy : y < 0
            · exact .inl ⟨rfl, hy⟩
            · exact .inr (.inl ⟨rfl, hy⟩)
          | true => exact .inr (.inr ⟨rfl, fun hy => hgo ⟨h, by have := HYk.out; omega⟩⟩)
        obtain ⟨okv, hok⟩ : ∃ b, decOk m y = b := ⟨_, rfl⟩
        have HF : Hid (decV (decNew n y0) = if okv = true then decV (some (m, y)) else decV none) := Lib.hid (by
          rw [HD.out, ← hma.1, ← hma.2, ← HYk.out, hok]
          cases okv <;> rfl)
        have hdc := fun w2 (hb : Below w.heap.size w w2) => i_DecOk m y w2 (by omega) (by omega) (hP.below hb)
        rw [hok] at hdc
        clear hgo hma hok HSk HYk HD HDD
        rcases hcase with ⟨hev, hyn⟩ | ⟨hev, hyn⟩ | ⟨hev, hyn⟩
        all_goals
          cases okv
          all_goals
            go_wp2_with fail
            go_loopg [0, 1] 0 (fun f v0 v1 wr => v0 = .int .i64 m ∧ v1 = .int .i64 y ∧ wr = wo)
            case atStart => exact ⟨rfl, rfl, rfl⟩
            case round =>
              obtain ⟨rfl, rfl, rfl⟩ := hrel
              have r0 := hR.cell 0
              have r1 := hR.cell 1
              have g0 := hR.frozen 0
              have g1 := hR.frozen 1
              have hz1 := hR.lt
              have kd := Below.one wr (.cells #[.int .i64 m, .int .i64 y] 75)
              go_wp2_with (go_at_call 86; refine (hdc _ (K.up kd)).mono ?_; rintro e w2 ⟨rfl, hb2⟩; obtain ⟨hc2, hf2⟩ := bcell hb2; have hR2 := (hR.below kd hz1).below hb2 (by simp; omega))
              exact bodyPost_ret (results_blk2 Tryz.results103 Tryz.isAgg75 (by exact Tryz.sizeOf75) rfl (hR2.two _ _)) rfl ⟨by rw [HF.out]; rfl, (((K.up kd).up hb2).setCell (Nat.le_refl _) _).setCell (Nat.le_refl _) _⟩
  · obtain ⟨k0, rfl⟩ : ∃ k0 : Nat, x = (k0 : Int) := ⟨x.toNat, by omega⟩
    have hdn := decNew_high HDD.out h0 hx0
    rw [Int.toNat_natCast] at hdn
    obtain ⟨T, hT⟩ : ∃ T, n * 10 ^ k0 = T := ⟨_, rfl⟩
    rw [hT] at hdn
    have HD := Lib.hid hdn
    have HT := Lib.hid hT
    have hk40 : k0 ≤ 40 := by omega
    have hkp : (0 : Int) < (k0 : Int) := by omega
    clear hd hx h0 hdn hT hxb hx0
    go_enter Tryz.func103, Tryz.ntmps103
    go_wp2_with (first
      | (go_at_call 99; refine (hdg _ K).mono ?_; rintro e w1 ⟨rfl, hb1⟩; replace hR := hR.below hb1 hR.lt; replace K := K.up hb1; have r0 := hR.cell 0; have r1 := hR.cell 1; have f0 := hR.frozen 0; have f1 := hR.frozen 1)
      | (go_at_call 56; refine (i_within _ _ _ _).mono ?_; rintro e w' ⟨rfl, rfl⟩))

    go_loopg [0, 1] 0 (fun f v0 v1 wr => v0 = .int .i64 n ∧ v1 = .int .i64 k0 ∧ wr = w1)
    case atStart => exact ⟨rfl, rfl, rfl⟩
    case round =>
      obtain ⟨rfl, rfl, rfl⟩ := hrel
      obtain ⟨wo, rfl⟩ : ∃ wo : World, wo = wr := ⟨_, rfl⟩
      have hn1 : -100000000000000000 < n ∧ n < 100000000000000000 := by omega
      have hkn : ¬ (k0 : Int) < 0 := by omega
      cases hev : (n.tmod 10 == 0)
      all_goals
        go_wp2_with fail
        go_loopg [0, 1] k0 (fun f v0 v1 wr => ∃ (m : Int) (k : Nat), v0 = .int .i64 m ∧ v1 = .int .i64 k ∧ k ≤ f ∧ k ≤ 40 ∧ Hid (m * 10 ^ k = T) ∧ m.natAbs < 100000000000000000 ∧ wr = wo)
        case atStart => exact ⟨n, k0, rfl, rfl, Nat.le_refl _, hk40, HT, hnb2, rfl⟩
        case round =>
          obtain ⟨m, k, rfl, rfl, hkf, hk4, HTk, hmb, rfl⟩ := hrel
          clear HT hnb2 hev
          have hm1 : -100000000000000000 < m ∧ m < 100000000000000000 := by omega
          have r0 := hR.cell 0
          have r1 := hR.cell 1
          have g0 := hR.frozen 0
          have g1 := hR.frozen 1
          have hz1 := hR.lt
          cases k with
          | zero =>
            have hmT : m = T := by rw [← HTk.out, Int.pow_zero, Int.mul_one]
            obtain ⟨okv, hok⟩ : ∃ b, decOk m 0 = b := ⟨_, rfl⟩
            have HF : Hid (decV (decNew n k0) = if okv = true then decV (some (m, 0)) else decV none) := Lib.hid (by
              rw [HD.out, ← hmT, ← hok, decOk_zero]
              by_cases h : m.natAbs ≤ 1000000000000000
              · rw [if_pos h, inR_yes (by omega) (by omega)]; rfl
              · rw [if_neg h, inR_no (by omega)]; rfl)
            have hdc := fun w2 (hb : Below w.heap.size w w2) => i_DecOk m 0 w2 (by omega) (by omega) (hP.below hb)
            rw [hok] at hdc
            have kd := Below.one wr (.cells #[.int .i64 m, .int .i64 0] 75)
            clear hmT hok HTk HD HDD
            cases okv
            all_goals
              go_wp2_with (go_at_call 86; refine (hdc _ (K.up kd)).mono ?_; rintro e w2 ⟨rfl, hb2⟩; obtain ⟨hc2, hf2⟩ := bcell hb2; have hR2 := (hR.below kd hz1).below hb2 (by simp; omega))
              exact bodyPost_ret (results_blk2 Tryz.results103 Tryz.isAgg75 (by exact Tryz.sizeOf75) rfl (hR2.two _ _)) rfl ⟨by rw [HF.out]; rfl, (((K.up kd).up hb2).setCell (Nat.le_refl _) _).setCell (Nat.le_refl _) _⟩
          | succ k =>
            have hkp2 : (0 : Int) < ((k + 1 : Nat) : Int) := by omega
            have hta := ten_abs m (k + 1) (by omega)
            rw [HTk.out] at hta
            by_cases hlim : -100000000000000 ≤ m ∧ m ≤ 100000000000000
            · have hin := inR_yes hlim.1 hlim.2
              obtain ⟨f, rfl⟩ : ∃ f, gk = f + 1 := ⟨gk - 1, by omega⟩
              have HT2 : Hid ((m * 10) * 10 ^ k = T) := Lib.hid (by rw [← HTk.out, ten_step])
              obtain ⟨hl1, hl2⟩ := hlim
              clear hta HTk
              go_wp2_with (go_at_call 56; refine (i_within _ _ _ _).mono ?_; rintro e w' ⟨rfl, rfl⟩)
              go_roundg f
              case measure => omega
              case rel => exact ⟨m * 10, k, rfl, by go_num, by omega, by omega, HT2, by omega, rfl⟩
            · have hin : inR m (-100000000000000) 100000000000000 = false := inR_no (by omega)
              have HF : Hid (decV (decNew n k0) = decV none) := Lib.hid (by rw [HD.out, if_neg (by omega)])
              clear hta hlim HTk
              go_wp2_with (go_at_call 56; refine (i_within _ _ _ _).mono ?_; rintro e w' ⟨rfl, rfl⟩)
              exact bodyPost_ret (results_blk2 Tryz.results103 Tryz.isAgg75 (by exact Tryz.sizeOf75) rfl (hR.two _ _)) rfl ⟨by rw [HF.out]; rfl, (K.setCell (Nat.le_refl _) _).setCell (Nat.le_refl _) _⟩
end Go.Proofs.YtmnlkedacnemcaaGreatDoor
