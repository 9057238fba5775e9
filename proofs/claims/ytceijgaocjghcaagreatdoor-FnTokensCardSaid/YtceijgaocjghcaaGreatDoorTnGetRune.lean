/- GetRune, TextOk, RunesOf: the reference's. -/
import Derived.Test.YtceijgaocjghcaaGreatDoorTnM5
import Derived.Test.YtceijgaocjghcaaGreatDoorTnBs
import Derived.Deep.LoopGhost
set_option linter.unusedVariables false
set_option maxRecDepth 100000
set_option linter.unusedSimpArgs false
namespace Go.Proofs.YtceijgaocjghcaaGreatDoor
open Go.RowKit

/-- What GetRune says of a place in a text: the character, the place behind, whether there is one. -/
def runeAt (l : List UInt8) (i : Int) : Int × Int × Bool :=
  if 0 ≤ i ∧ i < l.length then
    match getR (l.drop i.toNat) with
    | none => (0, 0, false)
    | some d => ((d.1 : Int), i + (d.2 : Int), true)
  else (0, 0, false)
theorem runeAt_out {l : List UInt8} {i : Int} (h : ¬ (0 ≤ i ∧ i < l.length)) : runeAt l i = (0, 0, false) := if_neg h
theorem runeAt_in {l : List UInt8} {i : Nat} (h : i < l.length) : runeAt l i = match getR (l.drop i) with | none => (0, 0, false) | some d => ((d.1 : Int), (i : Int) + (d.2 : Int), true) := by
  unfold runeAt
  rw [if_pos (by omega)]
  rfl
def ret3 (p : Int × Int × Bool) : Ending := .returned (.tuple #[.int .i64 p.1, .int .i64 p.2.1, .bool p.2.2])
theorem getD_drop (l : List UInt8) (i j : Nat) (h : i + j < l.length) : (l.drop i).getD j 0 = l[i + j] := by
  simp [List.getD, h]
theorem accR_up (l : List UInt8) (x : Int) (h0 : 0 ≤ x) (h1 : x ≤ 127) : ∀ j, j ≤ 3 → (∀ i, 1 ≤ i → i ≤ j → contR l i) → 0 ≤ accR l x j ∧ accR l x j ≤ 33554431
  | 0, _, _ => by simp [accR]; omega
  | 1, _, h => by have := h 1 (by omega) (by omega); unfold contR at this; simp only [accR, Nat.zero_add]; omega
  | 2, _, h => by have a := h 1 (by omega) (by omega); have b := h 2 (by omega) (by omega); unfold contR at a b; simp only [accR, Nat.zero_add, Nat.reduceAdd]; omega
  | 3, _, h => by have a := h 1 (by omega) (by omega); have b := h 2 (by omega) (by omega); have c := h 3 (by omega) (by omega); unfold contR at a b c; simp only [accR, Nat.zero_add, Nat.reduceAdd]; omega
  | j + 4, h, _ => by omega
set_option maxHeartbeats 4000000 in
theorem s_GetRune (A : Option Addr) (n c : Nat) (l : List UInt8) (i : Int) (w : World) (B : Nat) (h : Sl w B 1 A n c (u8s l)) (hi : -9223372036854775808 ≤ i ∧ i ≤ 9223372036854775807) (hn : n ≤ 1099511627776) :
    Calls Tryz.prog 83 #[.slice A n c, .int .i64 i] w fun e w' => e = ret3 (runeAt l i) ∧ w = w' := by
  have hl := h.blen
  by_cases h0 : 0 ≤ i
  rotate_left
  · have h0' : i < 0 := by omega
    rw [runeAt_out (by omega)]
    go_enter Tryz.func83, Tryz.ntmps83
    go_wp2_with fail
    go_ret3
    exact ⟨rfl, rfl⟩
  by_cases h1 : i < (n : Int)
  rotate_left
  · have h1' : (n : Int) ≤ i := by omega
    rw [runeAt_out (by omega)]
    go_enter Tryz.func83, Tryz.ntmps83
    go_wp2_with fail
    go_ret3
    exact ⟨rfl, rfl⟩
  obtain ⟨j, rfl⟩ := Int.eq_ofNat_of_zero_le h0
  have hj : j < n := by omega
  rw [runeAt_in (by omega)]
  obtain ⟨g, o, rfl, hg, hjl, hc⟩ := h.byte hj
  have hne : l.drop j ≠ [] := by intro e; have := congrArg List.length e; simp at this; omega
  have hd0 : (l.drop j).getD 0 0 = l[j] := by rw [getD_drop l j 0 (by omega)]; rfl
  have hdl : (l.drop j).length = n - j := by rw [List.length_drop]; omega
  obtain ⟨x, hx⟩ : ∃ x, l[j].toNat = x := ⟨_, rfl⟩
  have hxlt : x < 256 := by rw [← hx]; exact l[j].toNat_lt
  rw [hx] at hc
  rw [← hd0] at hx
  have hbs : ∀ k, j + k < n → w.cell? ⟨g, o + (j + k), none⟩ = some (.int .u8 (((l.drop j).getD k 0).toNat : Int)) := fun k hk => by
    obtain ⟨g2, o2, e, _, hb, hc2⟩ := h.byte hk
    cases e
    rw [getD_drop l j k hb]; exact hc2
  obtain ⟨R, hR⟩ : ∃ R, (match getR (l.drop j) with | none => (0, 0, false) | some d => ((d.1 : Int), (j : Int) + (d.2 : Int), true)) = R := ⟨_, rfl⟩
  have hfin : ∀ W : Nat, W = wid0 x → 0 < W → W ≤ n - j → (∀ k, 1 ≤ k → k < W → contR (l.drop j) k) → R = if wideOf (accR (l.drop j) (base0 x) (W - 1)) = W then (accR (l.drop j) (base0 x) (W - 1), (j : Int) + W, true) else (0, 0, false) := fun W hW h0 hn hc => by
    rw [← hx] at hW
    rw [← hR, getR_all hne hW h0 (by omega) hc, hx]
    have hb := accR_up (l.drop j) (base0 x) (by omega) (by unfold base0; (repeat' split) <;> omega) (W - 1) (by rw [hW]; unfold wid0; (repeat' split) <;> omega) (fun i a b => hc i a (by omega))
    split
    · rename_i e
      split at e
      · cases e
      · rename_i e2; rw [if_neg e2]
    · rename_i d e
      split at e
      · rename_i e2
        rw [if_pos e2]
        obtain rfl := Option.some.inj e
        show (((accR _ _ _).toNat : Int), _, _) = _
        rw [Int.toNat_of_nonneg hb.1]
      · cases e
  have hnone : getR (l.drop j) = none → R = (0, 0, false) := fun e => by rw [← hR, e]
  have hno : wid0 x = 0 → R = (0, 0, false) := fun e => hnone (getR_none0 hne (by rw [hx]; exact e))
  have hsh : n - j < wid0 x → R = (0, 0, false) := fun e => hnone (getR_short hne (by rw [hx, hdl]; exact e))
  have hct : ∀ k, 1 ≤ k → k < wid0 x → ¬ contR (l.drop j) k → R = (0, 0, false) := fun k a b c => hnone (getR_cont hne a (by rw [hx]; exact b) c)
  have hcn : (j : Int) < (n : Int) := h1
  rw [hR]
  obtain ⟨m, hm⟩ : ∃ m, l.drop j = m := ⟨_, rfl⟩
  rw [hm] at hbs hfin hct
  clear h0 h1 hd0 hx hne hdl hR hnone hm h hjl hl
  by_cases x1 : x < 128
  · have e0 : wid0 x = 1 := by simp [wid0, x1]
    have e1 : base0 x = x := by simp [base0, x1]
    have x1i : (x : Int) < 128 := by omega
    have hRR := hfin 1 e0.symm (by omega) (by omega) (fun k a b => by omega)
    rw [e1] at hRR
    simp only [Nat.sub_self, accR] at hRR
    have hw := (wideOf_1 (c := (x : Int)) (by omega)).2 (by omega)
    rw [if_pos (by exact hw)] at hRR
    have HR := Lib.hid hRR
    have hnj : ¬ (1 : Int) > (n : Int) - (j : Int) := by omega
    clear hbs hfin hno hsh hct hRR e0 e1
    go_enter Tryz.func83, Tryz.ntmps83
    go_wp2_with (first | (go_at_call 47; refine (s_l1In _ _ _ _).mono ?_; rintro e w' ⟨rfl, rfl⟩) | (go_at_call 122; refine (s_WideOf _ _).mono ?_; rintro e w' ⟨rfl, rfl⟩))
    go_loop [9, 10, 11] (fun nv iv yv => nv = .int .i64 x ∧ iv = .int .i64 1) (fun _ _ _ => 0)
    case atStart => exact ⟨rfl, rfl⟩
    case round =>
      obtain ⟨rfl, rfl⟩ := hrel
      go_wp2_with (first | (go_at_call 47; refine (s_l1In _ _ _ _).mono ?_; rintro e w' ⟨rfl, rfl⟩) | (go_at_call 122; refine (s_WideOf _ _).mono ?_; rintro e w' ⟨rfl, rfl⟩))
      go_ret3
      exact ⟨by rw [HR.out]; rfl, rfl⟩
  by_cases x2 : x < 192
  · have e0 : wid0 x = 0 := by unfold wid0; (repeat' split) <;> omega
    have x1i : ¬ (x : Int) < 128 := by omega
    have HR := Lib.hid (hno e0)
    clear hbs hfin hno hsh hct e0
    have t192 : inR (x : Int) 192 223 = false := inR_no (by omega)
    have t224 : inR (x : Int) 224 239 = false := inR_no (by omega)
    have t240 : inR (x : Int) 240 247 = false := inR_no (by omega)
    go_enter Tryz.func83, Tryz.ntmps83
    go_wp2_with (first | (go_at_call 47; refine (s_l1In _ _ _ _).mono ?_; rintro e w' ⟨rfl, rfl⟩) | (go_at_call 122; refine (s_WideOf _ _).mono ?_; rintro e w' ⟨rfl, rfl⟩))
    go_ret3
    exact ⟨by rw [HR.out]; rfl, rfl⟩
  by_cases x3 : x < 224
  · have e0 : wid0 x = 2 := by unfold wid0; (repeat' split) <;> omega
    have e1 : base0 x = x - 192 := by unfold base0; (repeat' split) <;> omega
    have x1i : ¬ (x : Int) < 128 := by omega
    rw [e0] at hfin hsh hct
    rw [e1] at hfin
    have hxc : ((x - 192 : Nat) : Int) = (x : Int) - 192 := by omega
    rw [hxc] at hfin
    have hb0 : 0 ≤ (x : Int) - 192 ∧ (x : Int) - 192 ≤ 127 := by omega
    have t192 : inR (x : Int) 192 223 = true := inR_yes (by omega) (by omega)
    by_cases hs : n - j < 2
    · have HR := Lib.hid (hsh hs)
      have hsi : (n : Int) - (j : Int) < 2 := by omega
      clear hbs hfin hno hsh hct e0 e1 hxc hs
      go_enter Tryz.func83, Tryz.ntmps83
      go_wp2_with (first | (go_at_call 47; refine (s_l1In _ _ _ _).mono ?_; rintro e w' ⟨rfl, rfl⟩) | (go_at_call 122; refine (s_WideOf _ _).mono ?_; rintro e w' ⟨rfl, rfl⟩))
      go_ret3
      exact ⟨by rw [HR.out]; rfl, rfl⟩
    · have hsi : ¬ (n : Int) - (j : Int) < 2 := by omega
      have HF := Lib.hid hfin
      have HC := Lib.hid hct
      have HB := Lib.hid hbs
      clear hbs hfin hno hsh hct e0 e1 hxc
      go_enter Tryz.func83, Tryz.ntmps83
      go_wp2_with (first | (go_at_call 47; refine (s_l1In _ _ _ _).mono ?_; rintro e w' ⟨rfl, rfl⟩) | (go_at_call 122; refine (s_WideOf _ _).mono ?_; rintro e w' ⟨rfl, rfl⟩))
      go_loop [9, 10, 11] (fun nv iv yv => ∃ k : Nat, 1 ≤ k ∧ k ≤ 2 ∧ iv = .int .i64 k ∧ nv = .int .i64 (accR m ((x : Int) - 192) (k - 1)) ∧ Hid (∀ q, 1 ≤ q → q < k → contR m q)) (fun _ iv _ => 2 - (intOf iv).toNat)
      case atStart => exact ⟨1, by omega, by omega, rfl, rfl, Lib.hid (fun q a b => by omega)⟩
      case round =>
        obtain ⟨k, hk1, hkW, rfl, rfl, HQ⟩ := hrel
        have hup := accR_up m ((x : Int) - 192) hb0.1 hb0.2 (k - 1) (by omega) (fun q a b => HQ.out q a (by omega))
        by_cases hlt : k < 2
        · have hc2 := HB.out k (by omega)
          have hylt := (m.getD k 0).toNat_lt
          have hac : 64 * accR m ((x : Int) - 192) (k - 1) + (m.getD k 0).toNat - 128 = accR m ((x : Int) - 192) k := by
            obtain ⟨k', rfl⟩ : ∃ k', k = k' + 1 := ⟨k - 1, by omega⟩
            rfl
          by_cases hcon : contR m k
          · have hup2 := accR_up m ((x : Int) - 192) hb0.1 hb0.2 k (by omega) (fun q a b => by by_cases e : q = k; (subst e; exact hcon); exact HQ.out q a (by omega))
            have hqn : ∀ q, 1 ≤ q → q < k + 1 → contR m q := fun q a b => by by_cases e : q = k; (subst e; exact hcon); exact HQ.out q a (by omega)
            have HQ2 := Lib.hid hqn
            have ty : inR ((m.getD k 0).toNat : Int) 128 191 = true := inR_yes (by have := hcon.1; omega) (by have := hcon.2; omega)
            have HA := Lib.hid hac
            clear hqn hac
            generalize (m.getD k 0).toNat = y at hc2 hylt ty HA
            generalize accR m ((x : Int) - 192) (k - 1) = a at hup HA
            have hji : (0 : Int) ≤ (j : Int) + (k : Int) := by omega
            have hji2 : (j : Int) + (k : Int) < (n : Int) := by omega
            have hji3 : ((j : Int) + (k : Int)).toNat = j + k := by omega
            go_wp2_with (first | (go_at_call 47; refine (s_l1In _ _ _ _).mono ?_; rintro e w' ⟨rfl, rfl⟩) | (go_at_call 122; refine (s_WideOf _ _).mono ?_; rintro e w' ⟨rfl, rfl⟩))
            go_round
            case rel => exact ⟨k + 1, by omega, by omega, by go_num, by rw [HA.out]; rfl, HQ2⟩
            case measure => simp [intOf]; omega
          · have HR := Lib.hid (HC.out k hk1 hlt hcon)
            have ty : inR ((m.getD k 0).toNat : Int) 128 191 = false := inR_no (by unfold contR at hcon; omega)
            clear hac
            generalize (m.getD k 0).toNat = y at hc2 hylt ty
            have hji : (0 : Int) ≤ (j : Int) + (k : Int) := by omega
            have hji2 : (j : Int) + (k : Int) < (n : Int) := by omega
            have hji3 : ((j : Int) + (k : Int)).toNat = j + k := by omega
            clear hcon
            go_wp2_with (first | (go_at_call 47; refine (s_l1In _ _ _ _).mono ?_; rintro e w' ⟨rfl, rfl⟩) | (go_at_call 122; refine (s_WideOf _ _).mono ?_; rintro e w' ⟨rfl, rfl⟩))
            go_ret3
            exact ⟨by rw [HR.out]; rfl, rfl⟩
        · obtain rfl : k = 2 := by omega
          have hRR := HF.out 2 rfl (by omega) (by omega) HQ.out
          obtain ⟨a, ha⟩ : ∃ a, accR m ((x : Int) - 192) (2 - 1) = a := ⟨_, rfl⟩
          rw [ha] at hRR hup ⊢
          clear ha
          by_cases hwi : wideOf a = 2
          · rw [if_pos (by exact hwi)] at hRR
            have HR := Lib.hid hRR
            have hwz : (wideOf a != 2) = false := by simp [hwi]
            clear hRR hwi
            go_wp2_with (first | (go_at_call 47; refine (s_l1In _ _ _ _).mono ?_; rintro e w' ⟨rfl, rfl⟩) | (go_at_call 122; refine (s_WideOf _ _).mono ?_; rintro e w' ⟨rfl, rfl⟩))
            go_ret3
            exact ⟨by rw [HR.out]; rfl, rfl⟩
          · rw [if_neg (by exact hwi)] at hRR
            have HR := Lib.hid hRR
            have hwz : (wideOf a != 2) = true := by simp [hwi]
            clear hRR hwi
            go_wp2_with (first | (go_at_call 47; refine (s_l1In _ _ _ _).mono ?_; rintro e w' ⟨rfl, rfl⟩) | (go_at_call 122; refine (s_WideOf _ _).mono ?_; rintro e w' ⟨rfl, rfl⟩))
            go_ret3
            exact ⟨by rw [HR.out]; rfl, rfl⟩
  by_cases x4 : x < 240
  · have e0 : wid0 x = 3 := by unfold wid0; (repeat' split) <;> omega
    have e1 : base0 x = x - 224 := by unfold base0; (repeat' split) <;> omega
    have x1i : ¬ (x : Int) < 128 := by omega
    rw [e0] at hfin hsh hct
    rw [e1] at hfin
    have hxc : ((x - 224 : Nat) : Int) = (x : Int) - 224 := by omega
    rw [hxc] at hfin
    have hb0 : 0 ≤ (x : Int) - 224 ∧ (x : Int) - 224 ≤ 127 := by omega
    have t192 : inR (x : Int) 192 223 = false := inR_no (by omega)
    have t224 : inR (x : Int) 224 239 = true := inR_yes (by omega) (by omega)
    by_cases hs : n - j < 3
    · have HR := Lib.hid (hsh hs)
      have hsi : (n : Int) - (j : Int) < 3 := by omega
      clear hbs hfin hno hsh hct e0 e1 hxc hs
      go_enter Tryz.func83, Tryz.ntmps83
      go_wp2_with (first | (go_at_call 47; refine (s_l1In _ _ _ _).mono ?_; rintro e w' ⟨rfl, rfl⟩) | (go_at_call 122; refine (s_WideOf _ _).mono ?_; rintro e w' ⟨rfl, rfl⟩))
      go_ret3
      exact ⟨by rw [HR.out]; rfl, rfl⟩
    · have hsi : ¬ (n : Int) - (j : Int) < 3 := by omega
      have HF := Lib.hid hfin
      have HC := Lib.hid hct
      have HB := Lib.hid hbs
      clear hbs hfin hno hsh hct e0 e1 hxc
      go_enter Tryz.func83, Tryz.ntmps83
      go_wp2_with (first | (go_at_call 47; refine (s_l1In _ _ _ _).mono ?_; rintro e w' ⟨rfl, rfl⟩) | (go_at_call 122; refine (s_WideOf _ _).mono ?_; rintro e w' ⟨rfl, rfl⟩))
      go_loop [9, 10, 11] (fun nv iv yv => ∃ k : Nat, 1 ≤ k ∧ k ≤ 3 ∧ iv = .int .i64 k ∧ nv = .int .i64 (accR m ((x : Int) - 224) (k - 1)) ∧ Hid (∀ q, 1 ≤ q → q < k → contR m q)) (fun _ iv _ => 3 - (intOf iv).toNat)
      case atStart => exact ⟨1, by omega, by omega, rfl, rfl, Lib.hid (fun q a b => by omega)⟩
      case round =>
        obtain ⟨k, hk1, hkW, rfl, rfl, HQ⟩ := hrel
        have hup := accR_up m ((x : Int) - 224) hb0.1 hb0.2 (k - 1) (by omega) (fun q a b => HQ.out q a (by omega))
        by_cases hlt : k < 3
        · have hc2 := HB.out k (by omega)
          have hylt := (m.getD k 0).toNat_lt
          have hac : 64 * accR m ((x : Int) - 224) (k - 1) + (m.getD k 0).toNat - 128 = accR m ((x : Int) - 224) k := by
            obtain ⟨k', rfl⟩ : ∃ k', k = k' + 1 := ⟨k - 1, by omega⟩
            rfl
          by_cases hcon : contR m k
          · have hup2 := accR_up m ((x : Int) - 224) hb0.1 hb0.2 k (by omega) (fun q a b => by by_cases e : q = k; (subst e; exact hcon); exact HQ.out q a (by omega))
            have hqn : ∀ q, 1 ≤ q → q < k + 1 → contR m q := fun q a b => by by_cases e : q = k; (subst e; exact hcon); exact HQ.out q a (by omega)
            have HQ2 := Lib.hid hqn
            have ty : inR ((m.getD k 0).toNat : Int) 128 191 = true := inR_yes (by have := hcon.1; omega) (by have := hcon.2; omega)
            have HA := Lib.hid hac
            clear hqn hac
            generalize (m.getD k 0).toNat = y at hc2 hylt ty HA
            generalize accR m ((x : Int) - 224) (k - 1) = a at hup HA
            have hji : (0 : Int) ≤ (j : Int) + (k : Int) := by omega
            have hji2 : (j : Int) + (k : Int) < (n : Int) := by omega
            have hji3 : ((j : Int) + (k : Int)).toNat = j + k := by omega
            go_wp2_with (first | (go_at_call 47; refine (s_l1In _ _ _ _).mono ?_; rintro e w' ⟨rfl, rfl⟩) | (go_at_call 122; refine (s_WideOf _ _).mono ?_; rintro e w' ⟨rfl, rfl⟩))
            go_round
            case rel => exact ⟨k + 1, by omega, by omega, by go_num, by rw [HA.out]; rfl, HQ2⟩
            case measure => simp [intOf]; omega
          · have HR := Lib.hid (HC.out k hk1 hlt hcon)
            have ty : inR ((m.getD k 0).toNat : Int) 128 191 = false := inR_no (by unfold contR at hcon; omega)
            clear hac
            generalize (m.getD k 0).toNat = y at hc2 hylt ty
            have hji : (0 : Int) ≤ (j : Int) + (k : Int) := by omega
            have hji2 : (j : Int) + (k : Int) < (n : Int) := by omega
            have hji3 : ((j : Int) + (k : Int)).toNat = j + k := by omega
            clear hcon
            go_wp2_with (first | (go_at_call 47; refine (s_l1In _ _ _ _).mono ?_; rintro e w' ⟨rfl, rfl⟩) | (go_at_call 122; refine (s_WideOf _ _).mono ?_; rintro e w' ⟨rfl, rfl⟩))
            go_ret3
            exact ⟨by rw [HR.out]; rfl, rfl⟩
        · obtain rfl : k = 3 := by omega
          have hRR := HF.out 3 rfl (by omega) (by omega) HQ.out
          obtain ⟨a, ha⟩ : ∃ a, accR m ((x : Int) - 224) (3 - 1) = a := ⟨_, rfl⟩
          rw [ha] at hRR hup ⊢
          clear ha
          by_cases hwi : wideOf a = 3
          · rw [if_pos (by exact hwi)] at hRR
            have HR := Lib.hid hRR
            have hwz : (wideOf a != 3) = false := by simp [hwi]
            clear hRR hwi
            go_wp2_with (first | (go_at_call 47; refine (s_l1In _ _ _ _).mono ?_; rintro e w' ⟨rfl, rfl⟩) | (go_at_call 122; refine (s_WideOf _ _).mono ?_; rintro e w' ⟨rfl, rfl⟩))
            go_ret3
            exact ⟨by rw [HR.out]; rfl, rfl⟩
          · rw [if_neg (by exact hwi)] at hRR
            have HR := Lib.hid hRR
            have hwz : (wideOf a != 3) = true := by simp [hwi]
            clear hRR hwi
            go_wp2_with (first | (go_at_call 47; refine (s_l1In _ _ _ _).mono ?_; rintro e w' ⟨rfl, rfl⟩) | (go_at_call 122; refine (s_WideOf _ _).mono ?_; rintro e w' ⟨rfl, rfl⟩))
            go_ret3
            exact ⟨by rw [HR.out]; rfl, rfl⟩
  by_cases x5 : x < 248
  · have e0 : wid0 x = 4 := by unfold wid0; (repeat' split) <;> omega
    have e1 : base0 x = x - 240 := by unfold base0; (repeat' split) <;> omega
    have x1i : ¬ (x : Int) < 128 := by omega
    rw [e0] at hfin hsh hct
    rw [e1] at hfin
    have hxc : ((x - 240 : Nat) : Int) = (x : Int) - 240 := by omega
    rw [hxc] at hfin
    have hb0 : 0 ≤ (x : Int) - 240 ∧ (x : Int) - 240 ≤ 127 := by omega
    have t192 : inR (x : Int) 192 223 = false := inR_no (by omega)
    have t224 : inR (x : Int) 224 239 = false := inR_no (by omega)
    have t240 : inR (x : Int) 240 247 = true := inR_yes (by omega) (by omega)
    by_cases hs : n - j < 4
    · have HR := Lib.hid (hsh hs)
      have hsi : (n : Int) - (j : Int) < 4 := by omega
      clear hbs hfin hno hsh hct e0 e1 hxc hs
      go_enter Tryz.func83, Tryz.ntmps83
      go_wp2_with (first | (go_at_call 47; refine (s_l1In _ _ _ _).mono ?_; rintro e w' ⟨rfl, rfl⟩) | (go_at_call 122; refine (s_WideOf _ _).mono ?_; rintro e w' ⟨rfl, rfl⟩))
      go_ret3
      exact ⟨by rw [HR.out]; rfl, rfl⟩
    · have hsi : ¬ (n : Int) - (j : Int) < 4 := by omega
      have HF := Lib.hid hfin
      have HC := Lib.hid hct
      have HB := Lib.hid hbs
      clear hbs hfin hno hsh hct e0 e1 hxc
      go_enter Tryz.func83, Tryz.ntmps83
      go_wp2_with (first | (go_at_call 47; refine (s_l1In _ _ _ _).mono ?_; rintro e w' ⟨rfl, rfl⟩) | (go_at_call 122; refine (s_WideOf _ _).mono ?_; rintro e w' ⟨rfl, rfl⟩))
      go_loop [9, 10, 11] (fun nv iv yv => ∃ k : Nat, 1 ≤ k ∧ k ≤ 4 ∧ iv = .int .i64 k ∧ nv = .int .i64 (accR m ((x : Int) - 240) (k - 1)) ∧ Hid (∀ q, 1 ≤ q → q < k → contR m q)) (fun _ iv _ => 4 - (intOf iv).toNat)
      case atStart => exact ⟨1, by omega, by omega, rfl, rfl, Lib.hid (fun q a b => by omega)⟩
      case round =>
        obtain ⟨k, hk1, hkW, rfl, rfl, HQ⟩ := hrel
        have hup := accR_up m ((x : Int) - 240) hb0.1 hb0.2 (k - 1) (by omega) (fun q a b => HQ.out q a (by omega))
        by_cases hlt : k < 4
        · have hc2 := HB.out k (by omega)
          have hylt := (m.getD k 0).toNat_lt
          have hac : 64 * accR m ((x : Int) - 240) (k - 1) + (m.getD k 0).toNat - 128 = accR m ((x : Int) - 240) k := by
            obtain ⟨k', rfl⟩ : ∃ k', k = k' + 1 := ⟨k - 1, by omega⟩
            rfl
          by_cases hcon : contR m k
          · have hup2 := accR_up m ((x : Int) - 240) hb0.1 hb0.2 k (by omega) (fun q a b => by by_cases e : q = k; (subst e; exact hcon); exact HQ.out q a (by omega))
            have hqn : ∀ q, 1 ≤ q → q < k + 1 → contR m q := fun q a b => by by_cases e : q = k; (subst e; exact hcon); exact HQ.out q a (by omega)
            have HQ2 := Lib.hid hqn
            have ty : inR ((m.getD k 0).toNat : Int) 128 191 = true := inR_yes (by have := hcon.1; omega) (by have := hcon.2; omega)
            have HA := Lib.hid hac
            clear hqn hac
            generalize (m.getD k 0).toNat = y at hc2 hylt ty HA
            generalize accR m ((x : Int) - 240) (k - 1) = a at hup HA
            have hji : (0 : Int) ≤ (j : Int) + (k : Int) := by omega
            have hji2 : (j : Int) + (k : Int) < (n : Int) := by omega
            have hji3 : ((j : Int) + (k : Int)).toNat = j + k := by omega
            go_wp2_with (first | (go_at_call 47; refine (s_l1In _ _ _ _).mono ?_; rintro e w' ⟨rfl, rfl⟩) | (go_at_call 122; refine (s_WideOf _ _).mono ?_; rintro e w' ⟨rfl, rfl⟩))
            go_round
            case rel => exact ⟨k + 1, by omega, by omega, by go_num, by rw [HA.out]; rfl, HQ2⟩
            case measure => simp [intOf]; omega
          · have HR := Lib.hid (HC.out k hk1 hlt hcon)
            have ty : inR ((m.getD k 0).toNat : Int) 128 191 = false := inR_no (by unfold contR at hcon; omega)
            clear hac
            generalize (m.getD k 0).toNat = y at hc2 hylt ty
            have hji : (0 : Int) ≤ (j : Int) + (k : Int) := by omega
            have hji2 : (j : Int) + (k : Int) < (n : Int) := by omega
            have hji3 : ((j : Int) + (k : Int)).toNat = j + k := by omega
            clear hcon
            go_wp2_with (first | (go_at_call 47; refine (s_l1In _ _ _ _).mono ?_; rintro e w' ⟨rfl, rfl⟩) | (go_at_call 122; refine (s_WideOf _ _).mono ?_; rintro e w' ⟨rfl, rfl⟩))
            go_ret3
            exact ⟨by rw [HR.out]; rfl, rfl⟩
        · obtain rfl : k = 4 := by omega
          have hRR := HF.out 4 rfl (by omega) (by omega) HQ.out
          obtain ⟨a, ha⟩ : ∃ a, accR m ((x : Int) - 240) (4 - 1) = a := ⟨_, rfl⟩
          rw [ha] at hRR hup ⊢
          clear ha
          by_cases hwi : wideOf a = 4
          · rw [if_pos (by exact hwi)] at hRR
            have HR := Lib.hid hRR
            have hwz : (wideOf a != 4) = false := by simp [hwi]
            clear hRR hwi
            go_wp2_with (first | (go_at_call 47; refine (s_l1In _ _ _ _).mono ?_; rintro e w' ⟨rfl, rfl⟩) | (go_at_call 122; refine (s_WideOf _ _).mono ?_; rintro e w' ⟨rfl, rfl⟩))
            go_ret3
            exact ⟨by rw [HR.out]; rfl, rfl⟩
          · rw [if_neg (by exact hwi)] at hRR
            have HR := Lib.hid hRR
            have hwz : (wideOf a != 4) = true := by simp [hwi]
            clear hRR hwi
            go_wp2_with (first | (go_at_call 47; refine (s_l1In _ _ _ _).mono ?_; rintro e w' ⟨rfl, rfl⟩) | (go_at_call 122; refine (s_WideOf _ _).mono ?_; rintro e w' ⟨rfl, rfl⟩))
            go_ret3
            exact ⟨by rw [HR.out]; rfl, rfl⟩
  · have e0 : wid0 x = 0 := by unfold wid0; (repeat' split) <;> omega
    have x1i : ¬ (x : Int) < 128 := by omega
    have HR := Lib.hid (hno e0)
    clear hbs hfin hno hsh hct e0
    have t192 : inR (x : Int) 192 223 = false := inR_no (by omega)
    have t224 : inR (x : Int) 224 239 = false := inR_no (by omega)
    have t240 : inR (x : Int) 240 247 = false := inR_no (by omega)
    go_enter Tryz.func83, Tryz.ntmps83
    go_wp2_with (first | (go_at_call 47; refine (s_l1In _ _ _ _).mono ?_; rintro e w' ⟨rfl, rfl⟩) | (go_at_call 122; refine (s_WideOf _ _).mono ?_; rintro e w' ⟨rfl, rfl⟩))
    go_ret3
    exact ⟨by rw [HR.out]; rfl, rfl⟩
end Go.Proofs.YtceijgaocjghcaaGreatDoor
