/- Quotes, plain: what stands between marks reads back. No walk in this text. Texts drawn are texts. Written by gen/tokdraws.py. Decimal numbers and leaves drawn. Written by gen/markdraws.py. -/
import Derived.Test.YtmnlkedacnemcaaGreatDoorTwM31
import Derived.Test.YtmnlkedacnemcaaGreatDoorTwM28
import Derived.Deep.LoopGhost
import Derived.Test.YtmnlkedacnemcaaGreatDoorTwM27
import Derived.Deep.RegionHeld3
set_option linter.unusedVariables false
set_option maxRecDepth 100000
set_option linter.unusedSimpArgs false
namespace Go.Proofs.YtmnlkedacnemcaaGreatDoor
open Go.RowKit

theorem getR_enc {c : Nat} (h : runeOk (c : Int) = true) (r : List UInt8) : getR (encL c ++ r) = some (c, (encL c).length) := by
  have ho := runeOk_iff.1 h
  have hw : ∀ (x : Int) (k : Nat), x = c → wideOf (c : Int) = k → (if wideOf x = (k : Int) then some (x.toNat, k) else (none : Option (Nat × Nat))) = some (c, k) := by
    intro x k hx hk
    subst hx
    rw [if_pos hk, Int.toNat_natCast]
  unfold encL
  by_cases h1 : c < 128
  · rw [if_pos h1]
    have b0 := ofNat_toNat' (n := c) (by omega)
    have hb : (([UInt8.ofNat c] ++ r).getD 0 0).toNat = c := b0
    rw [getR_all (k := 1) (by simp) (by rw [hb]; unfold wid0; rw [if_pos h1]) (by omega) (by simp) (fun j a b => by omega), hb]
    exact hw _ 1 (by unfold base0; rw [if_pos h1]; rfl) ((wideOf_1 (by omega)).2 (by omega))
  · rw [if_neg h1]
    by_cases h2 : c < 2048
    · rw [if_pos h2]
      have b0 := ofNat_toNat' (n := 192 + c / 64) (by omega)
      have b1 := ofNat_toNat' (n := 128 + c % 64) (by omega)
      have hb : (([UInt8.ofNat (192 + c / 64), UInt8.ofNat (128 + c % 64)] ++ r).getD 0 0).toNat = 192 + c / 64 := b0
      have hb1 : (([UInt8.ofNat (192 + c / 64), UInt8.ofNat (128 + c % 64)] ++ r).getD 1 0).toNat = 128 + c % 64 := b1
      rw [getR_all (k := 2) (by simp) (by rw [hb]; unfold wid0; (repeat' split) <;> omega) (by omega) (by simp) (fun j a b => by obtain rfl : j = 1 := (by omega); unfold contR; rw [hb1]; omega), hb]
      refine hw _ 2 ?_ ((wideOf_2 (by omega)).2 (by omega))
      show 64 * ((base0 (192 + c / 64) : Nat) : Int) + _ - 128 = _
      rw [hb1]
      unfold base0
      rw [if_neg (by omega), if_pos (by omega)]
      omega
    · rw [if_neg h2]
      by_cases h3 : c < 65536
      · rw [if_pos h3]
        have b0 := ofNat_toNat' (n := 224 + c / 4096) (by omega)
        have b1 := ofNat_toNat' (n := 128 + c / 64 % 64) (by omega)
        have b2 := ofNat_toNat' (n := 128 + c % 64) (by omega)
        have hb : (([UInt8.ofNat (224 + c / 4096), UInt8.ofNat (128 + c / 64 % 64), UInt8.ofNat (128 + c % 64)] ++ r).getD 0 0).toNat = 224 + c / 4096 := b0
        have hb1 : (([UInt8.ofNat (224 + c / 4096), UInt8.ofNat (128 + c / 64 % 64), UInt8.ofNat (128 + c % 64)] ++ r).getD 1 0).toNat = 128 + c / 64 % 64 := b1
        have hb2 : (([UInt8.ofNat (224 + c / 4096), UInt8.ofNat (128 + c / 64 % 64), UInt8.ofNat (128 + c % 64)] ++ r).getD 2 0).toNat = 128 + c % 64 := b2
        rw [getR_all (k := 3) (by simp) (by rw [hb]; unfold wid0; (repeat' split) <;> omega) (by omega) (by simp) (fun j a b => by
          have : j = 1 ∨ j = 2 := by omega
          rcases this with rfl | rfl
          · unfold contR; rw [hb1]; omega
          · unfold contR; rw [hb2]; omega), hb]
        refine hw _ 3 ?_ ((wideOf_3 (by omega)).2 (by omega))
        show 64 * (64 * ((base0 (224 + c / 4096) : Nat) : Int) + _ - 128) + _ - 128 = _
        rw [hb1, hb2]
        unfold base0
        rw [if_neg (by omega), if_neg (by omega), if_pos (by omega)]
        omega
      · rw [if_neg h3]
        have b0 := ofNat_toNat' (n := 240 + c / 262144) (by omega)
        have b1 := ofNat_toNat' (n := 128 + c / 4096 % 64) (by omega)
        have b2 := ofNat_toNat' (n := 128 + c / 64 % 64) (by omega)
        have b3 := ofNat_toNat' (n := 128 + c % 64) (by omega)
        have hb : (([UInt8.ofNat (240 + c / 262144), UInt8.ofNat (128 + c / 4096 % 64), UInt8.ofNat (128 + c / 64 % 64), UInt8.ofNat (128 + c % 64)] ++ r).getD 0 0).toNat = 240 + c / 262144 := b0
        have hb1 : (([UInt8.ofNat (240 + c / 262144), UInt8.ofNat (128 + c / 4096 % 64), UInt8.ofNat (128 + c / 64 % 64), UInt8.ofNat (128 + c % 64)] ++ r).getD 1 0).toNat = 128 + c / 4096 % 64 := b1
        have hb2 : (([UInt8.ofNat (240 + c / 262144), UInt8.ofNat (128 + c / 4096 % 64), UInt8.ofNat (128 + c / 64 % 64), UInt8.ofNat (128 + c % 64)] ++ r).getD 2 0).toNat = 128 + c / 64 % 64 := b2
        have hb3 : (([UInt8.ofNat (240 + c / 262144), UInt8.ofNat (128 + c / 4096 % 64), UInt8.ofNat (128 + c / 64 % 64), UInt8.ofNat (128 + c % 64)] ++ r).getD 3 0).toNat = 128 + c % 64 := b3
        rw [getR_all (k := 4) (by simp) (by rw [hb]; unfold wid0; (repeat' split) <;> omega) (by omega) (by simp) (fun j a b => by
          have : j = 1 ∨ j = 2 ∨ j = 3 := by omega
          rcases this with rfl | rfl | rfl
          · unfold contR; rw [hb1]; omega
          · unfold contR; rw [hb2]; omega
          · unfold contR; rw [hb3]; omega), hb]
        refine hw _ 4 ?_ ((wideOf_4 (by omega)).2 (by omega))
        show 64 * (64 * (64 * ((base0 (240 + c / 262144) : Nat) : Int) + _ - 128) + _ - 128) + _ - 128 = _
        rw [hb1, hb2, hb3]
        unfold base0
        rw [if_neg (by omega), if_neg (by omega), if_neg (by omega)]
        omega
theorem drop_getD {l m : List UInt8} {p : Nat} (h : l.drop p = m) (j : Nat) : l.getD (p + j) 0 = m.getD j 0 := by
  rw [← h]; simp [List.getD, List.getElem?_drop]
theorem drop_lt {l : List UInt8} {p : Nat} {x : UInt8} {m : List UInt8} (h : l.drop p = x :: m) : p < l.length := by
  have := congrArg List.length h
  rw [List.length_drop, List.length_cons] at this
  omega
theorem drop_drop' {l a m : List UInt8} {p : Nat} (h : l.drop p = a ++ m) : l.drop (p + a.length) = m := by
  rw [← List.drop_drop, h, List.drop_left]
theorem dig_hexd : ∀ m, m < 16 → digV (hexd m) = m := by decide
/-- One character between marks reads back. -/
theorem quoted_one {l m : List UInt8} {p f : Nat} {n : Int} (hn : runeOk n = true) (hd : l.drop p = escL n ++ m) (acc : List Int) : quotedG l (f + 1) p acc = quotedG l f (p + (escL n).length) (acc ++ [n]) := by
  have ho := runeOk_iff.1 hn
  have two : ∀ (x : UInt8) (k : Int), escL n = [92, x] → escP l (p + 1) = (k, ((p + 1 : Nat) : Int) + 1, true) → k = n → quotedG l (f + 1) p acc = quotedG l f (p + (escL n).length) (acc ++ [n]) := by
    intro x k he hp hk
    rw [he] at hd
    have h0 := drop_getD hd 0
    rw [Nat.add_zero] at h0
    rw [quotedG_esc (drop_lt hd) h0 hp, if_pos rfl, he, hk]
    congr 1
  have nx : ∀ x : UInt8, escL n = [92, x] → l.getD (p + 1) 0 = x := fun x he => by
    rw [he] at hd
    exact drop_getD hd 1
  by_cases h34 : n = 34
  · subst h34
    have he : escL 34 = [92, 34] := rfl
    exact two 34 34 he (by rw [escP_lit (.inl (nx 34 he)), nx 34 he]; rfl) rfl
  by_cases h92 : n = 92
  · subst h92
    have he : escL 92 = [92, 92] := rfl
    exact two 92 92 he (by rw [escP_lit (.inr (.inl (nx 92 he))), nx 92 he]; rfl) rfl
  by_cases h8 : n = 8
  · subst h8
    have he : escL 8 = [92, 98] := rfl
    exact two 98 8 he (by unfold escP; rw [nx 98 he]; rfl) rfl
  by_cases h9 : n = 9
  · subst h9
    have he : escL 9 = [92, 116] := rfl
    exact two 116 9 he (by unfold escP; rw [nx 116 he]; rfl) rfl
  by_cases h10 : n = 10
  · subst h10
    have he : escL 10 = [92, 110] := rfl
    exact two 110 10 he (by unfold escP; rw [nx 110 he]; rfl) rfl
  by_cases h12 : n = 12
  · subst h12
    have he : escL 12 = [92, 102] := rfl
    exact two 102 12 he (by unfold escP; rw [nx 102 he]; rfl) rfl
  by_cases h13 : n = 13
  · subst h13
    have he : escL 13 = [92, 114] := rfl
    exact two 114 13 he (by unfold escP; rw [nx 114 he]; rfl) rfl
  by_cases h32 : n < 32
  · obtain ⟨c, rfl⟩ : ∃ c : Nat, n = c := ⟨n.toNat, by omega⟩
    have hc : (UInt8.ofNat c).toNat = c := ofNat_toNat' (by omega)
    have he : escL (c : Int) = [92, 117, 48, 48, hexd (c / 16), hexd (c % 16)] := by
      rw [escL_low (by omega) h32 ⟨h8, h9, h10, h12, h13⟩]
      show 92 :: 117 :: 48 :: 48 :: [hexd ((UInt8.ofNat ((c : Int).toNat)).toNat / 16), hexd ((UInt8.ofNat ((c : Int).toNat)).toNat % 16)] = _
      rw [Int.toNat_natCast, hc]
    rw [he] at hd
    have h0 := drop_getD hd 0
    have h1 := drop_getD hd 1
    rw [Nat.add_zero] at h0
    have hlen : p + 6 ≤ l.length := by
      have := congrArg List.length hd
      rw [List.length_drop] at this
      simp at this
      omega
    have hd2 : (l.drop (p + 2)).take 4 = [48, 48, hexd (c / 16), hexd (c % 16)] := by
      rw [← List.drop_drop, hd]; rfl
    have hf : fourL l (((p + 1 : Nat) : Int) + 1) = ((c : Int), true) := by
      unfold fourL
      rw [if_neg (by omega), show (((p + 1 : Nat) : Int) + 1).toNat = p + 2 by omega, hd2]
      have d1 := dig_hexd (c / 16) (by omega)
      have d2 := dig_hexd (c % 16) (by omega)
      have d0 : digV 48 = 0 := by decide
      rw [numG_good (by rw [d0]; decide), numG_good (by rw [d0]; decide), numG_good (by rw [d1]; omega), numG_good (by rw [d2]; omega), numG_nil, d0, d1, d2]
      congr 1
      omega
    have hp : escP l (p + 1) = ((c : Int), ((p + 1 : Nat) : Int) + 5, true) := by
      rw [escP_u h1, uniP_C hf rfl (inR_no (by show (c : Int) < _ ∨ _; omega)) (inR_no (by show (c : Int) < _ ∨ _; omega))]
    rw [quotedG_esc (drop_lt hd) h0 hp, if_pos rfl, he]
    congr 1
  · obtain ⟨c, rfl⟩ : ∃ c : Nat, n = c := ⟨n.toNat, by omega⟩
    have he := escL_high hn (by omega) ⟨h34, h92⟩
    rw [Int.toNat_natCast] at he
    rw [he] at hd ⊢
    have hg := getR_enc hn m
    rw [← hd] at hg
    obtain ⟨b, r, hbr, hb1, hb2⟩ : ∃ b r, encL c = b :: r ∧ b ≠ 34 ∧ b ≠ 92 := by
      have hne : ∀ k, k < 256 → k ≠ 34 → k ≠ 92 → UInt8.ofNat k ≠ 34 ∧ UInt8.ofNat k ≠ 92 := fun k hk a b => by
        have hkk := ofNat_toNat' hk
        refine ⟨fun e => a ?_, fun e => b ?_⟩
        · rw [e] at hkk; exact hkk.symm
        · rw [e] at hkk; exact hkk.symm
      unfold encL
      (repeat' split)
      · exact ⟨_, _, rfl, hne _ (by omega) (by omega) (by omega)⟩
      · exact ⟨_, _, rfl, hne _ (by omega) (by omega) (by omega)⟩
      · exact ⟨_, _, rfl, hne _ (by omega) (by omega) (by omega)⟩
      · exact ⟨_, _, rfl, hne _ (by omega) (by omega) (by omega)⟩
    have hd3 := hd
    rw [hbr] at hd3
    have h0 := drop_getD hd3 0
    rw [Nat.add_zero] at h0
    rw [quotedG_some (drop_lt hd3) (by rw [h0]; exact hb1) (by rw [h0]; exact hb2) hg, if_neg (by omega)]
/-- Characters between marks read back. -/
theorem quoted_all : ∀ (ns : List Int) (l m : List UInt8) (p f : Nat) (acc : List Int), (∀ n ∈ ns, runeOk n = true) → l.drop p = escs ns ++ (34 :: m) → ns.length < f → quotedG l f p acc = (encAll (acc ++ ns), ((p + (escs ns).length : Nat) : Int) + 1, 0)
  | [], l, m, p, f, acc, _, hd, hf => by
    obtain ⟨f, rfl⟩ : ∃ g, f = g + 1 := ⟨f - 1, by simp at hf; omega⟩
    have hd2 : l.drop p = 34 :: m := hd
    have h0 := drop_getD hd2 0
    rw [Nat.add_zero] at h0
    rw [quotedG_close (drop_lt hd2) h0, List.append_nil]
    rfl
  | n :: ns, l, m, p, f, acc, hn, hd, hf => by
    obtain ⟨f, rfl⟩ : ∃ g, f = g + 1 := ⟨f - 1, by simp at hf; omega⟩
    have hs : escs (n :: ns) = escL n ++ escs ns := rfl
    rw [hs, List.append_assoc] at hd
    rw [quoted_one (hn n List.mem_cons_self) hd, quoted_all ns l m _ f _ (fun x hx => hn x (List.mem_cons_of_mem _ hx)) (drop_drop' hd) (by simp at hf; omega), hs, List.append_assoc, List.length_append, Nat.add_assoc]
    rfl
theorem encL_ne (c : Nat) : encL c ≠ [] := by unfold encL; (repeat' split) <;> simp
theorem validD_enc {c : Nat} (h : runeOk (c : Int) = true) (r : List UInt8) : Lib.validD (encL c ++ r) = Lib.validD r := by
  rw [validD_getR (by intro e; exact encL_ne c (List.append_eq_nil_iff.1 e).1), getR_enc h r]
  simp only []
  rw [List.drop_left]
theorem runesL_enc {c : Nat} (h : runeOk (c : Int) = true) (r : List UInt8) : runesL (encL c ++ r) = (c : Int) :: runesL r := by
  rw [runesL_cons (getR_enc h r), List.drop_left]
theorem encR_nat {n : Int} (h : runeOk n = true) : encR n = encL n.toNat ∧ ((n.toNat : Nat) : Int) = n := ⟨by simp [encR, h], by have := runeOk_iff.1 h; omega⟩
theorem encAll_text : ∀ ns : List Int, (∀ n ∈ ns, runeOk n = true) → Lib.validD (encAll ns) = true ∧ runesL (encAll ns) = ns
  | [], _ => ⟨Lib.validD_nil, rfl⟩
  | n :: ns, h => by
    obtain ⟨h1, h2⟩ := encR_nat (h n List.mem_cons_self)
    have ih := encAll_text ns fun x hx => h x (List.mem_cons_of_mem _ hx)
    have hn : runeOk ((n.toNat : Nat) : Int) = true := by rw [h2]; exact h n List.mem_cons_self
    have e : encAll (n :: ns) = encL n.toNat ++ encAll ns := by rw [← h1]; rfl
    rw [e, validD_enc hn, runesL_enc hn, h2, ih.2]
    exact ⟨ih.1, rfl⟩
theorem encAll_runes : ∀ (k : Nat) (l : List UInt8), l.length ≤ k → Lib.validD l = true → encAll (runesL l) = l
  | _, [], _, _ => rfl
  | 0, b :: l, h, _ => by simp at h
  | k + 1, b :: l, h, hv => by
    rw [validD_getR (by simp)] at hv
    cases hg : getR (b :: l) with
    | none => rw [hg] at hv; cases hv
    | some d =>
      obtain ⟨c, w⟩ := d
      rw [hg] at hv
      simp only [] at hv
      obtain ⟨g0, _, g1, g4, g5, g6⟩ := getR_some hg
      have ih := encAll_runes k ((b :: l).drop w) (by rw [List.length_drop]; omega) hv
      rw [runesL_cons hg]
      have e : encAll ((c : Int) :: runesL ((b :: l).drop w)) = encL c ++ encAll (runesL ((b :: l).drop w)) := by
        obtain ⟨h1, h2⟩ := encR_nat g0
        rw [Int.toNat_natCast] at h1
        rw [← h1]; rfl
      rw [e, ih, g6, List.take_append_drop]
theorem validD_low {b : UInt8} (h : b.toNat < 128) (r : List UInt8) : Lib.validD (b :: r) = Lib.validD r := by
  have hc : runeOk ((b.toNat : Nat) : Int) = true := runeOk_yes (by omega) (by omega) (by omega)
  have e : encL b.toNat = [b] := by
    unfold encL
    rw [if_pos h]
    simp
  have := validD_enc hc r
  rw [e] at this
  exact this
theorem hexd_low : ∀ m, m < 16 → (hexd m).toNat < 128 := by decide
theorem validD_esc {n : Int} (h : runeOk n = true) (r : List UInt8) : Lib.validD (escL n ++ r) = Lib.validD r := by
  have two : ∀ x : UInt8, x.toNat < 128 → escL n = [92, x] → Lib.validD (escL n ++ r) = Lib.validD r := fun x hx e => by
    rw [e]
    exact (validD_low (by decide) _).trans (validD_low hx _)
  have ho := runeOk_iff.1 h
  by_cases h34 : n = 34
  · subst h34; exact two 34 (by decide) rfl
  by_cases h92 : n = 92
  · subst h92; exact two 92 (by decide) rfl
  by_cases h8 : n = 8
  · subst h8; exact two 98 (by decide) rfl
  by_cases h9 : n = 9
  · subst h9; exact two 116 (by decide) rfl
  by_cases h10 : n = 10
  · subst h10; exact two 110 (by decide) rfl
  by_cases h12 : n = 12
  · subst h12; exact two 102 (by decide) rfl
  by_cases h13 : n = 13
  · subst h13; exact two 114 (by decide) rfl
  by_cases h32 : n < 32
  · rw [escL_low (by omega) h32 ⟨h8, h9, h10, h12, h13⟩]
    have hc : (UInt8.ofNat n.toNat).toNat = n.toNat := ofNat_toNat' (by omega)
    show Lib.validD (92 :: 117 :: 48 :: 48 :: hexd ((UInt8.ofNat n.toNat).toNat / 16) :: hexd ((UInt8.ofNat n.toNat).toNat % 16) :: r) = _
    rw [hc, validD_low (by decide), validD_low (by decide), validD_low (by decide), validD_low (by decide), validD_low (hexd_low _ (by omega)), validD_low (hexd_low _ (by omega))]
  · rw [escL_high h (by omega) ⟨h34, h92⟩]
    exact validD_enc (by rw [show ((n.toNat : Nat) : Int) = n by omega]; exact h) r
theorem validD_escs : ∀ (ns : List Int) (r : List UInt8), (∀ n ∈ ns, runeOk n = true) → Lib.validD (escs ns ++ r) = Lib.validD r
  | [], r, _ => rfl
  | n :: ns, r, h => by
    have e : escs (n :: ns) = escL n ++ escs ns := rfl
    rw [e, List.append_assoc, validD_esc (h n List.mem_cons_self), validD_escs ns r fun x hx => h x (List.mem_cons_of_mem _ hx)]
/-- What is quoted is text, and reads back. -/
theorem quoteL_valid {l : List UInt8} (h : Lib.validD l = true) : Lib.validD (quoteL l) = true := by
  rw [quoteL_yes h, validD_low (by decide), validD_escs (runesL l) _ (fun x hx => runesG_ok _ _ x hx), validD_low (by decide)]
  exact Lib.validD_nil
theorem quoted_quote {l m : List UInt8} (h : Lib.validD l = true) : quotedL (quoteL l ++ m) 0 = (l, ((quoteL l).length : Int), 0) := by
  have hr := encAll_runes l.length l (Nat.le_refl _) h
  have hlen : (runesL l).length ≤ (escs (runesL l)).length := by
    have : ∀ ns : List Int, (∀ n ∈ ns, runeOk n = true) → ns.length ≤ (escs ns).length := by
      intro ns
      induction ns with
      | nil => intro _; exact Nat.zero_le _
      | cons n ns ih =>
        intro hn
        have e : escs (n :: ns) = escL n ++ escs ns := rfl
        have h1 := ih fun x hx => hn x (List.mem_cons_of_mem _ hx)
        have h2 : 1 ≤ (escL n).length := by
          rcases Nat.eq_zero_or_pos (escL n).length with h0 | h0
          · have h3 := validD_esc (hn n List.mem_cons_self) [255]
            have h4 : escL n = [] := List.eq_nil_of_length_eq_zero h0
            exfalso
            have h5 := quoted_one (l := [255]) (m := [255]) (p := 0) (f := 0) (hn n List.mem_cons_self) (by rw [h4]; rfl) []
            have h6 := runeOk_iff.1 (hn n List.mem_cons_self)
            revert h4
            unfold escL
            rw [if_pos (hn n List.mem_cons_self)]
            (repeat' split) <;> first | exact fun h => encL_ne _ h | (intro h; cases h)
          · exact h0
        rw [e, List.length_append, List.length_cons]
        omega
    exact this _ (fun x hx => runesG_ok _ _ x hx)
  rw [quoteL_yes h]
  unfold quotedL
  rw [if_neg (by
    intro hc
    rcases hc with hc | hc | hc
    · omega
    · simp at hc; omega
    · exact hc rfl)]
  show quotedG (34 :: (escs (runesL l) ++ [34]) ++ m) (34 :: (escs (runesL l) ++ [34]) ++ m).length 1 [] = _
  rw [quoted_all (runesL l) _ m 1 _ [] (fun x hx => runesG_ok _ _ x hx) (by simp) (by simp; omega), List.nil_append, hr]
  congr 1
  congr 1
  simp
  omega
end Go.Proofs.YtmnlkedacnemcaaGreatDoor

namespace Go.Proofs.YtmnlkedacnemcaaGreatDoor
open Go.RowKit

theorem s_l2RuneV (B g n c : Nat) (A : Option Addr) (b : List UInt8) (w : World) (h : Cur w B g A n c b) :
    Calls Tryz.prog 76 #[.pointer (some ⟨g, 0, none⟩)] w fun r w' => ∃ x : Int, r = .returned (.int .i64 x) ∧ runeOk x = true ∧ Cur w' B g A n c b ∧ Fr [g] w w' := by
  go_enter Tryz.func76, Tryz.ntmps76
  go_wp2_with fail
  refine (s_l1Int _ _ n c A b (some ⟨w.heap.size, 0, none⟩) 18 18 [0, 97, 98, 34, 92, 10, 127, 128, 233, 2047, 2048, 8364, 55295, 57344, 65535, 65536, 128512, 1114111] _ (h.below (Below.one _ _)) (by exact i64s_lit _ _ [0, 97, 98, 34, 92, 10, 127, 128, 233, 2047, 2048, 8364, 55295, 57344, 65535, 65536, 128512, 1114111] _ rfl (by exact Nat.le_of_ble_eq_true rfl)) (lit_ne h.lt) (by decide)).mono ?_; rintro r w2 ⟨x, rfl, hx, hC2, hf2⟩
  go_wp2_with fail
  go_ret
  have hro : ∀ x ∈ ([0, 97, 98, 34, 92, 10, 127, 128, 233, 2047, 2048, 8364, 55295, 57344, 65535, 65536, 128512, 1114111] : List Int), runeOk x = true := by decide
  exact ⟨x, rfl, hro x hx, hC2, (Fr.of_below (Below.one _ _)).trans hf2⟩
set_option maxHeartbeats 2000000 in
theorem s_l2TextV (B g n c : Nat) (A : Option Addr) (b : List UInt8) (w : World) (h : Cur w B g A n c b) :
    Calls Tryz.prog 55 #[.pointer (some ⟨g, 0, none⟩)] w fun r w' => ∃ s : ByteArray, r = .returned (.string s) ∧ s.size ≤ 100 ∧ Lib.validD s.data.toList = true ∧ Cur w' B g A n c b ∧ Fr [g] w w' := by
  have hgw := h.lt
  go_enter Tryz.func55, Tryz.ntmps55
  go_wp2_with fail
  refine (s_l1Once B g n c A b 2 _ h (by decide)).mono ?_; rintro r w1 ⟨x1, rfl, hC1, hf1⟩
  cases x1 with
  | true =>
    go_wp2_with fail
    refine (s_l1Str _ _ n c A b (some ⟨w1.heap.size, 0, none⟩) 9 9 [⟨#[]⟩, ⟨#[97]⟩, ⟨#[98]⟩, ⟨#[107, 101, 121]⟩, ⟨#[120, 32, 121]⟩, ⟨#[49]⟩, ⟨#[195, 169]⟩, ⟨#[34]⟩, ⟨#[92]⟩] _ (hC1.below (Below.one _ _)) (by exact strs_lit _ 0 [⟨#[]⟩, ⟨#[97]⟩, ⟨#[98]⟩, ⟨#[107, 101, 121]⟩, ⟨#[120, 32, 121]⟩, ⟨#[49]⟩, ⟨#[195, 169]⟩, ⟨#[34]⟩, ⟨#[92]⟩] _ rfl (by exact Nat.le_of_ble_eq_true rfl)) (lit_ne hC1.lt) (by decide)).mono ?_; rintro r w2 ⟨s, rfl, hs, hC2, hf2⟩
    go_wp2_with fail
    go_ret
    have hsd : s.size ≤ 100 := by
      simp only [List.mem_cons, List.mem_nil_iff, or_false] at hs
      rcases hs with rfl | rfl | rfl | rfl | rfl | rfl | rfl | rfl | rfl <;> decide
    have hsv : Lib.validD s.data.toList = true := by
      simp only [List.mem_cons, List.mem_nil_iff, or_false] at hs
      rcases hs with rfl | rfl | rfl | rfl | rfl | rfl | rfl | rfl | rfl
      · exact (encAll_text [] (by decide)).1
      · exact (encAll_text [97] (by decide)).1
      · exact (encAll_text [98] (by decide)).1
      · exact (encAll_text [107, 101, 121] (by decide)).1
      · exact (encAll_text [120, 32, 121] (by decide)).1
      · exact (encAll_text [49] (by decide)).1
      · exact (encAll_text [233] (by decide)).1
      · exact (encAll_text [34] (by decide)).1
      · exact (encAll_text [92] (by decide)).1
    exact ⟨s, rfl, hsd, hsv, hC2, (hf1.trans (Fr.of_below (Below.one _ _))).trans hf2⟩
  | false =>
    have hE : IS (w1.alloc (.cells #[] 3)) w.heap.size (some ⟨w1.heap.size, 0, none⟩) 0 0 [] := own_mono (World.ownsRow_lit w1 #[] 0 (Nat.le_refl _) (by decide) rfl) hf1.size
    have hfE := hf1.trans (Fr.of_below (Below.one w1 (.cells #[] 3)))
    go_wp2_with fail
    refine (s_l1Below B g n c A b 4 _ (hC1.below (Below.one _ _)) (by decide)).mono ?_; rintro r w2 ⟨x, rfl, hx, hC2, hf2⟩
    obtain ⟨hx0, hx1⟩ := hx.2 (by decide)
    obtain ⟨i0, rfl⟩ := Int.eq_ofNat_of_zero_le hx0
    have hI2 := hE.fr hf2 (fun y hy => by have := (row_ltI hE hy).1; simp; omega)
    have hF2 := hfE.trans hf2
    clear hE hfE hf2 hC1 hf1
    go_wp2_with fail
    go_loopg [3, 4] i0 (fun f v3 v4 wr => ∃ (k c' : Nat) (A' : Option Addr) (l : List Int), v4 = .int .i64 f ∧ v3 = .slice A' k c' ∧ k + f ≤ 3 ∧ IS wr w.heap.size A' k c' l ∧ w.heap.size ≤ wr.heap.size ∧ Cur wr B g A n c b ∧ Fr [g] w wr ∧ ∀ x ∈ l, runeOk x = true)
    case atStart => exact ⟨0, 0, _, [], rfl, rfl, by omega, hI2, hF2.size, hC2, hF2, fun x hx => by (cases hx)⟩
    case round =>
      obtain ⟨k, c', A', l, rfl, rfl, hk, hI, hz, hC, hF, hro⟩ := hrel
      clear hI2 hF2 hC2
      cases gk with
      | zero =>
        have hfr := s_FromRunes A' k c' l wr wr.heap.size hI.sl (Nat.le_refl _) (by omega)
        have hll := encAll_len l
        have hlk := hI.len
        go_wp2_with (go_at_call 77; refine hfr.mono ?_; rintro e w3 ⟨rfl, hb3⟩)
        go_ret
        exact ⟨_, rfl, by rw [ba_sz]; omega, by (have := (encAll_text l hro).1; simpa using this), hC.below hb3, hF.trans (Fr.of_below hb3)⟩
      | succ f =>
        have hpos : (0 : Int) < ((f + 1 : Nat) : Int) := by omega
        have hru := s_l2RuneV B g n c A b wr hC
        go_wp2_with (first
          | (go_at_call 76; refine hru.mono ?_; rintro e w3 ⟨z, rfl, hzr, hC3, hf3⟩; have hI3 := hI.fr hf3 (fun y hy => by have := (row_ltI hI hy).1; simp; omega); have hz3 : w.heap.size ≤ w3.heap.size := Nat.le_trans hz hf3.size)
          | (at_builtin; refine app_int rfl _ _ rfl (hI3.below (Below.one w3 _)) rfl (int1 w3 z) rfl (by omega) (by simp; omega) ?_; intro A6 c6 w6 h6 hg6))
        have kb6 : Below w.heap.size w3 w6 := ((Below.refl w.heap.size w3).alloc hz3 (.cells #[.int .i64 z] 3)).trans (hg6.fr.below (B := w.heap.size) (fun y hy => (row_ltI hI3 hy).1) (by simp; omega))
        have hC6 := hC3.low kb6 hgw
        have hF6 : Fr [g] w w6 := (hF.trans hf3).onBelow kb6
        go_roundg f
        case measure => omega
        case rel => exact ⟨k + 1, c6, A6, _, by go_num, rfl, by omega, h6, hF6.size, hC6, hF6, fun x hx => by (rcases List.mem_append.1 hx with hx | hx; exact hro x hx; rw [List.mem_singleton] at hx; rw [hx]; exact hzr)⟩
end Go.Proofs.YtmnlkedacnemcaaGreatDoor

namespace Go.Proofs.YtmnlkedacnemcaaGreatDoor
open Go.RowKit

set_option maxHeartbeats 1000000 in
theorem s_PowW (k : Int) (w : World) (hk : 0 ≤ k ∧ k ≤ 17) :
    Calls Tryz.prog 90 #[.int .i64 5, .int .i64 k] w fun r w' => ∃ p : Int, r = .returned (.int .i64 p) ∧ (-9223372036854775808 ≤ p ∧ p ≤ 9223372036854775807) ∧ w = w' := by
  have hin : inR k 0 17 = true := inR_yes hk.1 hk.2
  obtain ⟨m, rfl⟩ : ∃ m : Nat, k = m := ⟨k.toNat, by omega⟩
  go_enter Tryz.func90, Tryz.ntmps90
  go_wp2_with (go_at_call 42; refine (s_l1In _ _ _ _).mono ?_; rintro e w' ⟨rfl, rfl⟩)
  go_loopg [5, 6] m (fun f v5 v6 wr => ∃ (j : Nat) (p : Int), j + f = m ∧ v6 = .int .i64 j ∧ v5 = .int .i64 p ∧ (-9223372036854775808 ≤ p ∧ p ≤ 9223372036854775807) ∧ wr = w)
  case atStart => exact ⟨0, 1, by omega, rfl, rfl, by decide, rfl⟩
  case round =>
    obtain ⟨j, p, hjf, rfl, rfl, hp, rfl⟩ := hrel
    by_cases hj : j < m
    · obtain ⟨f, rfl⟩ : ∃ f, gk = f + 1 := ⟨gk - 1, by omega⟩
      have hji : (j : Int) < (m : Int) := by omega
      go_wp2_with fail
      go_roundg f
      case measure => omega
      case rel => exact ⟨j + 1, _, by omega, by go_num, rfl, by first | omega | exact wrap64_two _, rfl⟩
    · have hji : ¬ (j : Int) < (m : Int) := by omega
      go_wp2_with fail
      go_ret
      exact ⟨p, rfl, hp, rfl⟩
theorem decV_two (n x : Int) : ∃ a b ok, decV (decNew n x) = .tuple #[.agg #[.int .i64 a, .int .i64 b], .bool ok] ∧ (-9223372036854775808 ≤ a ∧ a ≤ 9223372036854775807) ∧ (-9223372036854775808 ≤ b ∧ b ≤ 9223372036854775807) := by
  cases h : decNew n x with
  | none => exact ⟨0, 0, false, rfl, by decide, by decide⟩
  | some p =>
    obtain ⟨a, b⟩ := p
    have := decNew_bd h
    exact ⟨a, b, true, rfl, by omega, by omega⟩
theorem wrapI_two (x : Int) : -9223372036854775808 ≤ IntKind.i64.wrap x ∧ IntKind.i64.wrap x ≤ 9223372036854775807 := by rw [IntKind.wrap_i64]; omega
theorem fltOk_e {m e : Int} (h : fltOk m e = true) : -16 ≤ e := by
  by_cases h0 : m = 0
  · subst h0; rw [fltOk_zero] at h; have := of_decide_eq_true h; omega
  · by_cases h1 : e < -16
    · rw [fltOk_low h0 h1] at h; cases h
    · omega
set_option maxHeartbeats 4000000 in
theorem s_FltDecW (m e : Int) (w : World) (he : e ≤ 9223372036854775807) :
    Calls Tryz.prog 73 #[.agg #[.int .i64 m, .int .i64 e]] w fun r w' => ∃ x y : Int, r = .returned (.agg #[.int .i64 x, .int .i64 y]) ∧ (-9223372036854775808 ≤ x ∧ x ≤ 9223372036854775807) ∧ (-9223372036854775808 ≤ y ∧ y ≤ 9223372036854775807) ∧ Below w.heap.size w w' := by
  have k2 := Below.two w (.cells #[.int .i64 m, .int .i64 e] 65) (.cells #[.int .i64 0, .int .i64 0] 75)
  have B1 := (Blk.new w 65 #[.int .i64 m, .int .i64 e]).alloc (.cells #[.int .i64 0, .int .i64 0] 75)
  have B2 := Blk.new (w.alloc (.cells #[.int .i64 m, .int .i64 e] 65)) 75 #[.int .i64 0, .int .i64 0]
  rw [World.size_alloc] at B2
  have hF := fun w1 => s_FltOk m e w1 he
  cases hok : fltOk m e with
  | false =>
    rw [hok] at hF
    clear hok
    go_enter Tryz.func73, Tryz.ntmps73
    go_upto_region 1 with fail
    generalize ((w.alloc (.cells #[.int .i64 m, .int .i64 e] 65)).alloc (.cells #[.int .i64 0, .int .i64 0] 75)) = w1 at k2 B1 B2 ⊢
    obtain ⟨p0, p1⟩ : w1.cell? ⟨w.heap.size, 0, none⟩ = some (.int .i64 m) ∧ w1.cell? ⟨w.heap.size, 1, none⟩ = some (.int .i64 e) := ⟨B1.cell 0, B1.cell 1⟩
    go_wp2_with (go_at_call 66; refine (hF _).mono ?_; rintro e' w2 ⟨rfl, hb2⟩; replace B1 := B1.below hb2 B1.lt; replace B2 := B2.below hb2 B2.lt; replace k2 := k2.up hb2; have q0 := B2.cell 0; have q1 := B2.cell 1; have f0 := B2.frozen 0; have f1 := B2.frozen 1)
    exact bodyPost_ret (results_blk Tryz.results73 Tryz.isAgg75 (by exact Tryz.sizeOf75) rfl (B2.two _ _)) rfl ⟨0, 0, rfl, by decide, by decide, ((k2.setCell (p := ⟨w.heap.size + 1, 0, none⟩) (by simp) _).setCell (p := ⟨w.heap.size + 1, 1, none⟩) (by simp) _)⟩
  | true =>
    rw [hok] at hF
    have hel := fltOk_e hok
    clear hok
    by_cases he0 : 0 ≤ e
    · go_enter Tryz.func73, Tryz.ntmps73
      go_upto_region 1 with fail
      generalize ((w.alloc (.cells #[.int .i64 m, .int .i64 e] 65)).alloc (.cells #[.int .i64 0, .int .i64 0] 75)) = w1 at k2 B1 B2 ⊢
      obtain ⟨p0, p1⟩ : w1.cell? ⟨w.heap.size, 0, none⟩ = some (.int .i64 m) ∧ w1.cell? ⟨w.heap.size, 1, none⟩ = some (.int .i64 e) := ⟨B1.cell 0, B1.cell 1⟩
      go_upto_region 4 with (go_at_call 66; refine (hF _).mono ?_; rintro e' w2 ⟨rfl, hb2⟩; replace B1 := B1.below hb2 B1.lt; replace B2 := B2.below hb2 B2.lt; replace k2 := k2.up hb2; have b0 := B1.cell 0; have b1 := B1.cell 1; have q0 := B2.cell 0; have q1 := B2.cell 1; have f0 := B2.frozen 0; have f1 := B2.frozen 1)
      clear p0 p1 hb2
      go_wp2_with fail
      exact bodyPost_ret (results_blk Tryz.results73 Tryz.isAgg75 (by exact Tryz.sizeOf75) rfl (B2.two _ _)) rfl ⟨_, 0, rfl, by first | exact wrap64_two _ | exact wrapI_two _, by decide, ((k2.setCell (p := ⟨w.heap.size + 1, 0, none⟩) (by simp) _).setCell (p := ⟨w.heap.size + 1, 1, none⟩) (by simp) _)⟩
    · have he1 : e < 0 := by omega
      clear he0
      go_enter Tryz.func73, Tryz.ntmps73
      go_upto_region 1 with fail
      generalize ((w.alloc (.cells #[.int .i64 m, .int .i64 e] 65)).alloc (.cells #[.int .i64 0, .int .i64 0] 75)) = w1 at k2 B1 B2 ⊢
      obtain ⟨p0, p1⟩ : w1.cell? ⟨w.heap.size, 0, none⟩ = some (.int .i64 m) ∧ w1.cell? ⟨w.heap.size, 1, none⟩ = some (.int .i64 e) := ⟨B1.cell 0, B1.cell 1⟩
      go_upto_region 5 with (go_at_call 66; refine (hF _).mono ?_; rintro e' w2 ⟨rfl, hb2⟩; replace B1 := B1.below hb2 B1.lt; replace B2 := B2.below hb2 B2.lt; replace k2 := k2.up hb2; have b0 := B1.cell 0; have b1 := B1.cell 1)
      clear p0 p1 hb2 hF
      have hS0 := fun (w' : World) (hb : Below w2.heap.size w2 w') => B1.box2 hb
      have hS2 := fun (w' w'' : World) (h : Box2 w2 w.heap.size (.int .i64 m) (.int .i64 e) w') (hb : Below w'.heap.size w' w'') => B1.box2 (h.2.up hb)
      have hN := fun (w3 : World) (h : Below (w2.drew.alloc (.cells #[.int .i64 0, .int .i64 0] 75)).heap.size (w2.drew.alloc (.cells #[.int .i64 0, .int .i64 0] 75)) w3) => (show Blk w3 w2.heap.size 75 #[.int .i64 0, .int .i64 0] from (Blk.new w2.drew 75 #[.int .i64 0, .int .i64 0]).below h (by simp))
      have hN2 := fun (w3 : World) (h : Below (w2.alloc (.cells #[.int .i64 0, .int .i64 0] 75)).drew.heap.size (w2.alloc (.cells #[.int .i64 0, .int .i64 0] 75)).drew w3) => (show Blk w3 w2.heap.size 75 #[.int .i64 0, .int .i64 0] from (Blk.new w2 75 #[.int .i64 0, .int .i64 0]).below (Below.of_drew h) (by simp))
      have hwe : IntKind.i64.wrap (-e) = -e := by rw [IntKind.wrap_i64]; omega
      have hP := fun w1 => s_PowW (-e) w1 (by omega)
      rw [← hwe] at hP
      clear hwe
      go_cut [18, 19, 20, 21, 22, 23, 24, 25, 26, 27, 28, 29, 30, 3, 4] from 0 to 1 (fun u18 u19 u20 u21 u22 u23 u24 u25 u26 u27 u28 u29 u30 u3 u4 wx => ∃ g3 x y, u3 = .pointer (some ⟨g3, 0, none⟩) ∧ Blk wx g3 75 #[.int .i64 x, .int .i64 y] ∧ (-9223372036854775808 ≤ x ∧ x ≤ 9223372036854775807) ∧ (-9223372036854775808 ≤ y ∧ y ≤ 9223372036854775807) ∧ Below w2.heap.size w2 wx)
      case first =>
        go_region_held3 (fun w' => Box2 w2 w.heap.size (.int .i64 m) (.int .i64 e) w')
          (first | exact hS0 _ (Below.refl _ _).drew | exact hS0 _ (Below.one _ _).drew | (refine hS2 _ _ ?_ hbA; assumption) | (refine hS2 _ _ ?_ hbB; assumption) | (refine hS2 _ _ ?_ (Below.one _ _); assumption) | (refine hS0 _ ?_; exact kS.2.up (Below.one _ _)) | (refine hS0 _ ?_; exact (kS.2.setCell (by simp) _).setCell (by simp) _) | fail)
          (first
            | (go_simp; go_at_call 90; refine (hP _).mono ?_; rintro e w1 ⟨pw, rfl, hpw, rfl⟩)
            | (go_simp; go_at_call 89; refine (s_DecNew (IntKind.i64.wrap (m * pw)) e _ (wrapI_two _) (by omega)).mono ?_; rintro r3 w3 ⟨rfl, hbA⟩; have kS := hS2 _ _ (by assumption) hbA; (try (have BN := (by first | exact hN _ hbA | exact hN2 _ hbA); have c0 := BN.cell 0; have c1 := BN.cell 1; have d0 := BN.frozen 0; have d1 := BN.frozen 1)); obtain ⟨x1, y1, ok1, hdv, hx1, hy1⟩ := decV_two (IntKind.i64.wrap (m * pw)) e; rw [hdv]))
        all_goals
          go_wp2_with fail
          go_meet
          case rel =>
            first
              | (have hq := BN; clear hq; exact ⟨_, x1, y1, rfl, BN.two _ _, hx1, hy1, (kS.2.setCell (p := ⟨w2.heap.size, 0, none⟩) (by simp) _).setCell (p := ⟨w2.heap.size, 1, none⟩) (by simp) _⟩)
              | exact ⟨_, x1, y1, rfl, Blk.new _ _ _, hx1, hy1, kS.2.up (Below.one _ _)⟩
      case rest =>
        obtain ⟨g3, x, y, rfl, B3, hx, hy, k3⟩ := hcut
        replace B2 := B2.below k3 B2.lt
        replace k2 := k2.up k3
        clear hS0 hS2 hN hN2 hP b0 b1 B1 k3
        have q0 := B2.cell 0
        have q1 := B2.cell 1
        have f0 := B2.frozen 0
        have f1 := B2.frozen 1
        have r0 := B3.cell 0
        have r1 := B3.cell 1
        go_wp2_with fail
        exact bodyPost_ret (results_blk Tryz.results73 Tryz.isAgg75 (by exact Tryz.sizeOf75) rfl (B2.two _ _)) rfl ⟨x, y, rfl, hx, hy, ((k2.setCell (p := ⟨w.heap.size + 1, 0, none⟩) (by simp) _).setCell (p := ⟨w.heap.size + 1, 1, none⟩) (by simp) _)⟩
end Go.Proofs.YtmnlkedacnemcaaGreatDoor
