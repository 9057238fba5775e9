/- Quotes, plain: what stands between marks reads back. No walk in this text. -/
import Derived.Test.YtpafgmlkbbbmhaaDoorPqM30
set_option linter.unusedVariables false
set_option maxRecDepth 100000
set_option linter.unusedSimpArgs false
namespace Go.Proofs.YtpafgmlkbbbmhaaDoor
open Go.RowKit

theorem getR_enc {c : Nat} (h : runeOk (c : Int) = true) (r : List UInt8) : getR (encL c ++ r) = some (c, (encL c).length) := by
  have ho := runeOk_iff.1 h
  have hw : ∀ (x : Int) (k : Nat), x = c → wideOf (c : Int) = k → (if wideOf x = (k : Int) then some (x.toNat, k) else (none : Option (Nat × Nat))) = some (c, k) := by
    intro x k hx hk
    subst hx
    rw [if_pos hk, Int.toNat_natCast]
  unfold encL
  by_cases h1 : c < 128
  · rw [if_pos h1]
    have b0 := ofNat_toNat' (n := c) (by omega)
    have hb : (([UInt8.ofNat c] ++ r).getD 0 0).toNat = c := b0
    rw [getR_all (k := 1) (by simp) (by rw [hb]; unfold wid0; rw [if_pos h1]) (by omega) (by simp) (fun j a b => by omega), hb]
    exact hw _ 1 (by unfold base0; rw [if_pos h1]; rfl) ((wideOf_1 (by omega)).2 (by omega))
  · rw [if_neg h1]
    by_cases h2 : c < 2048
    · rw [if_pos h2]
      have b0 := ofNat_toNat' (n := 192 + c / 64) (by omega)
      have b1 := ofNat_toNat' (n := 128 + c % 64) (by omega)
      have hb : (([UInt8.ofNat (192 + c / 64), UInt8.ofNat (128 + c % 64)] ++ r).getD 0 0).toNat = 192 + c / 64 := b0
      have hb1 : (([UInt8.ofNat (192 + c / 64), UInt8.ofNat (128 + c % 64)] ++ r).getD 1 0).toNat = 128 + c % 64 := b1
      rw [getR_all (k := 2) (by simp) (by rw [hb]; unfold wid0; (repeat' split) <;> omega) (by omega) (by simp) (fun j a b => by obtain rfl : j = 1 := (by omega); unfold contR; rw [hb1]; omega), hb]
      refine hw _ 2 ?_ ((wideOf_2 (by omega)).2 (by omega))
      show 64 * ((base0 (192 + c / 64) : Nat) : Int) + _ - 128 = _
      rw [hb1]
      unfold base0
      rw [if_neg (by omega), if_pos (by omega)]
      omega
    · rw [if_neg h2]
      by_cases h3 : c < 65536
      · rw [if_pos h3]
        have b0 := ofNat_toNat' (n := 224 + c / 4096) (by omega)
        have b1 := ofNat_toNat' (n := 128 + c / 64 % 64) (by omega)
        have b2 := ofNat_toNat' (n := 128 + c % 64) (by omega)
        have hb : (([UInt8.ofNat (224 + c / 4096), UInt8.ofNat (128 + c / 64 % 64), UInt8.ofNat (128 + c % 64)] ++ r).getD 0 0).toNat = 224 + c / 4096 := b0
        have hb1 : (([UInt8.ofNat (224 + c / 4096), UInt8.ofNat (128 + c / 64 % 64), UInt8.ofNat (128 + c % 64)] ++ r).getD 1 0).toNat = 128 + c / 64 % 64 := b1
        have hb2 : (([UInt8.ofNat (224 + c / 4096), UInt8.ofNat (128 + c / 64 % 64), UInt8.ofNat (128 + c % 64)] ++ r).getD 2 0).toNat = 128 + c % 64 := b2
        rw [getR_all (k := 3) (by simp) (by rw [hb]; unfold wid0; (repeat' split) <;> omega) (by omega) (by simp) (fun j a b => by
          have : j = 1 ∨ j = 2 := by omega
          rcases this with rfl | rfl
          · unfold contR; rw [hb1]; omega
          · unfold contR; rw [hb2]; omega), hb]
        refine hw _ 3 ?_ ((wideOf_3 (by omega)).2 (by omega))
        show 64 * (64 * ((base0 (224 + c / 4096) : Nat) : Int) + _ - 128) + _ - 128 = _
        rw [hb1, hb2]
        unfold base0
        rw [if_neg (by omega), if_neg (by omega), if_pos (by omega)]
        omega
      · rw [if_neg h3]
        have b0 := ofNat_toNat' (n := 240 + c / 262144) (by omega)
        have b1 := ofNat_toNat' (n := 128 + c / 4096 % 64) (by omega)
        have b2 := ofNat_toNat' (n := 128 + c / 64 % 64) (by omega)
        have b3 := ofNat_toNat' (n := 128 + c % 64) (by omega)
        have hb : (([UInt8.ofNat (240 + c / 262144), UInt8.ofNat (128 + c / 4096 % 64), UInt8.ofNat (128 + c / 64 % 64), UInt8.ofNat (128 + c % 64)] ++ r).getD 0 0).toNat = 240 + c / 262144 := b0
        have hb1 : (([UInt8.ofNat (240 + c / 262144), UInt8.ofNat (128 + c / 4096 % 64), UInt8.ofNat (128 + c / 64 % 64), UInt8.ofNat (128 + c % 64)] ++ r).getD 1 0).toNat = 128 + c / 4096 % 64 := b1
        have hb2 : (([UInt8.ofNat (240 + c / 262144), UInt8.ofNat (128 + c / 4096 % 64), UInt8.ofNat (128 + c / 64 % 64), UInt8.ofNat (128 + c % 64)] ++ r).getD 2 0).toNat = 128 + c / 64 % 64 := b2
        have hb3 : (([UInt8.ofNat (240 + c / 262144), UInt8.ofNat (128 + c / 4096 % 64), UInt8.ofNat (128 + c / 64 % 64), UInt8.ofNat (128 + c % 64)] ++ r).getD 3 0).toNat = 128 + c % 64 := b3
        rw [getR_all (k := 4) (by simp) (by rw [hb]; unfold wid0; (repeat' split) <;> omega) (by omega) (by simp) (fun j a b => by
          have : j = 1 ∨ j = 2 ∨ j = 3 := by omega
          rcases this with rfl | rfl | rfl
          · unfold contR; rw [hb1]; omega
          · unfold contR; rw [hb2]; omega
          · unfold contR; rw [hb3]; omega), hb]
        refine hw _ 4 ?_ ((wideOf_4 (by omega)).2 (by omega))
        show 64 * (64 * (64 * ((base0 (240 + c / 262144) : Nat) : Int) + _ - 128) + _ - 128) + _ - 128 = _
        rw [hb1, hb2, hb3]
        unfold base0
        rw [if_neg (by omega), if_neg (by omega), if_neg (by omega)]
        omega
theorem drop_getD {l m : List UInt8} {p : Nat} (h : l.drop p = m) (j : Nat) : l.getD (p + j) 0 = m.getD j 0 := by
  rw [← h]; simp [List.getD, List.getElem?_drop]
theorem drop_lt {l : List UInt8} {p : Nat} {x : UInt8} {m : List UInt8} (h : l.drop p = x :: m) : p < l.length := by
  have := congrArg List.length h
  rw [List.length_drop, List.length_cons] at this
  omega
theorem drop_drop' {l a m : List UInt8} {p : Nat} (h : l.drop p = a ++ m) : l.drop (p + a.length) = m := by
  rw [← List.drop_drop, h, List.drop_left]
theorem dig_hexd : ∀ m, m < 16 → digV (hexd m) = m := by decide
/-- One character between marks reads back. -/
theorem quoted_one {l m : List UInt8} {p f : Nat} {n : Int} (hn : runeOk n = true) (hd : l.drop p = escL n ++ m) (acc : List Int) : quotedG l (f + 1) p acc = quotedG l f (p + (escL n).length) (acc ++ [n]) := by
  have ho := runeOk_iff.1 hn
  have two : ∀ (x : UInt8) (k : Int), escL n = [92, x] → escP l (p + 1) = (k, ((p + 1 : Nat) : Int) + 1, true) → k = n → quotedG l (f + 1) p acc = quotedG l f (p + (escL n).length) (acc ++ [n]) := by
    intro x k he hp hk
    rw [he] at hd
    have h0 := drop_getD hd 0
    rw [Nat.add_zero] at h0
    rw [quotedG_esc (drop_lt hd) h0 hp, if_pos rfl, he, hk]
    congr 1
  have nx : ∀ x : UInt8, escL n = [92, x] → l.getD (p + 1) 0 = x := fun x he => by
    rw [he] at hd
    exact drop_getD hd 1
  by_cases h34 : n = 34
  · subst h34
    have he : escL 34 = [92, 34] := rfl
    exact two 34 34 he (by rw [escP_lit (.inl (nx 34 he)), nx 34 he]; rfl) rfl
  by_cases h92 : n = 92
  · subst h92
    have he : escL 92 = [92, 92] := rfl
    exact two 92 92 he (by rw [escP_lit (.inr (.inl (nx 92 he))), nx 92 he]; rfl) rfl
  by_cases h8 : n = 8
  · subst h8
    have he : escL 8 = [92, 98] := rfl
    exact two 98 8 he (by unfold escP; rw [nx 98 he]; rfl) rfl
  by_cases h9 : n = 9
  · subst h9
    have he : escL 9 = [92, 116] := rfl
    exact two 116 9 he (by unfold escP; rw [nx 116 he]; rfl) rfl
  by_cases h10 : n = 10
  · subst h10
    have he : escL 10 = [92, 110] := rfl
    exact two 110 10 he (by unfold escP; rw [nx 110 he]; rfl) rfl
  by_cases h12 : n = 12
  · subst h12
    have he : escL 12 = [92, 102] := rfl
    exact two 102 12 he (by unfold escP; rw [nx 102 he]; rfl) rfl
  by_cases h13 : n = 13
  · subst h13
    have he : escL 13 = [92, 114] := rfl
    exact two 114 13 he (by unfold escP; rw [nx 114 he]; rfl) rfl
  by_cases h32 : n < 32
  · obtain ⟨c, rfl⟩ : ∃ c : Nat, n = c := ⟨n.toNat, by omega⟩
    have hc : (UInt8.ofNat c).toNat = c := ofNat_toNat' (by omega)
    have he : escL (c : Int) = [92, 117, 48, 48, hexd (c / 16), hexd (c % 16)] := by
      rw [escL_low (by omega) h32 ⟨h8, h9, h10, h12, h13⟩]
      show 92 :: 117 :: 48 :: 48 :: [hexd ((UInt8.ofNat ((c : Int).toNat)).toNat / 16), hexd ((UInt8.ofNat ((c : Int).toNat)).toNat % 16)] = _
      rw [Int.toNat_natCast, hc]
    rw [he] at hd
    have h0 := drop_getD hd 0
    have h1 := drop_getD hd 1
    rw [Nat.add_zero] at h0
    have hlen : p + 6 ≤ l.length := by
      have := congrArg List.length hd
      rw [List.length_drop] at this
      simp at this
      omega
    have hd2 : (l.drop (p + 2)).take 4 = [48, 48, hexd (c / 16), hexd (c % 16)] := by
      rw [← List.drop_drop, hd]; rfl
    have hf : fourL l (((p + 1 : Nat) : Int) + 1) = ((c : Int), true) := by
      unfold fourL
      rw [if_neg (by omega), show (((p + 1 : Nat) : Int) + 1).toNat = p + 2 by omega, hd2]
      have d1 := dig_hexd (c / 16) (by omega)
      have d2 := dig_hexd (c % 16) (by omega)
      have d0 : digV 48 = 0 := by decide
      rw [numG_good (by rw [d0]; decide), numG_good (by rw [d0]; decide), numG_good (by rw [d1]; omega), numG_good (by rw [d2]; omega), numG_nil, d0, d1, d2]
      congr 1
      omega
    have hp : escP l (p + 1) = ((c : Int), ((p + 1 : Nat) : Int) + 5, true) := by
      rw [escP_u h1, uniP_C hf rfl (inR_no (by show (c : Int) < _ ∨ _; omega)) (inR_no (by show (c : Int) < _ ∨ _; omega))]
    rw [quotedG_esc (drop_lt hd) h0 hp, if_pos rfl, he]
    congr 1
  · obtain ⟨c, rfl⟩ : ∃ c : Nat, n = c := ⟨n.toNat, by omega⟩
    have he := escL_high hn (by omega) ⟨h34, h92⟩
    rw [Int.toNat_natCast] at he
    rw [he] at hd ⊢
    have hg := getR_enc hn m
    rw [← hd] at hg
    obtain ⟨b, r, hbr, hb1, hb2⟩ : ∃ b r, encL c = b :: r ∧ b ≠ 34 ∧ b ≠ 92 := by
      have hne : ∀ k, k < 256 → k ≠ 34 → k ≠ 92 → UInt8.ofNat k ≠ 34 ∧ UInt8.ofNat k ≠ 92 := fun k hk a b => by
        have hkk := ofNat_toNat' hk
        refine ⟨fun e => a ?_, fun e => b ?_⟩
        · rw [e] at hkk; exact hkk.symm
        · rw [e] at hkk; exact hkk.symm
      unfold encL
      (repeat' split)
      · exact ⟨_, _, rfl, hne _ (by omega) (by omega) (by omega)⟩
      · exact ⟨_, _, rfl, hne _ (by omega) (by omega) (by omega)⟩
      · exact ⟨_, _, rfl, hne _ (by omega) (by omega) (by omega)⟩
      · exact ⟨_, _, rfl, hne _ (by omega) (by omega) (by omega)⟩
    have hd3 := hd
    rw [hbr] at hd3
    have h0 := drop_getD hd3 0
    rw [Nat.add_zero] at h0
    rw [quotedG_some (drop_lt hd3) (by rw [h0]; exact hb1) (by rw [h0]; exact hb2) hg, if_neg (by omega)]
/-- Characters between marks read back. -/
theorem quoted_all : ∀ (ns : List Int) (l m : List UInt8) (p f : Nat) (acc : List Int), (∀ n ∈ ns, runeOk n = true) → l.drop p = escs ns ++ (34 :: m) → ns.length < f → quotedG l f p acc = (encAll (acc ++ ns), ((p + (escs ns).length : Nat) : Int) + 1, 0)
  | [], l, m, p, f, acc, _, hd, hf => by
    obtain ⟨f, rfl⟩ : ∃ g, f = g + 1 := ⟨f - 1, by simp at hf; omega⟩
    have hd2 : l.drop p = 34 :: m := hd
    have h0 := drop_getD hd2 0
    rw [Nat.add_zero] at h0
    rw [quotedG_close (drop_lt hd2) h0, List.append_nil]
    rfl
  | n :: ns, l, m, p, f, acc, hn, hd, hf => by
    obtain ⟨f, rfl⟩ : ∃ g, f = g + 1 := ⟨f - 1, by simp at hf; omega⟩
    have hs : escs (n :: ns) = escL n ++ escs ns := rfl
    rw [hs, List.append_assoc] at hd
    rw [quoted_one (hn n List.mem_cons_self) hd, quoted_all ns l m _ f _ (fun x hx => hn x (List.mem_cons_of_mem _ hx)) (drop_drop' hd) (by simp at hf; omega), hs, List.append_assoc, List.length_append, Nat.add_assoc]
    rfl
theorem encL_ne (c : Nat) : encL c ≠ [] := by unfold encL; (repeat' split) <;> simp
theorem validD_enc {c : Nat} (h : runeOk (c : Int) = true) (r : List UInt8) : Lib.validD (encL c ++ r) = Lib.validD r := by
  rw [validD_getR (by intro e; exact encL_ne c (List.append_eq_nil_iff.1 e).1), getR_enc h r]
  simp only []
  rw [List.drop_left]
theorem runesL_enc {c : Nat} (h : runeOk (c : Int) = true) (r : List UInt8) : runesL (encL c ++ r) = (c : Int) :: runesL r := by
  rw [runesL_cons (getR_enc h r), List.drop_left]
theorem encR_nat {n : Int} (h : runeOk n = true) : encR n = encL n.toNat ∧ ((n.toNat : Nat) : Int) = n := ⟨by simp [encR, h], by have := runeOk_iff.1 h; omega⟩
theorem encAll_text : ∀ ns : List Int, (∀ n ∈ ns, runeOk n = true) → Lib.validD (encAll ns) = true ∧ runesL (encAll ns) = ns
  | [], _ => ⟨Lib.validD_nil, rfl⟩
  | n :: ns, h => by
    obtain ⟨h1, h2⟩ := encR_nat (h n List.mem_cons_self)
    have ih := encAll_text ns fun x hx => h x (List.mem_cons_of_mem _ hx)
    have hn : runeOk ((n.toNat : Nat) : Int) = true := by rw [h2]; exact h n List.mem_cons_self
    have e : encAll (n :: ns) = encL n.toNat ++ encAll ns := by rw [← h1]; rfl
    rw [e, validD_enc hn, runesL_enc hn, h2, ih.2]
    exact ⟨ih.1, rfl⟩
theorem encAll_runes : ∀ (k : Nat) (l : List UInt8), l.length ≤ k → Lib.validD l = true → encAll (runesL l) = l
  | _, [], _, _ => rfl
  | 0, b :: l, h, _ => by simp at h
  | k + 1, b :: l, h, hv => by
    rw [validD_getR (by simp)] at hv
    cases hg : getR (b :: l) with
    | none => rw [hg] at hv; cases hv
    | some d =>
      obtain ⟨c, w⟩ := d
      rw [hg] at hv
      simp only [] at hv
      obtain ⟨g0, _, g1, g4, g5, g6⟩ := getR_some hg
      have ih := encAll_runes k ((b :: l).drop w) (by rw [List.length_drop]; omega) hv
      rw [runesL_cons hg]
      have e : encAll ((c : Int) :: runesL ((b :: l).drop w)) = encL c ++ encAll (runesL ((b :: l).drop w)) := by
        obtain ⟨h1, h2⟩ := encR_nat g0
        rw [Int.toNat_natCast] at h1
        rw [← h1]; rfl
      rw [e, ih, g6, List.take_append_drop]
theorem validD_low {b : UInt8} (h : b.toNat < 128) (r : List UInt8) : Lib.validD (b :: r) = Lib.validD r := by
  have hc : runeOk ((b.toNat : Nat) : Int) = true := runeOk_yes (by omega) (by omega) (by omega)
  have e : encL b.toNat = [b] := by
    unfold encL
    rw [if_pos h]
    simp
  have := validD_enc hc r
  rw [e] at this
  exact this
theorem hexd_low : ∀ m, m < 16 → (hexd m).toNat < 128 := by decide
theorem validD_esc {n : Int} (h : runeOk n = true) (r : List UInt8) : Lib.validD (escL n ++ r) = Lib.validD r := by
  have two : ∀ x : UInt8, x.toNat < 128 → escL n = [92, x] → Lib.validD (escL n ++ r) = Lib.validD r := fun x hx e => by
    rw [e]
    exact (validD_low (by decide) _).trans (validD_low hx _)
  have ho := runeOk_iff.1 h
  by_cases h34 : n = 34
  · subst h34; exact two 34 (by decide) rfl
  by_cases h92 : n = 92
  · subst h92; exact two 92 (by decide) rfl
  by_cases h8 : n = 8
  · subst h8; exact two 98 (by decide) rfl
  by_cases h9 : n = 9
  · subst h9; exact two 116 (by decide) rfl
  by_cases h10 : n = 10
  · subst h10; exact two 110 (by decide) rfl
  by_cases h12 : n = 12
  · subst h12; exact two 102 (by decide) rfl
  by_cases h13 : n = 13
  · subst h13; exact two 114 (by decide) rfl
  by_cases h32 : n < 32
  · rw [escL_low (by omega) h32 ⟨h8, h9, h10, h12, h13⟩]
    have hc : (UInt8.ofNat n.toNat).toNat = n.toNat := ofNat_toNat' (by omega)
    show Lib.validD (92 :: 117 :: 48 :: 48 :: hexd ((UInt8.ofNat n.toNat).toNat / 16) :: hexd ((UInt8.ofNat n.toNat).toNat % 16) :: r) = _
    rw [hc, validD_low (by decide), validD_low (by decide), validD_low (by decide), validD_low (by decide), validD_low (hexd_low _ (by omega)), validD_low (hexd_low _ (by omega))]
  · rw [escL_high h (by omega) ⟨h34, h92⟩]
    exact validD_enc (by rw [show ((n.toNat : Nat) : Int) = n by omega]; exact h) r
theorem validD_escs : ∀ (ns : List Int) (r : List UInt8), (∀ n ∈ ns, runeOk n = true) → Lib.validD (escs ns ++ r) = Lib.validD r
  | [], r, _ => rfl
  | n :: ns, r, h => by
    have e : escs (n :: ns) = escL n ++ escs ns := rfl
    rw [e, List.append_assoc, validD_esc (h n List.mem_cons_self), validD_escs ns r fun x hx => h x (List.mem_cons_of_mem _ hx)]
/-- What is quoted is text, and reads back. -/
theorem quoteL_valid {l : List UInt8} (h : Lib.validD l = true) : Lib.validD (quoteL l) = true := by
  rw [quoteL_yes h, validD_low (by decide), validD_escs (runesL l) _ (fun x hx => runesG_ok _ _ x hx), validD_low (by decide)]
  exact Lib.validD_nil
theorem quoted_quote {l m : List UInt8} (h : Lib.validD l = true) : quotedL (quoteL l ++ m) 0 = (l, ((quoteL l).length : Int), 0) := by
  have hr := encAll_runes l.length l (Nat.le_refl _) h
  have hlen : (runesL l).length ≤ (escs (runesL l)).length := by
    have : ∀ ns : List Int, (∀ n ∈ ns, runeOk n = true) → ns.length ≤ (escs ns).length := by
      intro ns
      induction ns with
      | nil => intro _; exact Nat.zero_le _
      | cons n ns ih =>
        intro hn
        have e : escs (n :: ns) = escL n ++ escs ns := rfl
        have h1 := ih fun x hx => hn x (List.mem_cons_of_mem _ hx)
        have h2 : 1 ≤ (escL n).length := by
          rcases Nat.eq_zero_or_pos (escL n).length with h0 | h0
          · have h3 := validD_esc (hn n List.mem_cons_self) [255]
            have h4 : escL n = [] := List.eq_nil_of_length_eq_zero h0
            exfalso
            have h5 := quoted_one (l := [255]) (m := [255]) (p := 0) (f := 0) (hn n List.mem_cons_self) (by rw [h4]; rfl) []
            have h6 := runeOk_iff.1 (hn n List.mem_cons_self)
            revert h4
            unfold escL
            rw [if_pos (hn n List.mem_cons_self)]
            (repeat' split) <;> first | exact fun h => encL_ne _ h | (intro h; cases h)
          · exact h0
        rw [e, List.length_append, List.length_cons]
        omega
    exact this _ (fun x hx => runesG_ok _ _ x hx)
  rw [quoteL_yes h]
  unfold quotedL
  rw [if_neg (by
    intro hc
    rcases hc with hc | hc | hc
    · omega
    · simp at hc; omega
    · exact hc rfl)]
  show quotedG (34 :: (escs (runesL l) ++ [34]) ++ m) (34 :: (escs (runesL l) ++ [34]) ++ m).length 1 [] = _
  rw [quoted_all (runesL l) _ m 1 _ [] (fun x hx => runesG_ok _ _ x hx) (by simp) (by simp; omega), List.nil_append, hr]
  congr 1
  congr 1
  simp
  omega
end Go.Proofs.YtpafgmlkbbbmhaaDoor
