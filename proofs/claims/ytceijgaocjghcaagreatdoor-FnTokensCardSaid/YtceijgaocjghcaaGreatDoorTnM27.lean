/- l9Escape (spec): what stands behind a backslash. ReadQuoted: what it reads, plain; runeAt (impl). -/
import Derived.Test.YtceijgaocjghcaaGreatDoorTnM13
import Derived.Test.YtceijgaocjghcaaGreatDoorTnEscI
import Derived.Test.YtceijgaocjghcaaGreatDoorTnQuote
import Derived.Shelf.Strings.MapAny
import Derived.Lib.TrimUEq
set_option linter.unusedVariables false
set_option maxRecDepth 100000
set_option linter.unusedSimpArgs false
namespace Go.Proofs.YtceijgaocjghcaaGreatDoor
open Go.RowKit

theorem ret3_eq {a b c d : Int} {x : Bool} (h1 : a = c) (h2 : b = d) : Ending.returned (.tuple #[.int .i64 a, .int .i64 b, .bool x]) = ret3 (c, d, x) := by rw [h1, h2]; rfl
set_option maxHeartbeats 4000000 in
theorem s_l9Escape (s : ByteArray) (q : Nat) (w : World) (hs : s.size ≤ 1099511627776) (hq : q ≤ 1099511627776) :
    Calls Tryz.prog 84 #[.string s, .int .i64 q] w fun e w' => e = ret3 (escP s.data.toList q) ∧ w = w' := by
  by_cases hlt : ¬ q < s.size
  · rw [escP_zero (getD_out hlt)]
    have hge : (s.size : Int) ≤ (q : Int) := by omega
    go_enter Tryz.func84, Tryz.ntmps84
    go_wp2_with fail
    go_ret3
    exact ⟨rfl, rfl⟩
  have hlt := Nat.lt_of_not_le (fun h => hlt (Nat.not_lt.2 h))
  have hlti : ¬ (s.size : Int) ≤ (q : Int) := by omega
  have hx0 := getD_size hlt
  have h1 := fun w => s_ReadFour s ((q : Int) + 1) w (by omega) (by omega)
  have h2 := fun w => s_ReadFour s ((q : Int) + 7) w (by omega) (by omega)
  have hcs := esc_cases (s.data.toList.getD q 0)
  by_cases hu : s.data.toList.getD q 0 = 117
  · rw [escP_u hu]
    have hbd := fourL_bd (l := s.data.toList) (i := (q : Int) + 1)
    obtain ⟨⟨a, ok⟩, hr⟩ : ∃ u, fourL s.data.toList ((q : Int) + 1) = u := ⟨_, rfl⟩
    rw [hr] at h1 hbd
    simp only [ret2] at h1 h2 hbd
    rw [hx0] at hu
    clear hcs hx0
    cases ok with
    | false =>
      rw [uniP_A hr (.inl rfl)]
      clear hr h2
      go_enter Tryz.func84, Tryz.ntmps84
      go_wp2_with (first
        | (go_at_call 47; refine (s_l1In _ _ _ _).mono ?_; rintro e w' ⟨rfl, rfl⟩)
        | (go_at_call 123; refine (h1 _).mono ?_; rintro e w1 ⟨rfl, rfl⟩; clear h1)
        | (go_at_call 123; refine (h2 _).mono ?_; rintro e w2 ⟨rfl, rfl⟩))
      go_ret3
      exact ⟨rfl, rfl⟩
    | true =>
      cases hl : inR a 56320 57343 with
      | true =>
        rw [uniP_A hr (.inr hl)]
        clear hr h2
        go_enter Tryz.func84, Tryz.ntmps84
        go_wp2_with (first
        | (go_at_call 47; refine (s_l1In _ _ _ _).mono ?_; rintro e w' ⟨rfl, rfl⟩)
        | (go_at_call 123; refine (h1 _).mono ?_; rintro e w1 ⟨rfl, rfl⟩; clear h1)
        | (go_at_call 123; refine (h2 _).mono ?_; rintro e w2 ⟨rfl, rfl⟩))
        go_ret3
        exact ⟨rfl, rfl⟩
      | false =>
        cases hh : inR a 55296 56319 with
        | false =>
          rw [uniP_C hr rfl hl hh]
          clear hr h2
          go_enter Tryz.func84, Tryz.ntmps84
          go_wp2_with (first
        | (go_at_call 47; refine (s_l1In _ _ _ _).mono ?_; rintro e w' ⟨rfl, rfl⟩)
        | (go_at_call 123; refine (h1 _).mono ?_; rintro e w1 ⟨rfl, rfl⟩; clear h1)
        | (go_at_call 123; refine (h2 _).mono ?_; rintro e w2 ⟨rfl, rfl⟩))
          go_ret3
          exact ⟨ret3_eq rfl (by go_num), rfl⟩
        | true =>
          have hV := uniP_D hr rfl hl hh
          have hbd2 := fourL_bd (l := s.data.toList) (i := (q : Int) + 7)
          rw [hV]
          obtain ⟨⟨b, ok2⟩, hr2⟩ : ∃ u, fourL s.data.toList ((q : Int) + 7) = u := ⟨_, rfl⟩
          rw [hr2] at h2 hbd2 ⊢
          simp only [] at h2 hbd2
          clear hr hV hr2
          by_cases hl6 : q + 6 < s.size
          · have hl6i : ¬ (s.size : Int) ≤ (q : Int) + 6 := by omega
            rw [getD_size (show q + 5 < s.size by omega), getD_size hl6]
            have j5 : ((q : Int) + 5).toNat = q + 5 := by omega
            have j6 : ((q : Int) + 6).toNat = q + 6 := by omega
            have k5 : (0 : Int) ≤ (q : Int) + 5 ∧ (q : Int) + 5 < (s.size : Int) := by omega
            have k6 : (0 : Int) ≤ (q : Int) + 6 ∧ (q : Int) + 6 < (s.size : Int) := by omega
            by_cases c5 : s[q + 5] = 92
            · by_cases c6 : s[q + 6] = 117
              · rw [if_pos ⟨c5, c6⟩]
                cases ok2 with
                | false =>
                  rw [if_neg (by simp)]
                  go_enter Tryz.func84, Tryz.ntmps84
                  go_wp2_with (first
        | (go_at_call 47; refine (s_l1In _ _ _ _).mono ?_; rintro e w' ⟨rfl, rfl⟩)
        | (go_at_call 123; refine (h1 _).mono ?_; rintro e w1 ⟨rfl, rfl⟩; clear h1)
        | (go_at_call 123; refine (h2 _).mono ?_; rintro e w2 ⟨rfl, rfl⟩))
                  go_ret3
                  exact ⟨rfl, rfl⟩
                | true =>
                  cases hl2 : inR b 56320 57343 with
                  | false =>
                    rw [if_neg (by simp [hl2])]
                    go_enter Tryz.func84, Tryz.ntmps84
                    go_wp2_with (first
        | (go_at_call 47; refine (s_l1In _ _ _ _).mono ?_; rintro e w' ⟨rfl, rfl⟩)
        | (go_at_call 123; refine (h1 _).mono ?_; rintro e w1 ⟨rfl, rfl⟩; clear h1)
        | (go_at_call 123; refine (h2 _).mono ?_; rintro e w2 ⟨rfl, rfl⟩))
                    go_ret3
                    exact ⟨rfl, rfl⟩
                  | true =>
                    rw [if_pos ⟨rfl, rfl⟩]
                    go_enter Tryz.func84, Tryz.ntmps84
                    go_wp2_with (first
        | (go_at_call 47; refine (s_l1In _ _ _ _).mono ?_; rintro e w' ⟨rfl, rfl⟩)
        | (go_at_call 123; refine (h1 _).mono ?_; rintro e w1 ⟨rfl, rfl⟩; clear h1)
        | (go_at_call 123; refine (h2 _).mono ?_; rintro e w2 ⟨rfl, rfl⟩))
                    go_ret3
                    have q1 := inR_iff.1 hh
                    have q2 := inR_iff.1 hl2
                    exact ⟨ret3_eq (by go_num) (by go_num), rfl⟩
              · rw [if_neg (fun h => c6 h.2)]
                obtain ⟨y, hy⟩ : ∃ y, s[q + 6] = y := ⟨_, rfl⟩
                rw [hy] at c6
                have x6 : ((y.toNat : Int) == 117) = false := u8_ne 117 (by decide) c6
                have x6b : ((y.toNat : Int) != 117) = true := by simp only [bne, x6]; rfl
                clear c6 h2
                go_enter Tryz.func84, Tryz.ntmps84
                go_wp2_with (first
        | (go_at_call 47; refine (s_l1In _ _ _ _).mono ?_; rintro e w' ⟨rfl, rfl⟩)
        | (go_at_call 123; refine (h1 _).mono ?_; rintro e w1 ⟨rfl, rfl⟩; clear h1)
        | (go_at_call 123; refine (h2 _).mono ?_; rintro e w2 ⟨rfl, rfl⟩))
                go_ret3
                exact ⟨rfl, rfl⟩
            · rw [if_neg (fun h => c5 h.1)]
              obtain ⟨y, hy⟩ : ∃ y, s[q + 5] = y := ⟨_, rfl⟩
              rw [hy] at c5
              have x5 : ((y.toNat : Int) == 92) = false := u8_ne 92 (by decide) c5
              have x5b : ((y.toNat : Int) != 92) = true := by simp only [bne, x5]; rfl
              clear c5 h2
              go_enter Tryz.func84, Tryz.ntmps84
              go_wp2_with (first
        | (go_at_call 47; refine (s_l1In _ _ _ _).mono ?_; rintro e w' ⟨rfl, rfl⟩)
        | (go_at_call 123; refine (h1 _).mono ?_; rintro e w1 ⟨rfl, rfl⟩; clear h1)
        | (go_at_call 123; refine (h2 _).mono ?_; rintro e w2 ⟨rfl, rfl⟩))
              go_ret3
              exact ⟨rfl, rfl⟩
          · have hl6i : (s.size : Int) ≤ (q : Int) + 6 := by omega
            rw [if_neg (fun h => by have := h.2; rw [getD_out hl6] at this; cases this)]
            clear h2
            go_enter Tryz.func84, Tryz.ntmps84
            go_wp2_with (first
        | (go_at_call 47; refine (s_l1In _ _ _ _).mono ?_; rintro e w' ⟨rfl, rfl⟩)
        | (go_at_call 123; refine (h1 _).mono ?_; rintro e w1 ⟨rfl, rfl⟩; clear h1)
        | (go_at_call 123; refine (h2 _).mono ?_; rintro e w2 ⟨rfl, rfl⟩))
            go_ret3
            exact ⟨rfl, rfl⟩
  · clear h1 h2
    by_cases hn : noEsc (s.data.toList.getD q 0)
    · rw [escP_no hn]
      rw [hx0] at hn
      obtain ⟨y, hy⟩ : ∃ y, s[q] = y := ⟨_, rfl⟩
      rw [hy] at hn
      have hx : ∀ k : Nat, k < 256 → ¬ y = UInt8.ofNat k → ((y.toNat : Int) == (k : Int)) = false := fun k a b => u8_ne k a b
      obtain ⟨n1, n2, n3, n4, n5, n6, n7, n8, n9⟩ := hn
      have x1 : ((y.toNat : Int) == 34) = false := hx 34 (by decide) n1
      have x2 : ((y.toNat : Int) == 92) = false := hx 92 (by decide) n2
      have x3 : ((y.toNat : Int) == 47) = false := hx 47 (by decide) n3
      have x4 : ((y.toNat : Int) == 98) = false := hx 98 (by decide) n4
      have x5 : ((y.toNat : Int) == 116) = false := hx 116 (by decide) n5
      have x6 : ((y.toNat : Int) == 110) = false := hx 110 (by decide) n6
      have x7 : ((y.toNat : Int) == 102) = false := hx 102 (by decide) n7
      have x8 : ((y.toNat : Int) == 114) = false := hx 114 (by decide) n8
      have x9 : ((y.toNat : Int) == 117) = false := hx 117 (by decide) n9
      clear hx0 hcs hu hx n1 n2 n3 n4 n5 n6 n7 n8 n9
      go_enter Tryz.func84, Tryz.ntmps84
      go_wp2_with fail
      go_ret3
      exact ⟨rfl, rfl⟩
    · have hy : s.data.toList.getD q 0 = 34 ∨ s.data.toList.getD q 0 = 92 ∨ s.data.toList.getD q 0 = 47 ∨ s.data.toList.getD q 0 = 98 ∨ s.data.toList.getD q 0 = 116 ∨ s.data.toList.getD q 0 = 110 ∨ s.data.toList.getD q 0 = 102 ∨ s.data.toList.getD q 0 = 114 := by
        rcases hcs with h | h | h | h | h | h | h | h | h | h
        · exact .inl h
        · exact .inr (.inl h)
        · exact .inr (.inr (.inl h))
        · exact .inr (.inr (.inr (.inl h)))
        · exact .inr (.inr (.inr (.inr (.inl h))))
        · exact .inr (.inr (.inr (.inr (.inr (.inl h)))))
        · exact .inr (.inr (.inr (.inr (.inr (.inr (.inl h))))))
        · exact .inr (.inr (.inr (.inr (.inr (.inr (.inr h))))))
        · exact absurd h hu
        · exact absurd h hn
      have hE : escP s.data.toList q = ((if s.data.toList.getD q 0 = 34 ∨ s.data.toList.getD q 0 = 92 ∨ s.data.toList.getD q 0 = 47 then ((s.data.toList.getD q 0).toNat : Int) else if s.data.toList.getD q 0 = 98 then 8 else if s.data.toList.getD q 0 = 116 then 9 else if s.data.toList.getD q 0 = 110 then 10 else if s.data.toList.getD q 0 = 102 then 12 else 13), (q : Int) + 1, true) := by
        unfold escP
        rcases hy with h | h | h | h | h | h | h | h <;> rw [h] <;> rfl
      rw [hE]
      rw [hx0] at hy ⊢
      clear hx0 hE hn hu hcs
      rcases hy with h | h | h | h | h | h | h | h
      all_goals
        rw [h]
        go_enter Tryz.func84, Tryz.ntmps84
        go_wp2_with fail
        go_ret3
        exact ⟨ret3_eq rfl (by go_num), rfl⟩
end Go.Proofs.YtceijgaocjghcaaGreatDoor

namespace Go.Proofs.YtceijgaocjghcaaGreatDoor
open Go.RowKit

def badQ : List UInt8 × Int × Int := ([], 0, 1)
/-- The text behind an opening quote: at offset p, what is read before it in acc. -/
def quotedG (l : List UInt8) : Nat → Nat → List Int → List UInt8 × Int × Int
  | 0, _, _ => badQ
  | f + 1, p, acc =>
    if l.length ≤ p then badQ
    else if l.getD p 0 = 34 then (encAll acc, (p : Int) + 1, 0)
    else if l.getD p 0 = 92 then
      if (escP l (p + 1)).2.2 = true then quotedG l f (escP l (p + 1)).2.1.toNat (acc ++ [(escP l (p + 1)).1]) else badQ
    else match getR (l.drop p) with
      | none => badQ
      | some d => if (d.1 : Int) < 32 then badQ else quotedG l f (p + d.2) (acc ++ [(d.1 : Int)])
def quotedL (l : List UInt8) (i : Int) : List UInt8 × Int × Int :=
  if i < 0 ∨ (l.length : Int) ≤ i ∨ ¬ l.getD i.toNat 0 = 34 then badQ else quotedG l l.length (i.toNat + 1) []
def retQ (r : List UInt8 × Int × Int) : Ending := .returned (.tuple #[.string ⟨r.1.toArray⟩, .int .i64 r.2.1, .int .i64 r.2.2])
section
variable {l : List UInt8} {f p : Nat} {acc : List Int}
theorem quotedG_end (h : l.length ≤ p) : quotedG l f p acc = badQ := by
  cases f with
  | zero => rfl
  | succ f => simp only [quotedG]; rw [if_pos h]
theorem quotedG_close (h : p < l.length) (h2 : l.getD p 0 = 34) : quotedG l (f + 1) p acc = (encAll acc, (p : Int) + 1, 0) := by
  simp only [quotedG]; rw [if_neg (by omega), if_pos h2]
theorem quotedG_esc {n m : Int} {ok : Bool} (h : p < l.length) (h2 : l.getD p 0 = 92) (he : escP l (p + 1) = (n, m, ok)) : quotedG l (f + 1) p acc = if ok = true then quotedG l f m.toNat (acc ++ [n]) else badQ := by
  simp only [quotedG]; rw [if_neg (by omega), h2, if_neg (by decide), if_pos rfl, he]
theorem quotedG_none (h : p < l.length) (h2 : ¬ l.getD p 0 = 34) (h3 : ¬ l.getD p 0 = 92) (hg : getR (l.drop p) = none) : quotedG l (f + 1) p acc = badQ := by
  simp only [quotedG]; rw [if_neg (by omega), if_neg h2, if_neg h3, hg]
theorem quotedG_some {c k : Nat} (h : p < l.length) (h2 : ¬ l.getD p 0 = 34) (h3 : ¬ l.getD p 0 = 92) (hg : getR (l.drop p) = some (c, k)) : quotedG l (f + 1) p acc = if (c : Int) < 32 then badQ else quotedG l f (p + k) (acc ++ [(c : Int)]) := by
  simp only [quotedG]; rw [if_neg (by omega), if_neg h2, if_neg h3, hg]
end
theorem retQ_eq {a b : List UInt8} {c d e f : Int} (h1 : a = b) (h2 : c = d) (h3 : e = f) : Ending.returned (.tuple #[.string ⟨a.toArray⟩, .int .i64 c, .int .i64 e]) = retQ (b, d, f) := by rw [h1, h2, h3]; rfl
theorem decode_le4 (s : ByteArray) (p : Nat) : (Utf8.decode s p).2 ≤ 4 := by
  rw [Lib.decode_N]
  unfold Lib.decodeN
  (repeat' split) <;> first | exact (by decide : 1 ≤ 4) | exact (by decide : 2 ≤ 4) | exact (by decide : 3 ≤ 4) | exact (by decide : 4 ≤ 4)
/-- The character at an offset and the place behind it; 0, 0: there is none. -/
def atP (l : List UInt8) (p : Nat) : Int × Int := match getR (l.drop p) with | none => (0, 0) | some d => ((d.1 : Int), (p : Int) + d.2)
set_option maxHeartbeats 1000000 in
theorem i_runeAt (s : ByteArray) (p : Nat) (w : World) (hs : s.size ≤ 1099511627776) (hT : Lib.Utf8Tabs 1 2 w) :
    Calls Tryz.prog 76 #[.string s, .int .i64 p] w fun e w' => e = retII (atP s.data.toList p) ∧ Below w.heap.size w w' := by
  by_cases hp : ¬ p < s.size
  · have e : atP s.data.toList p = (0, 0) := by
      unfold atP
      rw [List.drop_eq_nil_of_le (by rw [blen_of]; omega)]
      rfl
    have hi : inR (p : Int) 0 ((s.size : Int) - 1) = false := inR_no (by omega)
    rw [e]
    go_enter Tryz.func76, Tryz.ntmps76
    go_wp2_with (first
        | (go_at_call 41; refine (i_within _ _ _ _).mono ?_; rintro e w' ⟨rfl, rfl⟩))
    go_ret2
    exact ⟨rfl, Below.refl _ _⟩
  have hp : p < s.size := Nat.lt_of_not_le (fun h => hp (Nat.not_lt.2 h))
  have hD := Tryz.utf8_DecodeRuneInString (s.extract p s.size) w hT
  rw [Lib.decodeGo_extract s p hp] at hD
  have hd := Lib.decodeL_drop s p
  have hne : s.data.toList.drop p ≠ [] := drop_ne (by rw [blen_of]; exact hp)
  have hle := decode_le s p
  have hi : inR (p : Int) 0 ((s.size : Int) - 1) = true := inR_yes (by omega) (by omega)
  unfold atP getR
  rw [if_neg hne, hd]
  obtain ⟨⟨c, k⟩, hck⟩ : ∃ d, Utf8.decode s p = d := ⟨_, rfl⟩
  have hk4 : k ≤ 4 := by have := decode_le4 s p; rw [hck] at this; exact this
  have hk1 : 1 ≤ k := by have := Lib.decodeL_width (s.data.toList.drop p); rw [hd, hck] at this; exact this
  rw [hck] at hD hle ⊢
  simp only [] at hD hle ⊢
  clear hd hck hne
  by_cases hb : c = 65533 ∧ k = 1
  · rw [if_pos hb]
    obtain ⟨rfl, rfl⟩ := hb
    go_enter Tryz.func76, Tryz.ntmps76
    go_wp2_with (first
        | (go_at_call 41; refine (i_within _ _ _ _).mono ?_; rintro e w' ⟨rfl, rfl⟩)
        | (go_at_call 113; refine hD.mono ?_; rintro e w1 ⟨rfl, hb1⟩))
    go_ret2
    exact ⟨rfl, hb1⟩
  · rw [if_neg hb]
    have hcond : ¬ ((c : Int) = 65533 ∧ (k : Int) ≤ 1) := by omega
    go_enter Tryz.func76, Tryz.ntmps76
    go_wp2_with (first
        | (go_at_call 41; refine (i_within _ _ _ _).mono ?_; rintro e w' ⟨rfl, rfl⟩)
        | (go_at_call 113; refine hD.mono ?_; rintro e w1 ⟨rfl, hb1⟩))
    all_goals (go_ret2; exact ⟨retII_eq (by omega) rfl, hb1⟩)
theorem escP_bad {l : List UInt8} {q : Nat} (h : (escP l q).2.2 = false) : escP l q = badE := by
  obtain ⟨r, hr⟩ : ∃ r, escP l q = r := ⟨_, rfl⟩
  rw [hr] at h ⊢
  unfold escP uniP at hr
  generalize fourL l ((q : Int) + 1) = u at hr
  generalize fourL l ((q : Int) + 7) = v at hr
  generalize l.getD q 0 = x at hr
  generalize l.getD (q + 5) 0 = y at hr
  generalize l.getD (q + 6) 0 = z at hr
  by_cases h0 : x = 34 ∨ x = 92 ∨ x = 47
  · rw [if_pos h0] at hr; subst hr; cases h
  rw [if_neg h0] at hr
  by_cases h1 : x = 98
  · rw [if_pos h1] at hr; subst hr; cases h
  rw [if_neg h1] at hr
  by_cases h1 : x = 116
  · rw [if_pos h1] at hr; subst hr; cases h
  rw [if_neg h1] at hr
  by_cases h1 : x = 110
  · rw [if_pos h1] at hr; subst hr; cases h
  rw [if_neg h1] at hr
  by_cases h1 : x = 102
  · rw [if_pos h1] at hr; subst hr; cases h
  rw [if_neg h1] at hr
  by_cases h1 : x = 114
  · rw [if_pos h1] at hr; subst hr; cases h
  rw [if_neg h1] at hr
  by_cases h1 : x = 117
  · rw [if_pos h1] at hr
    by_cases h2 : u.2 = false ∨ inR u.1 56320 57343 = true
    · rw [if_pos h2] at hr; exact hr.symm
    rw [if_neg h2] at hr
    by_cases h3 : inR u.1 55296 56319 = false
    · rw [if_pos h3] at hr; subst hr; cases h
    rw [if_neg h3] at hr
    by_cases h4 : y = 92 ∧ z = 117
    · rw [if_pos h4] at hr
      by_cases h5 : v.2 = true ∧ inR v.1 56320 57343 = true
      · rw [if_pos h5] at hr; subst hr; cases h
      · rw [if_neg h5] at hr; exact hr.symm
    · rw [if_neg h4] at hr; exact hr.symm
  · rw [if_neg h1] at hr; exact hr.symm
end Go.Proofs.YtceijgaocjghcaaGreatDoor
