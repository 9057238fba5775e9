/- ReadQuoted: what it reads, plain; runeAt (impl). -/
import Derived.Test.YtgddnpglgakkdaaGreatDoorEscI
import Derived.Test.YtgddnpglgakkdaaGreatDoorEscS
import Derived.Test.YtgddnpglgakkdaaGreatDoorQuote
import Derived.Shelf.Strings.MapAny
import Derived.Lib.TrimUEq
set_option linter.unusedVariables false
set_option maxRecDepth 100000
set_option linter.unusedSimpArgs false
namespace Go.Proofs.YtgddnpglgakkdaaGreatDoor
open Go.RowKit

def badQ : List UInt8 × Int × Int := ([], 0, 1)
/-- The text behind an opening quote: at offset p, what is read before it in acc. -/
def quotedG (l : List UInt8) : Nat → Nat → List Int → List UInt8 × Int × Int
  | 0, _, _ => badQ
  | f + 1, p, acc =>
    if l.length ≤ p then badQ
    else if l.getD p 0 = 34 then (encAll acc, (p : Int) + 1, 0)
    else if l.getD p 0 = 92 then
      if (escP l (p + 1)).2.2 = true then quotedG l f (escP l (p + 1)).2.1.toNat (acc ++ [(escP l (p + 1)).1]) else badQ
    else match getR (l.drop p) with
      | none => badQ
      | some d => if (d.1 : Int) < 32 then badQ else quotedG l f (p + d.2) (acc ++ [(d.1 : Int)])
def quotedL (l : List UInt8) (i : Int) : List UInt8 × Int × Int :=
  if i < 0 ∨ (l.length : Int) ≤ i ∨ ¬ l.getD i.toNat 0 = 34 then badQ else quotedG l l.length (i.toNat + 1) []
def retQ (r : List UInt8 × Int × Int) : Ending := .returned (.tuple #[.string ⟨r.1.toArray⟩, .int .i64 r.2.1, .int .i64 r.2.2])
section
variable {l : List UInt8} {f p : Nat} {acc : List Int}
theorem quotedG_end (h : l.length ≤ p) : quotedG l f p acc = badQ := by
  cases f with
  | zero => rfl
  | succ f => simp only [quotedG]; rw [if_pos h]
theorem quotedG_close (h : p < l.length) (h2 : l.getD p 0 = 34) : quotedG l (f + 1) p acc = (encAll acc, (p : Int) + 1, 0) := by
  simp only [quotedG]; rw [if_neg (by omega), if_pos h2]
theorem quotedG_esc {n m : Int} {ok : Bool} (h : p < l.length) (h2 : l.getD p 0 = 92) (he : escP l (p + 1) = (n, m, ok)) : quotedG l (f + 1) p acc = if ok = true then quotedG l f m.toNat (acc ++ [n]) else badQ := by
  simp only [quotedG]; rw [if_neg (by omega), h2, if_neg (by decide), if_pos rfl, he]
theorem quotedG_none (h : p < l.length) (h2 : ¬ l.getD p 0 = 34) (h3 : ¬ l.getD p 0 = 92) (hg : getR (l.drop p) = none) : quotedG l (f + 1) p acc = badQ := by
  simp only [quotedG]; rw [if_neg (by omega), if_neg h2, if_neg h3, hg]
theorem quotedG_some {c k : Nat} (h : p < l.length) (h2 : ¬ l.getD p 0 = 34) (h3 : ¬ l.getD p 0 = 92) (hg : getR (l.drop p) = some (c, k)) : quotedG l (f + 1) p acc = if (c : Int) < 32 then badQ else quotedG l f (p + k) (acc ++ [(c : Int)]) := by
  simp only [quotedG]; rw [if_neg (by omega), if_neg h2, if_neg h3, hg]
end
theorem retQ_eq {a b : List UInt8} {c d e f : Int} (h1 : a = b) (h2 : c = d) (h3 : e = f) : Ending.returned (.tuple #[.string ⟨a.toArray⟩, .int .i64 c, .int .i64 e]) = retQ (b, d, f) := by rw [h1, h2, h3]; rfl
theorem decode_le4 (s : ByteArray) (p : Nat) : (Utf8.decode s p).2 ≤ 4 := by
  rw [Lib.decode_N]
  unfold Lib.decodeN
  (repeat' split) <;> first | exact (by decide : 1 ≤ 4) | exact (by decide : 2 ≤ 4) | exact (by decide : 3 ≤ 4) | exact (by decide : 4 ≤ 4)
/-- The character at an offset and the place behind it; 0, 0: there is none. -/
def atP (l : List UInt8) (p : Nat) : Int × Int := match getR (l.drop p) with | none => (0, 0) | some d => ((d.1 : Int), (p : Int) + d.2)
set_option maxHeartbeats 1000000 in
theorem i_runeAt (s : ByteArray) (p : Nat) (w : World) (hs : s.size ≤ 1099511627776) (hT : Lib.Utf8Tabs 1 2 w) :
    Calls Tryz.prog 61 #[.string s, .int .i64 p] w fun e w' => e = retII (atP s.data.toList p) ∧ Below w.heap.size w w' := by
  by_cases hp : ¬ p < s.size
  · have e : atP s.data.toList p = (0, 0) := by
      unfold atP
      rw [List.drop_eq_nil_of_le (by rw [blen_of]; omega)]
      rfl
    have hi : inR (p : Int) 0 ((s.size : Int) - 1) = false := inR_no (by omega)
    rw [e]
    go_enter Tryz.func61, Tryz.ntmps61
    go_wp2_with (first
        | (go_at_call 38; refine (i_within _ _ _ _).mono ?_; rintro e w' ⟨rfl, rfl⟩))
    go_ret2
    exact ⟨rfl, Below.refl _ _⟩
  have hp : p < s.size := Nat.lt_of_not_le (fun h => hp (Nat.not_lt.2 h))
  have hD := Tryz.utf8_DecodeRuneInString (s.extract p s.size) w hT
  rw [Lib.decodeGo_extract s p hp] at hD
  have hd := Lib.decodeL_drop s p
  have hne : s.data.toList.drop p ≠ [] := drop_ne (by rw [blen_of]; exact hp)
  have hle := decode_le s p
  have hi : inR (p : Int) 0 ((s.size : Int) - 1) = true := inR_yes (by omega) (by omega)
  unfold atP getR
  rw [if_neg hne, hd]
  obtain ⟨⟨c, k⟩, hck⟩ : ∃ d, Utf8.decode s p = d := ⟨_, rfl⟩
  have hk4 : k ≤ 4 := by have := decode_le4 s p; rw [hck] at this; exact this
  have hk1 : 1 ≤ k := by have := Lib.decodeL_width (s.data.toList.drop p); rw [hd, hck] at this; exact this
  rw [hck] at hD hle ⊢
  simp only [] at hD hle ⊢
  clear hd hck hne
  by_cases hb : c = 65533 ∧ k = 1
  · rw [if_pos hb]
    obtain ⟨rfl, rfl⟩ := hb
    go_enter Tryz.func61, Tryz.ntmps61
    go_wp2_with (first
        | (go_at_call 38; refine (i_within _ _ _ _).mono ?_; rintro e w' ⟨rfl, rfl⟩)
        | (go_at_call 89; refine hD.mono ?_; rintro e w1 ⟨rfl, hb1⟩))
    go_ret2
    exact ⟨rfl, hb1⟩
  · rw [if_neg hb]
    have hcond : ¬ ((c : Int) = 65533 ∧ (k : Int) ≤ 1) := by omega
    go_enter Tryz.func61, Tryz.ntmps61
    go_wp2_with (first
        | (go_at_call 38; refine (i_within _ _ _ _).mono ?_; rintro e w' ⟨rfl, rfl⟩)
        | (go_at_call 89; refine hD.mono ?_; rintro e w1 ⟨rfl, hb1⟩))
    all_goals (go_ret2; exact ⟨retII_eq (by omega) rfl, hb1⟩)
theorem escP_bad {l : List UInt8} {q : Nat} (h : (escP l q).2.2 = false) : escP l q = badE := by
  obtain ⟨r, hr⟩ : ∃ r, escP l q = r := ⟨_, rfl⟩
  rw [hr] at h ⊢
  unfold escP uniP at hr
  generalize fourL l ((q : Int) + 1) = u at hr
  generalize fourL l ((q : Int) + 7) = v at hr
  generalize l.getD q 0 = x at hr
  generalize l.getD (q + 5) 0 = y at hr
  generalize l.getD (q + 6) 0 = z at hr
  by_cases h0 : x = 34 ∨ x = 92 ∨ x = 47
  · rw [if_pos h0] at hr; subst hr; cases h
  rw [if_neg h0] at hr
  by_cases h1 : x = 98
  · rw [if_pos h1] at hr; subst hr; cases h
  rw [if_neg h1] at hr
  by_cases h1 : x = 116
  · rw [if_pos h1] at hr; subst hr; cases h
  rw [if_neg h1] at hr
  by_cases h1 : x = 110
  · rw [if_pos h1] at hr; subst hr; cases h
  rw [if_neg h1] at hr
  by_cases h1 : x = 102
  · rw [if_pos h1] at hr; subst hr; cases h
  rw [if_neg h1] at hr
  by_cases h1 : x = 114
  · rw [if_pos h1] at hr; subst hr; cases h
  rw [if_neg h1] at hr
  by_cases h1 : x = 117
  · rw [if_pos h1] at hr
    by_cases h2 : u.2 = false ∨ inR u.1 56320 57343 = true
    · rw [if_pos h2] at hr; exact hr.symm
    rw [if_neg h2] at hr
    by_cases h3 : inR u.1 55296 56319 = false
    · rw [if_pos h3] at hr; subst hr; cases h
    rw [if_neg h3] at hr
    by_cases h4 : y = 92 ∧ z = 117
    · rw [if_pos h4] at hr
      by_cases h5 : v.2 = true ∧ inR v.1 56320 57343 = true
      · rw [if_pos h5] at hr; subst hr; cases h
      · rw [if_neg h5] at hr; exact hr.symm
    · rw [if_neg h4] at hr; exact hr.symm
  · rw [if_neg h1] at hr; exact hr.symm
end Go.Proofs.YtgddnpglgakkdaaGreatDoor
