/- l9Escape (spec): what stands behind a backslash. ReadQuoted: what it reads, plain; runeAt (impl). -/
import Derived.Test.YtmnlkedacnemcaaGreatDoorTwM30
import Derived.Test.YtmnlkedacnemcaaGreatDoorTwM24
import Derived.Shelf.Strings.MapAny
import Derived.Lib.TrimUEq
set_option linter.unusedVariables false
set_option maxRecDepth 100000
set_option linter.unusedSimpArgs false
namespace Go.Proofs.YtmnlkedacnemcaaGreatDoor
open Go.RowKit

theorem ret3_eq {a b c d : Int} {x : Bool} (h1 : a = c) (h2 : b = d) : Ending.returned (.tuple #[.int .i64 a, .int .i64 b, .bool x]) = ret3 (c, d, x) := by rw [h1, h2]; rfl
end Go.Proofs.YtmnlkedacnemcaaGreatDoor

namespace Go.Proofs.YtmnlkedacnemcaaGreatDoor
open Go.RowKit

def badQ : List UInt8 × Int × Int := ([], 0, 1)
/-- The text behind an opening quote: at offset p, what is read before it in acc. -/
def quotedG (l : List UInt8) : Nat → Nat → List Int → List UInt8 × Int × Int
  | 0, _, _ => badQ
  | f + 1, p, acc =>
    if l.length ≤ p then badQ
    else if l.getD p 0 = 34 then (encAll acc, (p : Int) + 1, 0)
    else if l.getD p 0 = 92 then
      if (escP l (p + 1)).2.2 = true then quotedG l f (escP l (p + 1)).2.1.toNat (acc ++ [(escP l (p + 1)).1]) else badQ
    else match getR (l.drop p) with
      | none => badQ
      | some d => if (d.1 : Int) < 32 then badQ else quotedG l f (p + d.2) (acc ++ [(d.1 : Int)])
def quotedL (l : List UInt8) (i : Int) : List UInt8 × Int × Int :=
  if i < 0 ∨ (l.length : Int) ≤ i ∨ ¬ l.getD i.toNat 0 = 34 then badQ else quotedG l l.length (i.toNat + 1) []
def retQ (r : List UInt8 × Int × Int) : Ending := .returned (.tuple #[.string ⟨r.1.toArray⟩, .int .i64 r.2.1, .int .i64 r.2.2])
section
variable {l : List UInt8} {f p : Nat} {acc : List Int}
theorem quotedG_end (h : l.length ≤ p) : quotedG l f p acc = badQ := by
  cases f with
  | zero => rfl
  | succ f => simp only [quotedG]; rw [if_pos h]
theorem quotedG_close (h : p < l.length) (h2 : l.getD p 0 = 34) : quotedG l (f + 1) p acc = (encAll acc, (p : Int) + 1, 0) := by
  simp only [quotedG]; rw [if_neg (by omega), if_pos h2]
theorem quotedG_esc {n m : Int} {ok : Bool} (h : p < l.length) (h2 : l.getD p 0 = 92) (he : escP l (p + 1) = (n, m, ok)) : quotedG l (f + 1) p acc = if ok = true then quotedG l f m.toNat (acc ++ [n]) else badQ := by
  simp only [quotedG]; rw [if_neg (by omega), h2, if_neg (by decide), if_pos rfl, he]
theorem quotedG_none (h : p < l.length) (h2 : ¬ l.getD p 0 = 34) (h3 : ¬ l.getD p 0 = 92) (hg : getR (l.drop p) = none) : quotedG l (f + 1) p acc = badQ := by
  simp only [quotedG]; rw [if_neg (by omega), if_neg h2, if_neg h3, hg]
theorem quotedG_some {c k : Nat} (h : p < l.length) (h2 : ¬ l.getD p 0 = 34) (h3 : ¬ l.getD p 0 = 92) (hg : getR (l.drop p) = some (c, k)) : quotedG l (f + 1) p acc = if (c : Int) < 32 then badQ else quotedG l f (p + k) (acc ++ [(c : Int)]) := by
  simp only [quotedG]; rw [if_neg (by omega), if_neg h2, if_neg h3, hg]
end
theorem retQ_eq {a b : List UInt8} {c d e f : Int} (h1 : a = b) (h2 : c = d) (h3 : e = f) : Ending.returned (.tuple #[.string ⟨a.toArray⟩, .int .i64 c, .int .i64 e]) = retQ (b, d, f) := by rw [h1, h2, h3]; rfl
theorem decode_le4 (s : ByteArray) (p : Nat) : (Utf8.decode s p).2 ≤ 4 := by
  rw [Lib.decode_N]
  unfold Lib.decodeN
  (repeat' split) <;> first | exact (by decide : 1 ≤ 4) | exact (by decide : 2 ≤ 4) | exact (by decide : 3 ≤ 4) | exact (by decide : 4 ≤ 4)
theorem escP_bad {l : List UInt8} {q : Nat} (h : (escP l q).2.2 = false) : escP l q = badE := by
  obtain ⟨r, hr⟩ : ∃ r, escP l q = r := ⟨_, rfl⟩
  rw [hr] at h ⊢
  unfold escP uniP at hr
  generalize fourL l ((q : Int) + 1) = u at hr
  generalize fourL l ((q : Int) + 7) = v at hr
  generalize l.getD q 0 = x at hr
  generalize l.getD (q + 5) 0 = y at hr
  generalize l.getD (q + 6) 0 = z at hr
  by_cases h0 : x = 34 ∨ x = 92 ∨ x = 47
  · rw [if_pos h0] at hr; subst hr; cases h
  rw [if_neg h0] at hr
  by_cases h1 : x = 98
  · rw [if_pos h1] at hr; subst hr; cases h
  rw [if_neg h1] at hr
  by_cases h1 : x = 116
  · rw [if_pos h1] at hr; subst hr; cases h
  rw [if_neg h1] at hr
  by_cases h1 : x = 110
  · rw [if_pos h1] at hr; subst hr; cases h
  rw [if_neg h1] at hr
  by_cases h1 : x = 102
  · rw [if_pos h1] at hr; subst hr; cases h
  rw [if_neg h1] at hr
  by_cases h1 : x = 114
  · rw [if_pos h1] at hr; subst hr; cases h
  rw [if_neg h1] at hr
  by_cases h1 : x = 117
  · rw [if_pos h1] at hr
    by_cases h2 : u.2 = false ∨ inR u.1 56320 57343 = true
    · rw [if_pos h2] at hr; exact hr.symm
    rw [if_neg h2] at hr
    by_cases h3 : inR u.1 55296 56319 = false
    · rw [if_pos h3] at hr; subst hr; cases h
    rw [if_neg h3] at hr
    by_cases h4 : y = 92 ∧ z = 117
    · rw [if_pos h4] at hr
      by_cases h5 : v.2 = true ∧ inR v.1 56320 57343 = true
      · rw [if_pos h5] at hr; subst hr; cases h
      · rw [if_neg h5] at hr; exact hr.symm
    · rw [if_neg h4] at hr; exact hr.symm
  · rw [if_neg h1] at hr; exact hr.symm
end Go.Proofs.YtmnlkedacnemcaaGreatDoor
