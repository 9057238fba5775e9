/- A tree that came in, opened. MarkFor. -/
import Derived.Test.YtpafgmlkbbbmhaaDoorPqVal
import Derived.Test.YtpafgmlkbbbmhaaDoorPqM33
import Derived.Test.YtpafgmlkbbbmhaaDoorPqHex
set_option linter.unusedVariables false
set_option maxRecDepth 100000
set_option linter.unusedSimpArgs false
namespace Go.Proofs.YtpafgmlkbbbmhaaDoor
open Go.ChangeShapes Go.WideShapes Go.ChangeAt Go.RowKit

theorem lists_of {Q : Nat → Tr → El → Prop} (n : Nat) (h : ∀ i, i < n → ∃ t e, Q i t e) : ∃ (l : List Tr) (es : List El), l.length = n ∧ es.length = n ∧ ∀ (i : Nat) (t : Tr) (e : El), l[i]? = some t → es[i]? = some e → Q i t e := by
  induction n with
  | zero => exact ⟨[], [], rfl, rfl, fun i t e h => by simp at h⟩
  | succ n ih =>
    obtain ⟨l, es, h1, h2, h3⟩ := ih fun i hi => h i (by omega)
    obtain ⟨t, e, hq⟩ := h n (by omega)
    refine ⟨l ++ [t], es ++ [e], by simp [h1], by simp [h2], fun i t2 e2 ht he => ?_⟩
    rcases Nat.lt_or_ge i n with hi | hi
    · rw [List.getElem?_append_left (by omega)] at ht he
      exact h3 i t2 e2 ht he
    · have : i < (l ++ [t]).length := (List.getElem?_eq_some_iff.1 ht).1
      obtain rfl : i = n := by simp [h1] at this; omega
      rw [List.getElem?_append_right (by omega)] at ht he
      simp [h1, h2] at ht he
      subst ht he
      exact hq
theorem five_of {α : Type} {cs : List α} (h : cs.length = 5) : ∃ a b c d e, cs = [a, b, c, d, e] := by
  match cs, h with
  | [a, b, c, d, e], _ => exact ⟨a, b, c, d, e, rfl⟩
theorem drop_get {α : Type} (xs : List α) (i j : Nat) (hj : j < 5) {cs : List α} (h : (xs.drop (i * 5)).take 5 = cs) : xs[i * 5 + j]? = cs[j]? := by
  subst h
  rw [List.getElem?_take, if_pos hj, List.getElem?_drop]
end Go.Proofs.YtpafgmlkbbbmhaaDoor

namespace Go.Proofs.YtpafgmlkbbbmhaaDoor
open Go.RowKit

def markFor (k n x : Int) (sl m : Nat) : Int × Int :=
  if k = 1 ∨ k = 2 ∨ k = 3 ∨ k = 5 then (k, n) else if k = 4 then (4, fltBits n x) else if k = 7 ∨ k = 8 then (k, sl) else if k = 9 then (9, m) else if k = 10 then (10, (m : Int) / 2) else (0, 0)
theorem tdiv2 (m : Nat) : Int.tdiv (m : Int) 2 = (m : Int) / 2 := by rw [Int.tdiv_eq_ediv]; simp
end Go.Proofs.YtpafgmlkbbbmhaaDoor
