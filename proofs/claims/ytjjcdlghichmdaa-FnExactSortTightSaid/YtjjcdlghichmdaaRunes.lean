/- FromRunes: the reference's. -/
import Derived.Test.YtjjcdlghichmdaaRune
set_option linter.unusedVariables false
set_option maxRecDepth 100000
set_option linter.unusedSimpArgs false
namespace Go.Proofs.Ytjjcdlghichmdaa
open Go.RowKit

theorem own_mono {w : World} {base base' : Nat} {e : TypeId} {m : Nat} {v : Value} {n : Nat} {xs : List Value} (h : w.ownsRow base e m v n xs) (hb : base' ≤ base) : w.ownsRow base' e m v n xs := by
  refine ⟨h.1, ?_⟩
  rcases h.2 with h1 | ⟨g, cap, cur, h1, h2, h3⟩
  · exact .inl h1
  · exact .inr ⟨g, cap, cur, h1, Nat.le_trans hb h2, h3⟩
def i64s (l : List Int) : List Value := l.map (Value.int .i64)
theorem i64s_get (l : List Int) (k : Nat) (h : k < l.length) : (i64s l)[k]? = some (.int .i64 l[k]) := by simp [i64s, h]
theorem Sl.int {w : World} {B n c : Nat} {A : Option Addr} {l : List Int} (h : Sl w B 1 A n c (i64s l)) {k : Nat} (hk : k < n) :
    ∃ g o, A = some ⟨g, o, none⟩ ∧ g < B ∧ ∃ hb : k < l.length, w.cell? ⟨g, o + k, none⟩ = some (.int .i64 l[k]) := by
  obtain ⟨g, o, e, hg, hc⟩ := h.at_ (by omega)
  have hl : k < l.length := by have := h.len; simp [i64s] at this; omega
  exact ⟨g, o, e, hg, hl, hc k _ (i64s_get l k hl)⟩
theorem Sl.ilen {w : World} {B n c : Nat} {A : Option Addr} {l : List Int} (h : Sl w B 1 A n c (i64s l)) : l.length = n := by have := h.len; simp [i64s] at this; omega
def encAll (l : List Int) : List UInt8 := l.flatMap encR
theorem encAll_snoc (l : List Int) (x : Int) : encAll (l ++ [x]) = encAll l ++ encR x := by simp [encAll, List.flatMap_append]
theorem encAll_len (l : List Int) : (encAll l).length ≤ 4 * l.length := by
  induction l with
  | nil => simp [encAll]
  | cons a l ih => have := encR_len a; simp only [encAll, List.flatMap_cons, List.length_append, List.length_cons] at ih ⊢; omega
end Go.Proofs.Ytjjcdlghichmdaa
