/- Lists of tokens: the laws' helpers on them. -/
import Derived.Test.YtceijgaocjghcaaGreatDoorTnM32
import Derived.Test.YtceijgaocjghcaaGreatDoorTnM37
import Derived.Deep.LoopGhost
import Derived.Deep.RegionHeld3
set_option linter.unusedVariables false
set_option maxRecDepth 100000
set_option linter.unusedSimpArgs false
namespace Go.Proofs.YtceijgaocjghcaaGreatDoor
open Go.RowKit

theorem tkC_app : ∀ (a b : List Tk), tkC (a ++ b) = tkC a ++ tkC b
  | [], b => rfl
  | p :: a, b => by simp only [List.cons_append, tkC, tkC_app a b]
theorem arr_set4 {xs ys : List Value} {y0 y1 y2 y3 a b c d : Value} {i : Nat} (h : xs.length = i) : ((((xs ++ y0 :: y1 :: y2 :: y3 :: ys).toArray.setIfInBounds i a).setIfInBounds (i + 1) b).setIfInBounds (i + 2) c).setIfInBounds (i + 3) d = (xs ++ a :: b :: c :: d :: ys).toArray := by
  subst h
  simp only [List.setIfInBounds_toArray]
  congr 1
  have e : ∀ (l : List Value) (k : Nat) (v : Value), (xs ++ l).set (xs.length + k) v = xs ++ l.set k v := fun l k v => by rw [List.set_append_right _ _ (Nat.le_add_right _ _), Nat.add_sub_cancel_left]
  have e0 := e (y0 :: y1 :: y2 :: y3 :: ys) 0 a
  rw [Nat.add_zero] at e0
  rw [e0, List.set_cons_zero, e, e, e]
  rfl
theorem info_tok : (Tryz.prog.info? 31).map (fun i => (i.zero, i.size, i.bytes)) = some (some (.agg #[.int .i64 0, .string ⟨#[]⟩, .int .i64 0, .int .i64 0]), 4, 40) := by kernel_rfl
theorem Blk.four {w : World} {g o : Nat} {T : TypeId} {cs : Array Value} (h : Blk w g T cs) (hs : o + 4 ≤ cs.size) (a b c : Value) :
    ∃ x0 x1 x2 x3, (w.cell? ⟨g, o, none⟩ = some x0 ∧ w.frozen? ⟨g, o, none⟩ = false) ∧
      ((w.setCell ⟨g, o, none⟩ a).cell? ⟨g, o + 1, none⟩ = some x1 ∧ (w.setCell ⟨g, o, none⟩ a).frozen? ⟨g, o + 1, none⟩ = false) ∧
      (((w.setCell ⟨g, o, none⟩ a).setCell ⟨g, o + 1, none⟩ b).cell? ⟨g, o + 2, none⟩ = some x2 ∧ ((w.setCell ⟨g, o, none⟩ a).setCell ⟨g, o + 1, none⟩ b).frozen? ⟨g, o + 2, none⟩ = false) ∧
      ((((w.setCell ⟨g, o, none⟩ a).setCell ⟨g, o + 1, none⟩ b).setCell ⟨g, o + 2, none⟩ c).cell? ⟨g, o + 3, none⟩ = some x3 ∧ (((w.setCell ⟨g, o, none⟩ a).setCell ⟨g, o + 1, none⟩ b).setCell ⟨g, o + 2, none⟩ c).frozen? ⟨g, o + 3, none⟩ = false) := by
  have h1 := h.set_ o a
  have h2 := h1.set_ (o + 1) b
  have h3 := h2.set_ (o + 2) c
  have g0 : ∀ (k : Nat), k < cs.size → ∃ v, cs[k]? = some v := fun k hk => ⟨_, Array.getElem?_eq_getElem hk⟩
  exact ⟨_, _, _, _, ⟨(h.cell o).trans (Array.getElem?_eq_getElem (by omega)), h.frozen o⟩, ⟨(h1.cell (o + 1)).trans (Array.getElem?_eq_getElem (by simp; omega)), h1.frozen _⟩,
    ⟨(h2.cell (o + 2)).trans (Array.getElem?_eq_getElem (by simp; omega)), h2.frozen _⟩, ⟨(h3.cell (o + 3)).trans (Array.getElem?_eq_getElem (by simp; omega)), h3.frozen _⟩⟩
/-- Tokens in a row of the call's own. -/
def KS (w : World) (lo : Nat) (A : Option Addr) (n c : Nat) (l : List Tk) : Prop := w.ownsRow lo 31 4 (.slice A n c) n (tkC l)
theorem KS.sl {w : World} {lo n c : Nat} {A : Option Addr} {l : List Tk} (h : KS w lo A n c l) : Sl w w.heap.size 4 A n c (tkC l) := Sl.of_own h
end Go.Proofs.YtceijgaocjghcaaGreatDoor
