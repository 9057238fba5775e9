/- TokenText: impl and spec. -/
import Derived.Test.YticejlknbfhndaaDoorNumText
import Derived.Test.YticejlknbfhndaaDoorMarkVal
set_option linter.unusedVariables false
set_option maxRecDepth 100000
set_option linter.unusedSimpArgs false
namespace Go.Proofs.YticejlknbfhndaaDoor
open Go.RowKit

/-- A token as text. -/
def tokL (k : Int) (s : List UInt8) (n x : Int) : List UInt8 :=
  if k = 1 ∨ k = 4 then s else if k = 2 then quoteL s else if k = 3 then (if x = 0 then numL n else numL n ++ (101 :: numL x)) else []
theorem tokL_len {k : Int} {s : List UInt8} {n x : Int} (hn : -9223372036854775808 ≤ n ∧ n ≤ 9223372036854775807) (hx : -9223372036854775808 ≤ x ∧ x ≤ 9223372036854775807) : (tokL k s n x).length ≤ 8 * s.length + 43 := by
  have h1 := quoteL_len s
  have h2 := numL_len hn
  have h3 := numL_len hx
  unfold tokL
  (repeat' split) <;> simp <;> omega
def tokV (k : Int) (s : ByteArray) (n x : Int) : Value := .agg #[.int .i64 k, .string s, .int .i64 n, .int .i64 x]
def tokC (k : Int) (s : ByteArray) (n x : Int) : Array Value := #[.int .i64 k, .string s, .int .i64 n, .int .i64 x]
abbrev BoxT (w0 : World) (g : Nat) (n x : Int) (w' : World) : Prop := (w'.cell? ⟨g, 2, none⟩ = some (.int .i64 n) ∧ w'.cell? ⟨g, 3, none⟩ = some (.int .i64 x)) ∧ Below w0.heap.size w0 w'
theorem boxT {w0 w' : World} {g : Nat} {T : TypeId} {k : Int} {s : ByteArray} {n x : Int} (h : Blk w0 g T (tokC k s n x)) (hb : Below w0.heap.size w0 w') : BoxT w0 g n x w' := by
  have h2 := h.below hb h.lt
  exact ⟨⟨h2.cell 2, h2.cell 3⟩, hb⟩
theorem ba_str (s : ByteArray) : (⟨s.data.toList.toArray⟩ : ByteArray) = s := by apply ByteArray.ext; simp
end Go.Proofs.YticejlknbfhndaaDoor
