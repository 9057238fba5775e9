/- Tokens as the laws have them; the law FnExactTokenText. -/
import Derived.Test.YticejlknbfhndaaDoorTokText
import Derived.Test.YticejlknbfhndaaDoorOpen
set_option linter.unusedVariables false
set_option maxRecDepth 100000
set_option linter.unusedSimpArgs false
namespace Go.Proofs.YticejlknbfhndaaDoor
open Go.ChangeShapes Go.WideShapes Go.ChangeAt Go.RowKit

/-- A token, opened. -/
theorem open_token {H : Type} {enc : TypeId × Value → H} {W : World} {r : Reach} {b0 : Nat} {v : Value} {d : DataW H} {p : List MemPlace} (hv : Value.okWide Tryd.prog W r b0 55 v) (h : DataW.Trod enc Tryd.prog W 0 (fun _ => true) true 55 v d p) :
    ∃ (a : Int) (s : ByteArray) (b c : Int), v = tokV a s b c ∧ (Lit.int .i64 a).wf = true ∧ s.size ≤ maxLen ∧ (Lit.int .i64 b).wf = true ∧ (Lit.int .i64 c).wf = true := by
  obtain ⟨c0, c1, c2, c3, y0, y1, y2, y3, n, hv', _, _, k0, k1, k2, k3⟩ := Joins.open_agg4 Tryd.underlying55 (by kernel_rfl) (by kernel_rfl) hv h
  obtain ⟨a, ea, _, wa⟩ := DataW.trod_int Tryd.underlying3 k0
  obtain ⟨s, es, _, ws⟩ := DataW.trod_string Tryd.underlying9 k1
  obtain ⟨b, eb, _, wb⟩ := DataW.trod_int Tryd.underlying3 k2
  obtain ⟨c, ec, _, wc⟩ := DataW.trod_int Tryd.underlying3 k3
  simp only [List.cons.injEq, and_true] at ea es eb ec
  exact ⟨a, s, b, c, by rw [hv', ea, es, eb, ec]; rfl, wa, ws, wb, wc⟩
theorem l_toToken (k : Int) (s : ByteArray) (n x : Int) (w : World) :
    Calls Tryd.prog 50 #[tokV k s n x] w fun e w' => e = .returned (tokV k s n x) ∧ Below w.heap.size w w' := by
  unfold tokV
  go_enter Tryd.func50, Tryd.ntmps50
  go_wp2_with fail
  exact bodyPost_ret (v := .agg #[.int .i64 k, .string s, .int .i64 n, .int .i64 x]) (by simp [results, Tryd.results50, go_sem]) rfl ⟨rfl, Below.three _ _ _ _⟩
theorem l_szToken (k : Int) (s : ByteArray) (n x left : Int) (w : World) (hs : s.size ≤ maxLen) (hl : 0 ≤ left ∧ left ≤ 1048576) :
    Calls Tryd.prog 48 #[tokV k s n x, .int .i64 left] w fun e w' => e = .returned (.int .i64 (if left < s.size then -1 else left - s.size)) ∧ Below w.heap.size w w' := by
  unfold tokV
  unfold maxLen at hs
  by_cases h : left < s.size
  · rw [if_pos h]
    have h2 : left - s.size < 0 := by omega
    go_enter Tryd.func48, Tryd.ntmps48
    go_wp2_with fail
    go_ret
    exact ⟨rfl, Below.one _ _⟩
  · rw [if_neg h]
    have h2 : ¬ left - s.size < 0 := by omega
    go_enter Tryd.func48, Tryd.ntmps48
    go_wp2_with fail
    go_ret
    exact ⟨ret_int (by go_num), Below.one _ _⟩
end Go.Proofs.YticejlknbfhndaaDoor
