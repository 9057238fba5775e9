/- Tokens as the laws have them; the law FnExactTokenText. -/
import Derived.Test.YtiapkpelgbpfmaaDoorTokText
import Derived.Test.YtiapkpelgbpfmaaDoorOpen
set_option linter.unusedVariables false
set_option maxRecDepth 100000
set_option linter.unusedSimpArgs false
namespace Go.Proofs.YtiapkpelgbpfmaaDoor
open Go.ChangeShapes Go.WideShapes Go.ChangeAt Go.RowKit

/-- A token, opened. -/
theorem open_token {H : Type} {enc : TypeId × Value → H} {W : World} {r : Reach} {b0 : Nat} {v : Value} {d : DataW H} {p : List MemPlace} (hv : Value.okWide Tryd.prog W r b0 44 v) (h : DataW.Trod enc Tryd.prog W 0 (fun _ => true) true 44 v d p) :
    ∃ (a : Int) (s : ByteArray) (b c : Int), v = tokV a s b c ∧ (Lit.int .i64 a).wf = true ∧ s.size ≤ maxLen ∧ (Lit.int .i64 b).wf = true ∧ (Lit.int .i64 c).wf = true := by
  obtain ⟨c0, c1, c2, c3, y0, y1, y2, y3, n, hv', _, _, k0, k1, k2, k3⟩ := Joins.open_agg4 Tryd.underlying44 (by kernel_rfl) (by kernel_rfl) hv h
  obtain ⟨a, ea, _, wa⟩ := DataW.trod_int Tryd.underlying3 k0
  obtain ⟨s, es, _, ws⟩ := DataW.trod_string Tryd.underlying9 k1
  obtain ⟨b, eb, _, wb⟩ := DataW.trod_int Tryd.underlying3 k2
  obtain ⟨c, ec, _, wc⟩ := DataW.trod_int Tryd.underlying3 k3
  simp only [List.cons.injEq, and_true] at ea es eb ec
  exact ⟨a, s, b, c, by rw [hv', ea, es, eb, ec]; rfl, wa, ws, wb, wc⟩
theorem l_toToken (k : Int) (s : ByteArray) (n x : Int) (w : World) :
    Calls Tryd.prog 29 #[tokV k s n x] w fun e w' => e = .returned (tokV k s n x) ∧ Below w.heap.size w w' := by
  unfold tokV
  go_enter Tryd.func29, Tryd.ntmps29
  go_wp2_with fail
  exact bodyPost_ret (v := .agg #[.int .i64 k, .string s, .int .i64 n, .int .i64 x]) (by simp [results, Tryd.results29, go_sem]) rfl ⟨rfl, Below.three _ _ _ _⟩
theorem l_szToken (k : Int) (s : ByteArray) (n x left : Int) (w : World) (hs : s.size ≤ maxLen) (hl : 0 ≤ left ∧ left ≤ 1048576) :
    Calls Tryd.prog 27 #[tokV k s n x, .int .i64 left] w fun e w' => e = .returned (.int .i64 (if left < s.size then -1 else left - s.size)) ∧ Below w.heap.size w w' := by
  unfold tokV
  unfold maxLen at hs
  by_cases h : left < s.size
  · rw [if_pos h]
    have h2 : left - s.size < 0 := by omega
    go_enter Tryd.func27, Tryd.ntmps27
    go_wp2_with fail
    go_ret
    exact ⟨rfl, Below.one _ _⟩
  · rw [if_neg h]
    have h2 : ¬ left - s.size < 0 := by omega
    go_enter Tryd.func27, Tryd.ntmps27
    go_wp2_with fail
    go_ret
    exact ⟨ret_int (by go_num), Below.one _ _⟩
set_option maxHeartbeats 1000000 in
theorem law_TokenText (k : Int) (s : ByteArray) (n x : Int) (w : World) (hk : -9223372036854775808 ≤ k ∧ k ≤ 9223372036854775807) (hs : s.size ≤ maxLen) (hn : -9223372036854775808 ≤ n ∧ n ≤ 9223372036854775807) (hx : -9223372036854775808 ≤ x ∧ x ≤ 9223372036854775807) (hT : Lib.Utf8Tabs 0 1 w) (hP : PowT w) :
    Calls Tryd.prog 7 #[tokV k s n x] w fun e w' => e = .returned (.bool true) ∧ Below w.heap.size w w' := by
  have hsz := fun w => l_szToken k s n x 1048576 w hs (by decide)
  have hto := fun w => l_toToken k s n x w
  have hb0 : Below w.heap.size w (w.alloc (.cells (tokC k s n x) 44)) := Below.one w _
  have hB : Blk (w.alloc (.cells (tokC k s n x) 44)) w.heap.size 44 (tokC k s n x) := Blk.new w _ _
  by_cases hb : (1048576 : Int) < s.size
  · simp only [if_pos hb] at hsz
    unfold tokV at hsz hto ⊢
    clear hto
    go_enter Tryd.func7, Tryd.ntmps7
    go_wp2_with (go_at_call 27; refine (hsz _).mono ?_; rintro e w1 ⟨rfl, hb1⟩)
    go_ret
    exact ⟨rfl, hb0.up hb1⟩
  · simp only [if_neg hb] at hsz
    have hs2 : s.size ≤ 1073741824 := by omega
    have hq := fun w1 => s_TokenText k s n x w1 hs2 hn hx
    have hi := fun w1 h1 h2 => i_TokenText k s n x w1 hs2 hn hx h1 h2
    obtain ⟨q, hqq⟩ : ∃ q, tokL k s.data.toList n x = q := ⟨_, rfl⟩
    rw [hqq] at hq hi
    have hng : ¬ (1048576 : Int) - s.size < 0 := by omega
    clear hqq hb
    have hb4 : ∀ {w' w2 : World}, Blk w' w.heap.size 44 (tokC k s n x) → Below w'.heap.size w' w2 → Blk w2 w.heap.size 44 (tokC k s n x) := fun h hb => h.below hb h.lt
    have hc4 : ∀ {w' : World}, Blk w' w.heap.size 44 (tokC k s n x) → w'.cell? ⟨w.heap.size, 0, none⟩ = some (.int .i64 k) ∧ w'.cell? ⟨w.heap.size, 1, none⟩ = some (.string s) ∧ w'.cell? ⟨w.heap.size, 2, none⟩ = some (.int .i64 n) ∧ w'.cell? ⟨w.heap.size, 3, none⟩ = some (.int .i64 x) := fun h => ⟨h.cell 0, h.cell 1, h.cell 2, h.cell 3⟩
    unfold tokV at hsz hto hq hi ⊢
    go_enter Tryd.func7, Tryd.ntmps7
    go_wp2_with (first
      | (go_at_call 27; refine (hsz _).mono ?_; rintro e w1 ⟨rfl, hb1⟩; clear hsz; have B1 := hb4 hB hb1; obtain ⟨p0, p1, p2, p3⟩ := hc4 B1; have k1 := hb0.up hb1)
      | (have hg := hq; clear hg; go_at_call 29; refine (hto _).mono ?_; rintro e w2 ⟨rfl, hb2⟩; have B2 := hb4 B1 hb2; have k2 := k1.up hb2; clear B1 k1 p0 p1 p2 p3; obtain ⟨p0, p1, p2, p3⟩ := hc4 B2)
      | (go_at_call 28; refine (hq _).mono ?_; rintro e w3 ⟨rfl, hb3⟩; clear hq; have B3 := hb4 B2 hb3; have k3 := k2.up hb3; clear B2 k2 p0 p1 p2 p3; obtain ⟨p0, p1, p2, p3⟩ := hc4 B3)
      | (go_at_call 29; refine (hto _).mono ?_; rintro e w4 ⟨rfl, hb4x⟩; have k4 := k3.up hb4x)
      | (go_at_call 30; refine (hi _ (Utf8Tabs_below hT k4) (hP.below k4)).mono ?_; rintro e w5 ⟨rfl, hb5⟩; have k5 := k4.up hb5))
    go_ret
    exact ⟨rfl, k5⟩
end Go.Proofs.YtiapkpelgbpfmaaDoor
