/- Draws of the laws on quotes: some number, some short text. -/
import Derived.Test.YtihhedmehlemmaaDoorCurNew
set_option linter.unusedVariables false
set_option maxRecDepth 100000
set_option linter.unusedSimpArgs false
namespace Go.Proofs.YtihhedmehlemmaaDoor
open Go.RowKit

theorem frLow {w w' : World} {g lo : Nat} (h : Fr [g] w w') (hg : lo ≤ g) (hs : lo ≤ w.heap.size) : Below lo w w' := h.below (fun x hx => by simp at hx; omega) hs
theorem strs_lit (w : World) (o : Nat) (l : List ByteArray) (n : Nat) (hn : l.length = n) (hm : n ≤ maxLen) : Sl (w.alloc (.cells (l.map Value.string).toArray 9)) (w.alloc (.cells (l.map Value.string).toArray 9)).heap.size 1 (some ⟨w.heap.size, 0, none⟩) n n (l.map Value.string) := by
  have h := Sl.lit w 9 (l.map Value.string).toArray 1 n (by simp [hn]) hm (w.alloc (.cells (l.map Value.string).toArray 9)).heap.size (by simp)
  simpa using h
/-- One of the texts of a list; the list lies in memory of its own, below the world's end. -/
theorem s_l1Str (B g n c : Nat) (A : Option Addr) (b : List UInt8) (A2 : Option Addr) (m c2 : Nat) (l : List ByteArray) (w : World) (h : Cur w B g A n c b) (hl : Sl w w.heap.size 1 A2 m c2 (l.map Value.string)) (hg : ∀ x ∈ blkOf A2, x ≠ g) (hm : 0 < m) :
    Calls Tryd.prog 67 #[.pointer (some ⟨g, 0, none⟩), .slice A2 m c2] w fun r w' => ∃ x : ByteArray, r = .returned (.string x) ∧ x ∈ l ∧ Cur w' B g A n c b ∧ Fr [g] w w' := by
  have hm9 : (m : Int) ≤ 9223372036854775807 := by have := hl.cap; have := hl.max; unfold maxLen at *; omega
  have hll : l.length = m := by have := hl.len; simp at this; omega
  go_enter Tryd.func67, Tryd.ntmps67
  go_wp2_with (go_at_call 65; refine (s_l1Below B g n c A b m _ h hm9).mono ?_; rintro r w1 ⟨x, rfl, hx, hC, hf⟩; obtain ⟨hx0, hx1⟩ := hx.2 (by omega); obtain ⟨k, rfl⟩ := Int.eq_ofNat_of_zero_le hx0; obtain ⟨g2, o, rfl, hg2, hc⟩ := hl.at_ (by omega); have hkl : k < l.length := (by omega); have hc1 := (World.cell?_of_block (w := w) (w' := w1) (a := ⟨g2, o + k, none⟩) (hf.block g2 hg2 (by simpa using hg g2 (by simp [blkOf])))).trans (hc k (.string l[k]) (by rw [List.getElem?_map, List.getElem?_eq_getElem hkl]; rfl)))
  go_ret
  exact ⟨_, rfl, List.getElem_mem _, hC, hf⟩
end Go.Proofs.YtihhedmehlemmaaDoor
