/- Draws of the laws on quotes: some number, some short text. -/
import Derived.Test.YtagplndffdgifaaDoorCurNew
set_option linter.unusedVariables false
set_option maxRecDepth 100000
set_option linter.unusedSimpArgs false
namespace Go.Proofs.YtagplndffdgifaaDoor
open Go.RowKit

theorem frLow {w w' : World} {g lo : Nat} (h : Fr [g] w w') (hg : lo ≤ g) (hs : lo ≤ w.heap.size) : Below lo w w' := h.below (fun x hx => by simp at hx; omega) hs
/-- One of the texts of a list; the list lies in memory of its own, below the world's end. -/
theorem s_l1Str (B g n c : Nat) (A : Option Addr) (b : List UInt8) (A2 : Option Addr) (m c2 : Nat) (l : List ByteArray) (w : World) (h : Cur w B g A n c b) (hl : Sl w w.heap.size 1 A2 m c2 (l.map Value.string)) (hg : ∀ x ∈ blkOf A2, x ≠ g) (hm : 0 < m) :
    Calls Tryd.prog 50 #[.pointer (some ⟨g, 0, none⟩), .slice A2 m c2] w fun r w' => ∃ x : ByteArray, r = .returned (.string x) ∧ x ∈ l ∧ Cur w' B g A n c b ∧ Fr [g] w w' := by
  have hm9 : (m : Int) ≤ 9223372036854775807 := by have := hl.cap; have := hl.max; unfold maxLen at *; omega
  have hll : l.length = m := by have := hl.len; simp at this; omega
  go_enter Tryd.func50, Tryd.ntmps50
  go_wp2_with (go_at_call 54; refine (s_l1Below B g n c A b m _ h hm9).mono ?_; rintro r w1 ⟨x, rfl, hx, hC, hf⟩; obtain ⟨hx0, hx1⟩ := hx.2 (by omega); obtain ⟨k, rfl⟩ := Int.eq_ofNat_of_zero_le hx0; obtain ⟨g2, o, rfl, hg2, hc⟩ := hl.at_ (by omega); have hkl : k < l.length := (by omega); have hc1 := (World.cell?_of_block (w := w) (w' := w1) (a := ⟨g2, o + k, none⟩) (hf.block g2 hg2 (by simpa using hg g2 (by simp [blkOf])))).trans (hc k (.string l[k]) (by rw [List.getElem?_map, List.getElem?_eq_getElem hkl]; rfl)))
  go_ret
  exact ⟨_, rfl, List.getElem_mem _, hC, hf⟩
theorem s_DrawEscapeOf (A : Option Addr) (n c : Nat) (b : List UInt8) (w : World) (h : Sl w w.heap.size 1 A n c (u8s b)) (hn : n ≤ 1048576) :
    Calls Tryd.prog 7 #[.slice A n c] w fun r w' => ∃ x : Int, r = .returned (.int .i64 x) ∧ (-1 ≤ x ∧ x ≤ 1114111) ∧ Below w.heap.size w w' := by
  go_enter Tryd.func7, Tryd.ntmps7
  go_wp2_with fail
  refine (s_l1New A n c b _ h hn).mono ?_; rintro r w1 ⟨rfl, hC, hb1⟩
  go_wp2_with fail
  refine (s_l1Int _ _ n c A b (some ⟨w1.heap.size, 0, none⟩) 17 17 [34, 92, 8, 9, 10, 11, 12, 13, 31, 32, 47, 127, 233, 55296, -1, 128512, 0] _ (hC.below (Below.one _ _)) (by exact i64s_lit _ _ [34, 92, 8, 9, 10, 11, 12, 13, 31, 32, 47, 127, 233, 55296, -1, 128512, 0] _ rfl (by exact Nat.le_of_ble_eq_true rfl)) (lit_ne hC.lt) (by decide)).mono ?_; rintro r w2 ⟨x, rfl, hx, hC2, hf2⟩
  go_wp2_with fail
  go_ret
  have hbd : ∀ x ∈ ([34, 92, 8, 9, 10, 11, 12, 13, 31, 32, 47, 127, 233, 55296, -1, 128512, 0] : List Int), -1 ≤ x ∧ x ≤ 1114111 := by decide
  exact ⟨x, rfl, hbd x hx, (hb1.up (Below.one _ _)).trans (frLow hf2 (Nat.le_refl _) (hb1.up (Below.one _ _)).size)⟩
theorem s_DrawCodeName (A : Option Addr) (n c : Nat) (b : List UInt8) (w : World) (h : Sl w w.heap.size 1 A n c (u8s b)) (hn : n ≤ 1048576) :
    Calls Tryd.prog 12 #[.slice A n c] w fun r w' => ∃ x : Int, r = .returned (.int .i64 x) ∧ (-1 ≤ x ∧ x ≤ 4) ∧ Below w.heap.size w w' := by
  go_enter Tryd.func12, Tryd.ntmps12
  go_wp2_with fail
  refine (s_l1New A n c b _ h hn).mono ?_; rintro r w1 ⟨rfl, hC, hb1⟩
  go_wp2_with fail
  refine (s_l1Below _ _ n c A b 5 _ hC (by decide)).mono ?_; rintro r w2 ⟨x, rfl, hx, hC2, hf2⟩
  obtain ⟨hx0, hx1⟩ := hx.2 (by decide)
  go_wp2_with fail
  go_ret
  exact ⟨x - 1, ret_int (by go_num), by omega, hb1.trans (frLow hf2 (Nat.le_refl _) hb1.size)⟩
theorem strs_lit (w : World) (o : Nat) (l : List ByteArray) (n : Nat) (hn : l.length = n) (hm : n ≤ maxLen) : Sl (w.alloc (.cells (l.map Value.string).toArray 9)) (w.alloc (.cells (l.map Value.string).toArray 9)).heap.size 1 (some ⟨w.heap.size, 0, none⟩) n n (l.map Value.string) := by
  have h := Sl.lit w 9 (l.map Value.string).toArray 1 n (by simp [hn]) hm (w.alloc (.cells (l.map Value.string).toArray 9)).heap.size (by simp)
  simpa using h
theorem s_DrawReadFour (A : Option Addr) (n c : Nat) (b : List UInt8) (w : World) (h : Sl w w.heap.size 1 A n c (u8s b)) (hn : n ≤ 1048576) :
    Calls Tryd.prog 9 #[.slice A n c] w fun r w' => ∃ (s : ByteArray) (x : Int), r = .returned (.tuple #[.string s, .int .i64 x]) ∧ s.size ≤ 1048576 ∧ (-1 ≤ x ∧ x ≤ 9) ∧ Below w.heap.size w w' := by
  go_enter Tryd.func9, Tryd.ntmps9
  go_wp2_with fail
  refine (s_l1New A n c b _ h hn).mono ?_; rintro r w1 ⟨rfl, hC, hb1⟩
  go_wp2_with fail
  refine (s_l1Str _ _ n c A b (some ⟨w1.heap.size, 0, none⟩) 7 7 [⟨#[48, 48, 101, 57]⟩, ⟨#[70, 70, 70, 70]⟩, ⟨#[97, 98, 67, 68]⟩, ⟨#[49, 50]⟩, ⟨#[49, 50, 103, 52]⟩, ⟨#[120, 49, 50, 51, 52, 53]⟩, ⟨#[]⟩] _ (hC.below (Below.one _ _)) (by exact strs_lit _ 0 [⟨#[48, 48, 101, 57]⟩, ⟨#[70, 70, 70, 70]⟩, ⟨#[97, 98, 67, 68]⟩, ⟨#[49, 50]⟩, ⟨#[49, 50, 103, 52]⟩, ⟨#[120, 49, 50, 51, 52, 53]⟩, ⟨#[]⟩] _ rfl (by exact Nat.le_of_ble_eq_true rfl)) (lit_ne hC.lt) (by decide)).mono ?_; rintro r w2 ⟨s, rfl, hs, hC2, hf2⟩
  have k2 := (hb1.up (Below.one _ (.cells ([⟨#[48, 48, 101, 57]⟩, ⟨#[70, 70, 70, 70]⟩, ⟨#[97, 98, 67, 68]⟩, ⟨#[49, 50]⟩, ⟨#[49, 50, 103, 52]⟩, ⟨#[120, 49, 50, 51, 52, 53]⟩, ⟨#[]⟩].map Value.string).toArray 9))).trans (frLow hf2 (Nat.le_refl _) (hb1.up (Below.one _ _)).size)
  go_wp2_with fail
  refine (s_l1Int _ _ n c A b (some ⟨w2.heap.size, 0, none⟩) 7 7 [0, 0, 0, 1, 2, -1, 9] _ (hC2.below (Below.one _ _)) (by exact i64s_lit _ _ [0, 0, 0, 1, 2, -1, 9] _ rfl (by exact Nat.le_of_ble_eq_true rfl)) (lit_ne hC2.lt) (by decide)).mono ?_; rintro r w3 ⟨x, rfl, hx, hC3, hf3⟩
  go_wp2_with fail
  go_ret2
  have hbd : ∀ x ∈ ([0, 0, 0, 1, 2, -1, 9] : List Int), -1 ≤ x ∧ x ≤ 9 := by decide
  have hsd : s.size ≤ 1048576 := by
    simp only [List.mem_cons, List.mem_nil_iff, or_false] at hs
    rcases hs with rfl | rfl | rfl | rfl | rfl | rfl | rfl <;> decide
  exact ⟨s, x, rfl, hsd, hbd x hx, (k2.up (Below.one _ _)).trans (frLow hf3 (Nat.le_refl _) (k2.up (Below.one _ _)).size)⟩
end Go.Proofs.YtagplndffdgifaaDoor
