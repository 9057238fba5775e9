/- Numbers drawn, bounded on both sides. Written by gen/tokdraws.py. Draws of the laws on quotes: some number, some short text. The draws of bytes. -/
import Derived.Test.YtceijgaocjghcaaGreatDoorTnCurNum
import Derived.Test.YtceijgaocjghcaaGreatDoorTnCurNew
set_option linter.unusedVariables false
set_option maxRecDepth 100000
set_option linter.unusedSimpArgs false
namespace Go.Proofs.YtceijgaocjghcaaGreatDoor
open Go.RowKit

theorem wrap64_two (x : Int) : -9223372036854775808 ≤ wrap64 x ∧ wrap64 x ≤ 9223372036854775807 := by unfold wrap64; omega
set_option maxHeartbeats 2000000 in
theorem s_l1NumB (B g n c : Nat) (A : Option Addr) (b : List UInt8) (w : World) (h : Cur w B g A n c b) :
    Calls Tryz.prog 172 #[.pointer (some ⟨g, 0, none⟩)] w fun r w' => ∃ x : Int, r = .returned (.int .i64 x) ∧ (-9223372036854775808 ≤ x ∧ x ≤ 9223372036854775807) ∧ Cur w' B g A n c b ∧ Fr [g] w w' := by
  have hF0 := Fr.refl [g] w
  go_enter Tryz.func172, Tryz.ntmps172
  go_wp2_with fail
  refine (s_l1Below B g n c A b 5 _ h (by decide)).mono ?_; rintro r w1 ⟨x, rfl, hx, hCw1, hfw1⟩
  have hFw1 := hF0.trans hfw1
  by_cases e0 : x = 0
  · subst e0
    go_wp2_with fail
    refine (s_l1Below B g n c A b 70000 _ hCw1 (by decide)).mono ?_; rintro r w2 ⟨y, rfl, hy, hCw2, hfw2⟩
    have hFw2 := hFw1.trans hfw2
    go_wp2_with fail
    go_ret
    refine ⟨_, rfl, ?_, hCw2, hFw2⟩
    have hyb := hy.2 (by decide)
    first | omega | exact wrap64_two _ | exact hy
  have z0 : (x == 0) = false := by simp [e0]
  by_cases e1 : x = 1
  · subst e1
    go_wp2_with fail
    refine (s_l1Int B g n c A b (some ⟨w1.heap.size, 0, none⟩) 9 9 [0, 1, 9, 10, 255, 256, 65535, 65536, 1000000000000000] _ (hCw1.below (Below.one _ _)) (by exact i64s_lit _ _ [0, 1, 9, 10, 255, 256, 65535, 65536, 1000000000000000] _ rfl (by exact Nat.le_of_ble_eq_true rfl)) (lit_ne hCw1.lt) (by decide)).mono ?_; rintro r w2 ⟨y, rfl, hy, hCw2, hfw2⟩
    have hFw2 := (hFw1.trans (Fr.of_below (Below.one _ _))).trans hfw2
    go_wp2_with fail
    go_ret
    refine ⟨_, rfl, ?_, hCw2, hFw2⟩
    simp only [List.mem_cons, List.not_mem_nil, or_false] at hy
    first | omega | exact wrap64_two _ | exact hy
  have z1 : (x == 1) = false := by simp [e1]
  by_cases e2 : x = 2
  · subst e2
    go_wp2_with fail
    refine (s_l1Below B g n c A b 1000000 _ hCw1 (by decide)).mono ?_; rintro r w2 ⟨y, rfl, hy, hCw2, hfw2⟩
    have hFw2 := hFw1.trans hfw2
    go_wp2_with fail
    refine (s_l1Below B g n c A b 1000000 _ hCw2 (by decide)).mono ?_; rintro r w3 ⟨y2, rfl, hy2, hCw3, hfw3⟩
    have hFw3 := hFw2.trans hfw3
    go_wp2_with fail
    go_ret
    refine ⟨_, rfl, ?_, hCw3, hFw3⟩
    first | omega | exact wrap64_two _ | exact hy
  have z2 : (x == 2) = false := by simp [e2]
  by_cases e3 : x = 3
  · subst e3
    go_wp2_with fail
    refine (s_l1Below B g n c A b 50 _ hCw1 (by decide)).mono ?_; rintro r w2 ⟨y, rfl, hy, hCw2, hfw2⟩
    have hFw2 := hFw1.trans hfw2
    obtain ⟨hy0, hy1⟩ := hy.2 (by decide)
    obtain ⟨k, rfl⟩ := Int.eq_ofNat_of_zero_le hy0
    go_wp2_with fail
    go_ret
    refine ⟨_, rfl, ?_, hCw2, hFw2⟩
    first | omega | exact wrap64_two _ | exact hy
  · have z3 : (x == 3) = false := by simp [e3]
    go_wp2_with fail
    refine (s_l1Below B g n c A b 30 _ hCw1 (by decide)).mono ?_; rintro r w2 ⟨y, rfl, hy, hCw2, hfw2⟩
    have hFw2 := hFw1.trans hfw2
    go_wp2_with fail
    go_ret
    refine ⟨_, rfl, ?_, hCw2, hFw2⟩
    have hyb := hy.2 (by decide)
    first | omega | exact wrap64_two _ | exact hy
set_option maxHeartbeats 2000000 in
theorem s_l1SignedB (B g n c : Nat) (A : Option Addr) (b : List UInt8) (w : World) (h : Cur w B g A n c b) :
    Calls Tryz.prog 129 #[.pointer (some ⟨g, 0, none⟩)] w fun r w' => ∃ x : Int, r = .returned (.int .i64 x) ∧ (-9223372036854775808 ≤ x ∧ x ≤ 9223372036854775807) ∧ Cur w' B g A n c b ∧ Fr [g] w w' := by
  have hF0 := Fr.refl [g] w
  go_enter Tryz.func129, Tryz.ntmps129
  go_wp2_with fail
  refine (s_l1Once B g n c A b 2 _ h (by decide)).mono ?_; rintro r w1 ⟨o1, rfl, hCw1, hfw1⟩
  have hFw1 := hF0.trans hfw1
  cases o1
  · go_wp2_with fail
    refine (s_l1NumB B g n c A b _ hCw1).mono ?_; rintro r w2 ⟨y, rfl, hy, hCw2, hfw2⟩
    have hFw2 := hFw1.trans hfw2
    go_wp2_with fail
    go_ret
    refine ⟨_, rfl, ?_, hCw2, hFw2⟩
    first | omega | exact wrap64_two _ | exact hy
  · go_wp2_with fail
    refine (s_l1NumB B g n c A b _ hCw1).mono ?_; rintro r w2 ⟨y, rfl, hy, hCw2, hfw2⟩
    have hFw2 := hFw1.trans hfw2
    go_wp2_with fail
    go_ret
    refine ⟨_, rfl, ?_, hCw2, hFw2⟩
    first | omega | exact wrap64_two _ | exact hy
end Go.Proofs.YtceijgaocjghcaaGreatDoor

namespace Go.Proofs.YtceijgaocjghcaaGreatDoor
open Go.RowKit

theorem frLow {w w' : World} {g lo : Nat} (h : Fr [g] w w') (hg : lo ≤ g) (hs : lo ≤ w.heap.size) : Below lo w w' := h.below (fun x hx => by simp at hx; omega) hs
theorem strs_lit (w : World) (o : Nat) (l : List ByteArray) (n : Nat) (hn : l.length = n) (hm : n ≤ maxLen) : Sl (w.alloc (.cells (l.map Value.string).toArray 9)) (w.alloc (.cells (l.map Value.string).toArray 9)).heap.size 1 (some ⟨w.heap.size, 0, none⟩) n n (l.map Value.string) := by
  have h := Sl.lit w 9 (l.map Value.string).toArray 1 n (by simp [hn]) hm (w.alloc (.cells (l.map Value.string).toArray 9)).heap.size (by simp)
  simpa using h
/-- One of the texts of a list; the list lies in memory of its own, below the world's end. -/
theorem s_l1Str (B g n c : Nat) (A : Option Addr) (b : List UInt8) (A2 : Option Addr) (m c2 : Nat) (l : List ByteArray) (w : World) (h : Cur w B g A n c b) (hl : Sl w w.heap.size 1 A2 m c2 (l.map Value.string)) (hg : ∀ x ∈ blkOf A2, x ≠ g) (hm : 0 < m) :
    Calls Tryz.prog 51 #[.pointer (some ⟨g, 0, none⟩), .slice A2 m c2] w fun r w' => ∃ x : ByteArray, r = .returned (.string x) ∧ x ∈ l ∧ Cur w' B g A n c b ∧ Fr [g] w w' := by
  have hm9 : (m : Int) ≤ 9223372036854775807 := by have := hl.cap; have := hl.max; unfold maxLen at *; omega
  have hll : l.length = m := by have := hl.len; simp at this; omega
  go_enter Tryz.func51, Tryz.ntmps51
  go_wp2_with (go_at_call 50; refine (s_l1Below B g n c A b m _ h hm9).mono ?_; rintro r w1 ⟨x, rfl, hx, hC, hf⟩; obtain ⟨hx0, hx1⟩ := hx.2 (by omega); obtain ⟨k, rfl⟩ := Int.eq_ofNat_of_zero_le hx0; obtain ⟨g2, o, rfl, hg2, hc⟩ := hl.at_ (by omega); have hkl : k < l.length := (by omega); have hc1 := (World.cell?_of_block (w := w) (w' := w1) (a := ⟨g2, o + k, none⟩) (hf.block g2 hg2 (by simpa using hg g2 (by simp [blkOf])))).trans (hc k (.string l[k]) (by rw [List.getElem?_map, List.getElem?_eq_getElem hkl]; rfl)))
  go_ret
  exact ⟨_, rfl, List.getElem_mem _, hC, hf⟩
end Go.Proofs.YtceijgaocjghcaaGreatDoor

namespace Go.Proofs.YtceijgaocjghcaaGreatDoor
open Go.RowKit

theorem Fr.then_ {w w1 w2 : World} {fp : List Nat} (h : Fr fp w w1) (hb : Below w.heap.size w1 w2) : Fr fp w w2 :=
  ⟨hb.os.trans h.os, hb.tape.trans h.tape, hb.output.trans h.output, Nat.le_trans h.size hb.size, fun k hk hn => (hb.block k hk).trans (h.block k hk hn)⟩
theorem Cur.belowB {w w' : World} {B g n c D : Nat} {A : Option Addr} {b : List UInt8} (h : Cur w B g A n c b) (hb : Below D w w') (hg : g < D) : Cur w' B g A n c b := by
  obtain ⟨h1, h2, h3, i, x, h4, h5⟩ := h
  exact ⟨h1, h2, h3.below (hb.mono (by omega)), i, x, h4, h5.below hb hg⟩
theorem BS.lit0 (w : World) : BS (w.alloc (.cells #[] 5)) w.heap.size (some ⟨w.heap.size, 0, none⟩) 0 0 [] := World.ownsRow_lit w #[] 0 (Nat.le_refl _) (by decide) rfl
/-- What a draw of bytes gives: a row of its own, at most so long. -/
def BytesDrawn (w w' : World) (B g n c : Nat) (A : Option Addr) (b : List UInt8) (m : Int) (r : Ending) : Prop :=
  ∃ (A' : Option Addr) (k c' : Nat) (l : List UInt8), r = .returned (.slice A' k c') ∧ BS w' w.heap.size A' k c' l ∧ (k : Int) ≤ max m 0 ∧ Cur w' B g A n c b ∧ Fr [g] w w'
set_option maxHeartbeats 2000000 in
theorem s_l1Bytes (B g n c : Nat) (A : Option Addr) (b : List UInt8) (m : Int) (w : World) (h : Cur w B g A n c b) (hm : m ≤ 1048576) :
    Calls Tryz.prog 59 #[.pointer (some ⟨g, 0, none⟩), .int .i64 m] w fun r w' => BytesDrawn w w' B g n c A b m r := by
  have hgl := h.lt
  have h0 := h.below (Below.one w (.cells #[] 5))
  have hF0 : Fr [g] w (w.alloc (.cells #[] 5)) := Fr.of_below (Below.one _ _)
  have hB0 := BS.lit0 w
  go_enter Tryz.func59, Tryz.ntmps59
  go_wp2_with fail
  go_loopg [5, 6] m.toNat (fun f v i wr => ∃ (j : Nat) (A' : Option Addr) (c' : Nat) (l : List UInt8), j + f = m.toNat ∧ v = .slice A' j c' ∧ i = .int .i64 j ∧ BS wr w.heap.size A' j c' l ∧ Cur wr B g A n c b ∧ Fr [g] w wr)
  case atStart => exact ⟨0, _, 0, [], by omega, rfl, rfl, hB0, h0, hF0⟩
  case round =>
    obtain ⟨j, A', c', l, hjf, rfl, rfl, hB, hC, hF⟩ := hrel
    clear h0 hF0 hB0
    by_cases hlt : (j : Int) < m
    · obtain ⟨f, rfl⟩ : ∃ f, gk = f + 1 := ⟨gk - 1, by omega⟩
      go_wp2_with fail
      refine (s_l1Byte B g n c A b _ hC).mono ?_; rintro r w1 ⟨x, rfl, hx, hC1, hf1⟩
      have hB1 := hB.fr hf1 (fun k hk => by have := (hB.lt (mem_blkOf.1 hk)).1; simp; omega)
      have hz1 : w.heap.size ≤ w1.heap.size := Nat.le_trans hF.size hf1.size
      have hFa := (hF.trans hf1).trans (Fr.of_below (Below.one w1 (.cells #[.int .u8 x] 5)))
      have hCa := hC1.below (Below.one w1 (.cells #[.int .u8 x] 5))
      go_wp2_with (at_builtin; refine app_u8 rfl _ _ rfl (hB1.alloc _) rfl (lit1 w1 _ (by omega)) rfl (by omega) (by simp; omega) ?_; intro A2 c2 w2 h2 hb2)
      go_roundg f
      case measure => omega
      case rel => exact ⟨j + 1, A2, c2, _, by omega, rfl, by go_num, h2, hCa.belowB hb2 hgl, hFa.then_ hb2⟩
    · go_wp2_with fail
      go_ret
      exact ⟨A', j, c', l, rfl, hB, by omega, hC, hF⟩
end Go.Proofs.YtceijgaocjghcaaGreatDoor
