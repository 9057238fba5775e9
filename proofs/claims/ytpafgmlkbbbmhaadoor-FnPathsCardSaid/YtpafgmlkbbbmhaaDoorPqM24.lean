/- Draws of the laws on quotes: some number, some short text. The draws of bytes. Widths and heads: impl and spec. -/
import Derived.Test.YtpafgmlkbbbmhaaDoorPqM16
import Derived.Test.YtpafgmlkbbbmhaaDoorPqM18
import Derived.Test.YtpafgmlkbbbmhaaDoorPqM0
set_option linter.unusedVariables false
set_option maxRecDepth 100000
set_option linter.unusedSimpArgs false
namespace Go.Proofs.YtpafgmlkbbbmhaaDoor
open Go.RowKit

theorem frLow {w w' : World} {g lo : Nat} (h : Fr [g] w w') (hg : lo ≤ g) (hs : lo ≤ w.heap.size) : Below lo w w' := h.below (fun x hx => by simp at hx; omega) hs
theorem strs_lit (w : World) (o : Nat) (l : List ByteArray) (n : Nat) (hn : l.length = n) (hm : n ≤ maxLen) : Sl (w.alloc (.cells (l.map Value.string).toArray 9)) (w.alloc (.cells (l.map Value.string).toArray 9)).heap.size 1 (some ⟨w.heap.size, 0, none⟩) n n (l.map Value.string) := by
  have h := Sl.lit w 9 (l.map Value.string).toArray 1 n (by simp [hn]) hm (w.alloc (.cells (l.map Value.string).toArray 9)).heap.size (by simp)
  simpa using h
/-- One of the texts of a list; the list lies in memory of its own, below the world's end. -/
theorem s_l1Str (B g n c : Nat) (A : Option Addr) (b : List UInt8) (A2 : Option Addr) (m c2 : Nat) (l : List ByteArray) (w : World) (h : Cur w B g A n c b) (hl : Sl w w.heap.size 1 A2 m c2 (l.map Value.string)) (hg : ∀ x ∈ blkOf A2, x ≠ g) (hm : 0 < m) :
    Calls Tryd.prog 41 #[.pointer (some ⟨g, 0, none⟩), .slice A2 m c2] w fun r w' => ∃ x : ByteArray, r = .returned (.string x) ∧ x ∈ l ∧ Cur w' B g A n c b ∧ Fr [g] w w' := by
  have hm9 : (m : Int) ≤ 9223372036854775807 := by have := hl.cap; have := hl.max; unfold maxLen at *; omega
  have hll : l.length = m := by have := hl.len; simp at this; omega
  go_enter Tryd.func41, Tryd.ntmps41
  go_wp2_with (go_at_call 38; refine (s_l1Below B g n c A b m _ h hm9).mono ?_; rintro r w1 ⟨x, rfl, hx, hC, hf⟩; obtain ⟨hx0, hx1⟩ := hx.2 (by omega); obtain ⟨k, rfl⟩ := Int.eq_ofNat_of_zero_le hx0; obtain ⟨g2, o, rfl, hg2, hc⟩ := hl.at_ (by omega); have hkl : k < l.length := (by omega); have hc1 := (World.cell?_of_block (w := w) (w' := w1) (a := ⟨g2, o + k, none⟩) (hf.block g2 hg2 (by simpa using hg g2 (by simp [blkOf])))).trans (hc k (.string l[k]) (by rw [List.getElem?_map, List.getElem?_eq_getElem hkl]; rfl)))
  go_ret
  exact ⟨_, rfl, List.getElem_mem _, hC, hf⟩
end Go.Proofs.YtpafgmlkbbbmhaaDoor

namespace Go.Proofs.YtpafgmlkbbbmhaaDoor
open Go.RowKit

theorem Fr.then_ {w w1 w2 : World} {fp : List Nat} (h : Fr fp w w1) (hb : Below w.heap.size w1 w2) : Fr fp w w2 :=
  ⟨hb.os.trans h.os, hb.tape.trans h.tape, hb.output.trans h.output, Nat.le_trans h.size hb.size, fun k hk hn => (hb.block k hk).trans (h.block k hk hn)⟩
theorem Cur.belowB {w w' : World} {B g n c D : Nat} {A : Option Addr} {b : List UInt8} (h : Cur w B g A n c b) (hb : Below D w w') (hg : g < D) : Cur w' B g A n c b := by
  obtain ⟨h1, h2, h3, i, x, h4, h5⟩ := h
  exact ⟨h1, h2, h3.below (hb.mono (by omega)), i, x, h4, h5.below hb hg⟩
theorem BS.lit0 (w : World) : BS (w.alloc (.cells #[] 5)) w.heap.size (some ⟨w.heap.size, 0, none⟩) 0 0 [] := World.ownsRow_lit w #[] 0 (Nat.le_refl _) (by decide) rfl
/-- What a draw of bytes gives: a row of its own, at most so long. -/
def BytesDrawn (w w' : World) (B g n c : Nat) (A : Option Addr) (b : List UInt8) (m : Int) (r : Ending) : Prop :=
  ∃ (A' : Option Addr) (k c' : Nat) (l : List UInt8), r = .returned (.slice A' k c') ∧ BS w' w.heap.size A' k c' l ∧ (k : Int) ≤ max m 0 ∧ Cur w' B g A n c b ∧ Fr [g] w w'
set_option maxHeartbeats 2000000 in
theorem s_l1Bytes (B g n c : Nat) (A : Option Addr) (b : List UInt8) (m : Int) (w : World) (h : Cur w B g A n c b) (hm : m ≤ 1048576) :
    Calls Tryd.prog 58 #[.pointer (some ⟨g, 0, none⟩), .int .i64 m] w fun r w' => BytesDrawn w w' B g n c A b m r := by
  have hgl := h.lt
  have h0 := h.below (Below.one w (.cells #[] 5))
  have hF0 : Fr [g] w (w.alloc (.cells #[] 5)) := Fr.of_below (Below.one _ _)
  have hB0 := BS.lit0 w
  go_enter Tryd.func58, Tryd.ntmps58
  go_wp2_with fail
  go_loopg [5, 6] m.toNat (fun f v i wr => ∃ (j : Nat) (A' : Option Addr) (c' : Nat) (l : List UInt8), j + f = m.toNat ∧ v = .slice A' j c' ∧ i = .int .i64 j ∧ BS wr w.heap.size A' j c' l ∧ Cur wr B g A n c b ∧ Fr [g] w wr)
  case atStart => exact ⟨0, _, 0, [], by omega, rfl, rfl, hB0, h0, hF0⟩
  case round =>
    obtain ⟨j, A', c', l, hjf, rfl, rfl, hB, hC, hF⟩ := hrel
    clear h0 hF0 hB0
    by_cases hlt : (j : Int) < m
    · obtain ⟨f, rfl⟩ : ∃ f, gk = f + 1 := ⟨gk - 1, by omega⟩
      go_wp2_with fail
      refine (s_l1Byte B g n c A b _ hC).mono ?_; rintro r w1 ⟨x, rfl, hx, hC1, hf1⟩
      have hB1 := hB.fr hf1 (fun k hk => by have := (hB.lt (mem_blkOf.1 hk)).1; simp; omega)
      have hz1 : w.heap.size ≤ w1.heap.size := Nat.le_trans hF.size hf1.size
      have hFa := (hF.trans hf1).trans (Fr.of_below (Below.one w1 (.cells #[.int .u8 x] 5)))
      have hCa := hC1.below (Below.one w1 (.cells #[.int .u8 x] 5))
      go_wp2_with (at_builtin; refine app_u8 rfl _ _ rfl (hB1.alloc _) rfl (lit1 w1 _ (by omega)) rfl (by omega) (by simp; omega) ?_; intro A2 c2 w2 h2 hb2)
      go_roundg f
      case measure => omega
      case rel => exact ⟨j + 1, A2, c2, _, by omega, rfl, by go_num, h2, hCa.belowB hb2 hgl, hFa.then_ hb2⟩
    · go_wp2_with fail
      go_ret
      exact ⟨A', j, c', l, rfl, hB, by omega, hC, hF⟩
end Go.Proofs.YtpafgmlkbbbmhaaDoor

namespace Go.Proofs.YtpafgmlkbbbmhaaDoor
open Go.RowKit

def isW (w : Int) : Bool := decide (w = 1 ∨ w = 2 ∨ w = 4 ∨ w = 8)
def fitsB (n w : Int) : Bool := decide (0 ≤ n ∧ (w = 8 ∨ (w = 4 ∧ n < 4294967296) ∨ (w = 2 ∧ n < 65536) ∨ (w = 1 ∧ n < 256)))
def widthFor (n : Int) : Int := if n < 0 then 0 else if n < 256 then 1 else if n < 65536 then 2 else if n < 4294967296 then 4 else 8

def headOk (mj n wd : Int) : Bool :=
  decide (0 ≤ mj ∧ mj ≤ 7 ∧ 0 ≤ n ∧ n ≤ 1000000000000000 ∧ ((wd = 0 ∧ n ≤ 23) ∨ (wd = 1 ∧ n < 256) ∨ (wd = 2 ∧ n < 65536) ∨ (wd = 4 ∧ n < 4294967296) ∨ wd = 8 ∨ (wd = -1 ∧ n = 0 ∧ 2 ≤ mj ∧ mj ≠ 6)))
def headV (mj n wd : Int) : Value := .agg #[.int .i64 mj, .int .i64 n, .int .i64 wd]
theorem headOk_no {mj n wd : Int} (h : ¬ (0 ≤ mj ∧ mj ≤ 7 ∧ 0 ≤ n ∧ n ≤ 1000000000000000 ∧ ((wd = 0 ∧ n ≤ 23) ∨ (wd = 1 ∧ n < 256) ∨ (wd = 2 ∧ n < 65536) ∨ (wd = 4 ∧ n < 4294967296) ∨ wd = 8 ∨ (wd = -1 ∧ n = 0 ∧ 2 ≤ mj ∧ mj ≠ 6)))) : false = headOk mj n wd := (decide_eq_false h).symm
theorem headOk_yes {mj n wd : Int} (h : 0 ≤ mj ∧ mj ≤ 7 ∧ 0 ≤ n ∧ n ≤ 1000000000000000 ∧ ((wd = 0 ∧ n ≤ 23) ∨ (wd = 1 ∧ n < 256) ∨ (wd = 2 ∧ n < 65536) ∨ (wd = 4 ∧ n < 4294967296) ∨ wd = 8 ∨ (wd = -1 ∧ n = 0 ∧ 2 ≤ mj ∧ mj ≠ 6))) : true = headOk mj n wd := (decide_eq_true h).symm
end Go.Proofs.YtpafgmlkbbbmhaaDoor
