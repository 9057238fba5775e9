/- Draws of the laws on quotes: some number, some short text. The draws of bytes. The draws of heads. DrawPutHead, DrawHeadFor; same. l1Bent: bytes, mostly with one turned, cut, or with more behind. -/
import Derived.Test.YtmnlkedacnemcaaGreatDoorTwM19
import Derived.Test.YtmnlkedacnemcaaGreatDoorTwM21
import Derived.Test.YtmnlkedacnemcaaGreatDoorTwM13
import Derived.Deep.RegionLaw
set_option linter.unusedVariables false
set_option maxRecDepth 100000
set_option linter.unusedSimpArgs false
namespace Go.Proofs.YtmnlkedacnemcaaGreatDoor
open Go.RowKit

theorem frLow {w w' : World} {g lo : Nat} (h : Fr [g] w w') (hg : lo ≤ g) (hs : lo ≤ w.heap.size) : Below lo w w' := h.below (fun x hx => by simp at hx; omega) hs
theorem strs_lit (w : World) (o : Nat) (l : List ByteArray) (n : Nat) (hn : l.length = n) (hm : n ≤ maxLen) : Sl (w.alloc (.cells (l.map Value.string).toArray 9)) (w.alloc (.cells (l.map Value.string).toArray 9)).heap.size 1 (some ⟨w.heap.size, 0, none⟩) n n (l.map Value.string) := by
  have h := Sl.lit w 9 (l.map Value.string).toArray 1 n (by simp [hn]) hm (w.alloc (.cells (l.map Value.string).toArray 9)).heap.size (by simp)
  simpa using h
/-- One of the texts of a list; the list lies in memory of its own, below the world's end. -/
theorem s_l1Str (B g n c : Nat) (A : Option Addr) (b : List UInt8) (A2 : Option Addr) (m c2 : Nat) (l : List ByteArray) (w : World) (h : Cur w B g A n c b) (hl : Sl w w.heap.size 1 A2 m c2 (l.map Value.string)) (hg : ∀ x ∈ blkOf A2, x ≠ g) (hm : 0 < m) :
    Calls Tryz.prog 49 #[.pointer (some ⟨g, 0, none⟩), .slice A2 m c2] w fun r w' => ∃ x : ByteArray, r = .returned (.string x) ∧ x ∈ l ∧ Cur w' B g A n c b ∧ Fr [g] w w' := by
  have hm9 : (m : Int) ≤ 9223372036854775807 := by have := hl.cap; have := hl.max; unfold maxLen at *; omega
  have hll : l.length = m := by have := hl.len; simp at this; omega
  go_enter Tryz.func49, Tryz.ntmps49
  go_wp2_with (go_at_call 23; refine (s_l1Below B g n c A b m _ h hm9).mono ?_; rintro r w1 ⟨x, rfl, hx, hC, hf⟩; obtain ⟨hx0, hx1⟩ := hx.2 (by omega); obtain ⟨k, rfl⟩ := Int.eq_ofNat_of_zero_le hx0; obtain ⟨g2, o, rfl, hg2, hc⟩ := hl.at_ (by omega); have hkl : k < l.length := (by omega); have hc1 := (World.cell?_of_block (w := w) (w' := w1) (a := ⟨g2, o + k, none⟩) (hf.block g2 hg2 (by simpa using hg g2 (by simp [blkOf])))).trans (hc k (.string l[k]) (by rw [List.getElem?_map, List.getElem?_eq_getElem hkl]; rfl)))
  go_ret
  exact ⟨_, rfl, List.getElem_mem _, hC, hf⟩
end Go.Proofs.YtmnlkedacnemcaaGreatDoor

namespace Go.Proofs.YtmnlkedacnemcaaGreatDoor
open Go.RowKit

theorem Fr.then_ {w w1 w2 : World} {fp : List Nat} (h : Fr fp w w1) (hb : Below w.heap.size w1 w2) : Fr fp w w2 :=
  ⟨hb.os.trans h.os, hb.tape.trans h.tape, hb.output.trans h.output, Nat.le_trans h.size hb.size, fun k hk hn => (hb.block k hk).trans (h.block k hk hn)⟩
theorem Cur.belowB {w w' : World} {B g n c D : Nat} {A : Option Addr} {b : List UInt8} (h : Cur w B g A n c b) (hb : Below D w w') (hg : g < D) : Cur w' B g A n c b := by
  obtain ⟨h1, h2, h3, i, x, h4, h5⟩ := h
  exact ⟨h1, h2, h3.below (hb.mono (by omega)), i, x, h4, h5.below hb hg⟩
theorem BS.lit0 (w : World) : BS (w.alloc (.cells #[] 5)) w.heap.size (some ⟨w.heap.size, 0, none⟩) 0 0 [] := World.ownsRow_lit w #[] 0 (Nat.le_refl _) (by decide) rfl
/-- What a draw of bytes gives: a row of its own, at most so long. -/
def BytesDrawn (w w' : World) (B g n c : Nat) (A : Option Addr) (b : List UInt8) (m : Int) (r : Ending) : Prop :=
  ∃ (A' : Option Addr) (k c' : Nat) (l : List UInt8), r = .returned (.slice A' k c') ∧ BS w' w.heap.size A' k c' l ∧ (k : Int) ≤ max m 0 ∧ Cur w' B g A n c b ∧ Fr [g] w w'
set_option maxHeartbeats 2000000 in
theorem s_l1Bytes (B g n c : Nat) (A : Option Addr) (b : List UInt8) (m : Int) (w : World) (h : Cur w B g A n c b) (hm : m ≤ 1048576) :
    Calls Tryz.prog 22 #[.pointer (some ⟨g, 0, none⟩), .int .i64 m] w fun r w' => BytesDrawn w w' B g n c A b m r := by
  have hgl := h.lt
  have h0 := h.below (Below.one w (.cells #[] 5))
  have hF0 : Fr [g] w (w.alloc (.cells #[] 5)) := Fr.of_below (Below.one _ _)
  have hB0 := BS.lit0 w
  go_enter Tryz.func22, Tryz.ntmps22
  go_wp2_with fail
  go_loopg [5, 6] m.toNat (fun f v i wr => ∃ (j : Nat) (A' : Option Addr) (c' : Nat) (l : List UInt8), j + f = m.toNat ∧ v = .slice A' j c' ∧ i = .int .i64 j ∧ BS wr w.heap.size A' j c' l ∧ Cur wr B g A n c b ∧ Fr [g] w wr)
  case atStart => exact ⟨0, _, 0, [], by omega, rfl, rfl, hB0, h0, hF0⟩
  case round =>
    obtain ⟨j, A', c', l, hjf, rfl, rfl, hB, hC, hF⟩ := hrel
    clear h0 hF0 hB0
    by_cases hlt : (j : Int) < m
    · obtain ⟨f, rfl⟩ : ∃ f, gk = f + 1 := ⟨gk - 1, by omega⟩
      go_wp2_with fail
      refine (s_l1Byte B g n c A b _ hC).mono ?_; rintro r w1 ⟨x, rfl, hx, hC1, hf1⟩
      have hB1 := hB.fr hf1 (fun k hk => by have := (hB.lt (mem_blkOf.1 hk)).1; simp; omega)
      have hz1 : w.heap.size ≤ w1.heap.size := Nat.le_trans hF.size hf1.size
      have hFa := (hF.trans hf1).trans (Fr.of_below (Below.one w1 (.cells #[.int .u8 x] 5)))
      have hCa := hC1.below (Below.one w1 (.cells #[.int .u8 x] 5))
      go_wp2_with (at_builtin; refine app_u8 rfl _ _ rfl (hB1.alloc _) rfl (lit1 w1 _ (by omega)) rfl (by omega) (by simp; omega) ?_; intro A2 c2 w2 h2 hb2)
      go_roundg f
      case measure => omega
      case rel => exact ⟨j + 1, A2, c2, _, by omega, rfl, by go_num, h2, hCa.belowB hb2 hgl, hFa.then_ hb2⟩
    · go_wp2_with fail
      go_ret
      exact ⟨A', j, c', l, rfl, hB, by omega, hC, hF⟩
end Go.Proofs.YtmnlkedacnemcaaGreatDoor

namespace Go.Proofs.YtmnlkedacnemcaaGreatDoor
open Go.RowKit

theorem Blk.at3 {w : World} {g : Nat} {T : TypeId} {a b c : Value} (h : Blk w g T #[a, b, c]) : (w.cell? ⟨g, 0, none⟩ = some a ∧ w.frozen? ⟨g, 0, none⟩ = false) ∧ (w.cell? ⟨g, 1, none⟩ = some b ∧ w.frozen? ⟨g, 1, none⟩ = false) ∧ w.cell? ⟨g, 2, none⟩ = some c ∧ w.frozen? ⟨g, 2, none⟩ = false := ⟨⟨h.cell 0, h.frozen 0⟩, ⟨h.cell 1, h.frozen 1⟩, h.cell 2, h.frozen 2⟩
/-- What a draw of a head gives. -/
def HeadDrawn (w w' : World) (B g n c : Nat) (A : Option Addr) (b : List UInt8) (r : Ending) : Prop :=
  ∃ x y z : Int, r = .returned (.agg #[.int .i64 x, .int .i64 y, .int .i64 z]) ∧ y ≤ 9223372036854775807 ∧ Cur w' B g A n c b ∧ Fr [g] w w'
theorem headForV_sh (mj n : Int) : ∃ x y z : Int, headForV mj n = .agg #[.int .i64 x, .int .i64 y, .int .i64 z] ∧ (y = n ∨ y = 0) := by
  unfold headForV headV
  split
  · exact ⟨_, _, _, rfl, .inl rfl⟩
  · exact ⟨_, _, _, rfl, .inr rfl⟩
end Go.Proofs.YtmnlkedacnemcaaGreatDoor

namespace Go.Proofs.YtmnlkedacnemcaaGreatDoor
open Go.RowKit

theorem results_tmp_blk {P : Program} {fn : Func} {p u : Tmp} {ty : TypeId} {tmps : Array Value} {w : World} {g : Nat} {t : TypeId} {cs : Array Value} (h : fn.results = #[.tmp u, .cell p ty])
    (ha : ∀ w, (isAgg ty).run P w = .ok true w) (hs : ∀ w, (sizeOf ty).run P w = .ok cs.size w) (hp : tmps.getD p undef = .pointer (some ⟨g, 0, none⟩)) (hb : Blk w g t cs) :
    (results fn tmps).run P w = .ok (.tuple #[tmps.getD u undef, .agg cs]) w := by
  have hl := run_loadVar_blk ha hs hb
  have hp2 : tmps[p]?.getD undef = .pointer (some ⟨g, 0, none⟩) := by simpa using hp
  simp [results, h, hp2, asAddr, Sem.run_bind, hl, Result.andThen]
end Go.Proofs.YtmnlkedacnemcaaGreatDoor

namespace Go.Proofs.YtmnlkedacnemcaaGreatDoor
open Go.RowKit

/-- What a bending gives: bytes that can be read, at most one more. -/
def BentDrawn (w w' : World) (B g n c : Nat) (A : Option Addr) (b : List UInt8) (m : Nat) (r : Ending) : Prop :=
  ∃ (A' : Option Addr) (k c' : Nat) (l : List UInt8), r = .returned (.slice A' k c') ∧ Sl w' w'.heap.size 1 A' k c' (u8s l) ∧ (∀ x ∈ blkOf A', g < x) ∧ k ≤ m + 1 ∧ Cur w' B g A n c b ∧ Fr [g] w w'
theorem u8_of {x : Int} (h : 0 ≤ x ∧ x < 256) : ∃ y : UInt8, (.int .u8 x : Value) = .int .u8 (y.toNat : Int) := ⟨UInt8.ofNat x.toNat, by rw [UInt8.toNat_ofNat_of_lt' (by show x.toNat < 256; omega)]; congr 1; omega⟩
theorem u8s_set (b : List UInt8) (k : Nat) (y : UInt8) : (u8s b).set k (.int .u8 (y.toNat : Int)) = u8s (b.set k y) := by simp [u8s, List.map_set]
/-- A byte of an own row written. -/
theorem BS.store {w : World} {lo n c g k : Nat} {b : List UInt8} (h : BS w lo (some ⟨g, 0, none⟩) n c b) (hk : k < n) {x : Int} (hx : 0 ≤ x ∧ x < 256) :
    (∃ u, w.cell? ⟨g, k, none⟩ = some u) ∧ w.frozen? ⟨g, k, none⟩ = false ∧ ∃ b', BS (w.setCell ⟨g, k, none⟩ (.int .u8 x)) lo (some ⟨g, 0, none⟩) n c b' := by
  have h' : w.ownsRow lo 5 1 (.slice (some ⟨g, 0, none⟩) n c) n (u8s b) := h
  refine ⟨?_, h'.frozenAt k, ?_⟩
  · rw [h'.cellAt k (by omega)]
    exact ⟨_, List.getElem?_eq_getElem (by rw [h'.1]; omega)⟩
  · obtain ⟨y, hy⟩ := u8_of hx
    have hst := (h'.stored k (.int .u8 x)).1
    rw [hy, u8s_set] at hst
    rw [hy]
    exact ⟨_, hst⟩
theorem BS.at0 {w : World} {lo n c : Nat} {A : Option Addr} {b : List UInt8} (h : BS w lo A n c b) (hn : 0 < n) : ∃ g, A = some ⟨g, 0, none⟩ ∧ lo ≤ g := by
  have h' : w.ownsRow lo 5 1 (.slice A n c) n (u8s b) := h
  rcases h'.2 with ⟨e, _⟩ | ⟨g, cap, cur, e, hb, _⟩
  · simp only [Value.slice.injEq] at e; omega
  · simp only [Value.slice.injEq] at e; exact ⟨g, e.1, hb⟩
theorem Sl.head_ {w : World} {B n c k : Nat} {A : Option Addr} {b : List UInt8} (h : Sl w B 1 A n c (u8s b)) (hk : k ≤ n) : Sl w B 1 A k c (u8s (b.take k)) := by
  have hl := h.blen
  have hc := h.cap
  have hm := h.max
  refine ⟨by rw [u8s_len, List.length_take]; omega, by omega, hm, fun h0 => ?_⟩
  obtain ⟨g, o, e, hg, hk2⟩ := h.at_ (by omega)
  refine ⟨g, o, e, hg, fun j u hu => hk2 j u ?_⟩
  have hj : j < k := by have := (List.getElem?_eq_some_iff.1 hu).1; rw [u8s_len, List.length_take] at this; omega
  rw [← hu, ← u8s_take, List.getElem?_take, if_pos hj]
theorem xor_u8 (a b : Int) : 0 ≤ bits .xor .u8 a b ∧ bits .xor .u8 a b < 256 := by
  have h : ∃ x, bits .xor .u8 a b = IntKind.u8.wrap x := ⟨_, rfl⟩
  obtain ⟨x, hx⟩ := h
  rw [hx, IntKind.wrap_u8]
  omega
set_option maxHeartbeats 2000000 in
theorem s_l1Bent (B g n c : Nat) (A : Option Addr) (b : List UInt8) (A2 : Option Addr) (m c2 : Nat) (b2 : List UInt8) (w : World) (h : Cur w B g A n c b) (h2 : Sl w w.heap.size 1 A2 m c2 (u8s b2)) (hm : m ≤ 1048576) :
    Calls Tryz.prog 24 #[.pointer (some ⟨g, 0, none⟩), .slice A2 m c2] w fun r w' => BentDrawn w w' B g n c A b m r := by
  have hgl := h.lt
  have h0 := h.below (Below.one w (.cells #[] 5))
  have hF0 : Fr [g] w (w.alloc (.cells #[] 5)) := Fr.of_below (Below.one _ _)
  have hB0 := BS.lit0 w
  go_enter Tryz.func24, Tryz.ntmps24
  go_wp2_with (at_builtin; refine app_u8 rfl _ _ rfl hB0 rfl (h2.alloc (Nat.le_refl _) _) rfl (by omega) (by simp) ?_; intro A3 c3 w1 h3 hb3)
  have hC1 := h0.belowB hb3 hgl
  have hF1 := hF0.then_ hb3
  simp only [Nat.zero_add, List.nil_append] at h3 ⊢
  refine (s_l1Below B g n c A b 7 _ hC1 (by decide)).mono ?_; rintro r w2 ⟨q, rfl, hq, hC2, hf2⟩
  have h4 := h3.fr hf2 (fun k hk => by have := (h3.lt (mem_blkOf.1 hk)).1; simp; omega)
  have hF2 := hF1.trans hf2
  clear h0 hF0 hB0 h3 hb3 hC1 hF1 hf2 hq
  by_cases q0 : q = 0
  · subst q0
    by_cases hm0 : m = 0
    · subst hm0
      go_wp2_with fail
      go_ret
      exact ⟨_, _, _, _, rfl, h4.sl, fun x hx => by have := (h4.lt (mem_blkOf.1 hx)).1; omega, by omega, hC2, hF2⟩
    · have hmp : (0 : Int) < (m : Int) := by omega
      go_wp2_with fail
      refine (s_l1Below B g n c A b m _ hC2 (by omega)).mono ?_; rintro r w3 ⟨x, rfl, hx, hC3, hf3⟩
      obtain ⟨hx0, hx1⟩ := hx.2 hmp
      obtain ⟨k, rfl⟩ := Int.eq_ofNat_of_zero_le hx0
      have h5 := h4.fr hf3 (fun k hk => by have := (h4.lt (mem_blkOf.1 hk)).1; simp; omega)
      have hF3 := hF2.trans hf3
      go_wp2_with fail
      refine (s_l1Below B g n c A b 256 _ hC3 (by decide)).mono ?_; rintro r w4 ⟨y, rfl, hy, hC4, hf4⟩
      have hyb := hy.2 (by decide)
      have h6 := h5.fr hf4 (fun k hk => by have := (h5.lt (mem_blkOf.1 hk)).1; simp; omega)
      have hF4 := hF3.trans hf4
      obtain ⟨g3, rfl, hg3⟩ := BS.at0 h6 (by omega)
      obtain ⟨⟨u, hu⟩, hfz, b', hb'⟩ := BS.store h6 (k := k) (by omega) hyb
      have hmc := h6.sl.cap
      go_wp2_with fail
      go_ret
      exact ⟨_, _, _, _, rfl, hb'.sl, fun x hx => by have := (hb'.lt (mem_blkOf.1 hx)).1; omega, by omega, hC4.set_ (by omega) _, hF4.new_ (by exact hg3) _⟩
  have z0 : (q == 0) = false := by simp [q0]
  by_cases q1 : q = 1
  · subst q1
    go_wp2_with fail
    refine (s_l1Below B g n c A b (m + 1) _ hC2 (by omega)).mono ?_; rintro r w3 ⟨x, rfl, hx, hC3, hf3⟩
    obtain ⟨hx0, hx1⟩ := hx.2 (by omega)
    obtain ⟨k, rfl⟩ := Int.eq_ofNat_of_zero_le hx0
    have h5 := h4.fr hf3 (fun k hk => by have := (h4.lt (mem_blkOf.1 hk)).1; simp; omega)
    have hF3 := hF2.trans hf3
    have hmc := h5.sl.cap
    have hkm : (k : Int) ≤ (c3 : Int) := by omega
    go_wp2_with fail
    go_ret
    exact ⟨_, _, _, _, rfl, h5.sl.head_ (k := k) (by omega), fun x hx => by have := (h5.lt (mem_blkOf.1 hx)).1; omega, by omega, hC3, hF3⟩
  have z1 : (q == 1) = false := by simp [q1]
  by_cases q2 : q = 2
  · subst q2
    go_wp2_with fail
    refine (s_l1Int B g n c A b (some ⟨w2.heap.size, 0, none⟩) 4 4 [0, 32, 93, 255] _ (hC2.below (Below.one _ _)) (by exact i64s_lit _ _ [0, 32, 93, 255] _ rfl (by exact Nat.le_of_ble_eq_true rfl)) (lit_ne hC2.lt) (by decide)).mono ?_; rintro r w3 ⟨y, rfl, hy, hC3, hf3⟩
    have hyb : 0 ≤ y ∧ y < 256 := by simp only [List.mem_cons, List.not_mem_nil, or_false] at hy; omega
    clear hy
    have hf23 := (Fr.of_below (fp := [g]) (Below.one w2 (.cells #[.int .i64 0, .int .i64 32, .int .i64 93, .int .i64 255] 3))).trans hf3
    have h5 := h4.fr hf23 (fun k hk => by have := (h4.lt (mem_blkOf.1 hk)).1; simp; omega)
    have hF3 := hF2.trans hf23
    have hFa := hF3.trans (Fr.of_below (Below.one w3 (.cells #[.int .u8 y] 5)))
    have hCa := hC3.below (Below.one w3 (.cells #[.int .u8 y] 5))
    go_wp2_with (at_builtin; refine app_u8 rfl _ _ rfl (h5.alloc _) rfl (lit1 w3 _ hyb) rfl (by omega) (by have := hF3.size; simp; omega) ?_; intro A5 c5 w5 h6 hb6)
    go_ret
    exact ⟨_, _, _, _, rfl, h6.sl, fun x hx => by have := (h6.lt (mem_blkOf.1 hx)).1; omega, by omega, hCa.belowB hb6 hgl, hFa.then_ hb6⟩
  have z2 : (q == 2) = false := by simp [q2]
  by_cases q3 : q = 3
  · subst q3
    by_cases hm0 : m = 0
    · subst hm0
      go_wp2_with fail
      go_ret
      exact ⟨_, _, _, _, rfl, h4.sl, fun x hx => by have := (h4.lt (mem_blkOf.1 hx)).1; omega, by omega, hC2, hF2⟩
    · have hmp : (0 : Int) < (m : Int) := by omega
      go_wp2_with fail
      refine (s_l1Below B g n c A b m _ hC2 (by omega)).mono ?_; rintro r w3 ⟨x, rfl, hx, hC3, hf3⟩
      obtain ⟨hx0, hx1⟩ := hx.2 hmp
      obtain ⟨k, rfl⟩ := Int.eq_ofNat_of_zero_le hx0
      have h5 := h4.fr hf3 (fun k hk => by have := (h4.lt (mem_blkOf.1 hk)).1; simp; omega)
      have hF3 := hF2.trans hf3
      obtain ⟨g3, rfl, hg3⟩ := BS.at0 h5 (by omega)
      have hmc := h5.sl.cap
      have hCd := hC3.below (Below.refl w3.heap.size w3).drew
      have h5d : BS w3.drew w.heap.size (some ⟨g3, 0, none⟩) m c3 b2 := h5.below (Below.refl w3.heap.size w3).drew
      obtain ⟨v0, hv0⟩ : ∃ v0 : Int, w3.cell? ⟨g3, k, none⟩ = some (.int .u8 v0) := by
        obtain ⟨g4, o4, e4, _, hb4, hc4⟩ := h5.sl.byte (k := k) (by omega)
        cases e4
        exact ⟨_, by simpa using hc4⟩
      have hg3l : g3 < w3.heap.size := (h5.lt (by simp [Value.ownBlock])).2
      go_wp2_with fail
      go_region_law (go_simp; go_at_call 23; refine (s_l1Below B g n c A b 8 _ hCd (by decide)).mono ?_; rintro r w4 ⟨y, rfl, hy, hC4, hf4⟩; obtain ⟨hy0, hy1⟩ := hy.2 (by decide); obtain ⟨k8, rfl⟩ := Int.eq_ofNat_of_zero_le hy0; have h6 := h5d.fr hf4 (fun k hk => by have := (h5d.lt (mem_blkOf.1 hk)).1; simp; omega); have hv4 : w4.cell? ⟨g3, k, none⟩ = some (.int .u8 v0) := (World.cell?_of_block (w := w3) (w' := w4) (a := ⟨g3, k, none⟩) (hf4.block g3 hg3l (by simp; omega))).trans hv0; have hfz4 := (BS.store h6 (k := k) (by omega) (x := 0) (by decide)).2.1)
      all_goals
        obtain ⟨b', hb'⟩ := (BS.store h6 (k := k) (by omega) (xor_u8 v0 (IntKind.u8.wrap (2 ^ k8)))).2.2
        go_wp2_with fail
        go_ret
        exact ⟨_, _, _, _, rfl, hb'.sl, fun x hx => by have := (hb'.lt (mem_blkOf.1 hx)).1; omega, by omega, hC4.set_ (by omega) _, (hF3.drew.trans hf4).new_ (by exact hg3) _⟩
  · have z3 : (q == 3) = false := by simp [q3]
    go_wp2_with fail
    go_ret
    exact ⟨_, _, _, _, rfl, h4.sl, fun x hx => by have := (h4.lt (mem_blkOf.1 hx)).1; omega, by omega, hC2, hF2⟩
end Go.Proofs.YtmnlkedacnemcaaGreatDoor
