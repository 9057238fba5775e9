/- MarkOk: impl and spec. Arguments opened: from 'it reads as data' to the cells that it holds. A tree that came in, opened. MarkFor. -/
import Derived.Test.YtmnlkedacnemcaaGreatDoorTwFltNew
import Derived.Deep.RegionHeld3
import Derived.Test.YtmnlkedacnemcaaGreatDoorTwM1
import Derived.ProofKit
import Derived.OpenShut
import Derived.Deep.Slices
import Derived.Lib.SmallJoins
import Derived.Test.YtmnlkedacnemcaaGreatDoorTwVal
import Derived.Test.YtmnlkedacnemcaaGreatDoorTwM2
set_option linter.unusedVariables false
set_option maxRecDepth 100000
set_option linter.unusedSimpArgs false
namespace Go.Proofs.YtmnlkedacnemcaaGreatDoor
open Go.RowKit

/-- What BitsFlt hands back, as data. -/
def fltOf : Value → Int × Int × Bool
  | .tuple #[.agg #[.int _ a, .int _ b], .bool ok] => (a, b, ok)
  | _ => (0, 0, false)
theorem fltOf_fltV (a b : Int) (ok : Bool) : fltOf (fltV a b ok) = (a, b, ok) := rfl
def markFlt (n : Int) : Bool := (fltOf (bitsFltV n)).2.2 && decide (fltBits (fltOf (bitsFltV n)).1 (fltOf (bitsFltV n)).2.1 = n)
theorem markFlt_no {n a b : Int} (h : bitsFltV n = fltV a b false) : markFlt n = false := by unfold markFlt; rw [h, fltOf_fltV]; rfl
theorem markFlt_yes {n a b : Int} (h : bitsFltV n = fltV a b true) : markFlt n = decide (fltBits a b = n) := by unfold markFlt; rw [h, fltOf_fltV]; rfl
def markOk (k n : Int) : Bool :=
  if k = 1 then decide (n = 0) else if k = 2 then decide (n = 0 ∨ n = 1) else if k = 3 then inR n (-1000000000000000) 1000000000000000
  else if k = 4 then markFlt n else if k = 5 then inR n 0 2 else if 7 ≤ k ∧ k ≤ 10 then inR n 0 65535 else false
/-- What BitsFlt hands back fits an int. -/
theorem strip_bd : ∀ (k : Nat) (m e : Int), e ≤ (strip k m e).2 ∧ (strip k m e).2 ≤ e + k
  | 0, m, e => by simp [strip]
  | k + 1, m, e => by
    have ih := strip_bd k (m.tdiv 2) (e + 1)
    unfold strip
    split
    · omega
    · simp; omega
theorem fltNew_e (m e : Int) : (fltOf (fltNewV m e)).2.1 = 0 ∨ (e ≤ (fltOf (fltNewV m e)).2.1 ∧ (fltOf (fltNewV m e)).2.1 ≤ e + 64) := by
  unfold fltNewV fltNewIn
  split
  · split
    · exact Or.inl rfl
    · split
      · exact Or.inr (strip_bd 64 m e)
      · exact Or.inl rfl
  · exact Or.inl rfl
theorem bitsFlt_e {n a b : Int} {ok : Bool} (h : bitsFltV n = fltV a b ok) : b ≤ 9223372036854775807 := by
  have hx : (fltOf (bitsFltV n)).2.1 = b := by rw [h]; rfl
  unfold bitsFltV at hx
  split at hx
  · have := fltNew_e (if 16777216 ≤ n then -(n % 65536) else n % 65536) (n / 65536 % 256 - 16)
    rw [hx] at this
    omega
  · have : (0 : Int) = b := hx
    omega
/-- Three cells and the frame, carried over a call that makes memory. -/
theorem three_next {w w1 w' w2 : World} {a b n : Value} (hb : Below w'.heap.size w' w2) (h : w'.cell? ⟨w1.heap.size, 0, none⟩ = some a ∧ w'.cell? ⟨w1.heap.size, 1, none⟩ = some b ∧ w'.cell? ⟨w.heap.size, 1, none⟩ = some n ∧ Below w.heap.size w w') :
    w2.cell? ⟨w1.heap.size, 0, none⟩ = some a ∧ w2.cell? ⟨w1.heap.size, 1, none⟩ = some b ∧ w2.cell? ⟨w.heap.size, 1, none⟩ = some n ∧ Below w.heap.size w w2 := by
  obtain ⟨h1, h2, h3, h4⟩ := h
  have l1 : w1.heap.size < w'.heap.size := World.block_lt_of_cell? w' ⟨w1.heap.size, 0, none⟩ h1
  have l2 : w.heap.size < w'.heap.size := World.block_lt_of_cell? w' ⟨w.heap.size, 1, none⟩ h3
  exact ⟨(hb.cell (p := ⟨w1.heap.size, 0, none⟩) l1).trans h1, (hb.cell (p := ⟨w1.heap.size, 1, none⟩) l1).trans h2, (hb.cell (p := ⟨w.heap.size, 1, none⟩) l2).trans h3, h4.up hb⟩
theorem markOk_other {k n : Int} (h1 : k ≠ 1) (h2 : k ≠ 2) (h3 : k ≠ 3) (h4 : k ≠ 4) (h5 : k ≠ 5) (h : ¬ (7 ≤ k ∧ k ≤ 10)) : false = markOk k n := by
  unfold markOk; rw [if_neg h1, if_neg h2, if_neg h3, if_neg h4, if_neg h5, if_neg h]
end Go.Proofs.YtmnlkedacnemcaaGreatDoor

namespace Go.Proofs.YtmnlkedacnemcaaGreatDoor
open Go.ChangeShapes Go.WideShapes Go.ChangeAt Go.RowKit

section
variable {H : Type} {enc : TypeId × Value → H} {P : Program} {w : World}
theorem addr_add (a : Addr) (g o j : Nat) (h : a = ⟨g, o, none⟩) : a.add j = ⟨g, o + j, none⟩ := by subst h; unfold Addr.add; split <;> simp_all
/-- A slice, opened: its cells, and what each element reads as. -/
theorem open_sl {t e m : Nat} {fuel : Nat} {v : Value} {x : DataW H × List MemPlace} {B : Nat} (ht : P.underlying t = some (.slice e)) (hm : P.cellsOf e = m) (hm0 : 0 < m)
    (h : DataW.trod enc P w 0 (fun _ => true) true fuel t [v] = some x) (hlt : ∀ p ∈ x.2, p.block < B) :
    ∃ (A : Option Addr) (n c : Nat) (xs : List Value), v = .slice A n c ∧ Sl w B m A n c xs ∧
      ∀ i, i < n → ∃ f y, fuel = f + 1 ∧ DataW.trod enc P w 0 (fun _ => true) true f e ((xs.drop (i * m)).take m) = some y ∧ ∀ p ∈ y.2, p.block < B := by
  rcases DataW.trod_slice ht h with ⟨h1, h2⟩ | ⟨a, len, cap, elems, rest, f, hf, h1, h2, h3, h4, h5, h6, h7, h8, h9⟩
  · simp only [List.cons.injEq, and_true] at h1
    exact ⟨none, 0, 0, [], h1, Sl.nil_ _ _ _, fun i hi => absurd hi (Nat.not_lt_zero i)⟩
  · simp only [List.cons.injEq, and_true] at h1
    rw [hm] at h7 h2
    have hcell : ∀ i, i < len → ∃ cs y, w.cells? 0 (a.add (i * m)) m = some cs ∧ DataW.trod enc P w 0 (fun _ => true) true f e cs = some y ∧ y ∈ elems := by
      intro i hi
      have hk := h7 i hi
      rw [List.getElem?_eq_getElem (by omega)] at hk
      obtain ⟨cs, k1, k2⟩ := Option.bind_eq_some_iff.1 hk
      exact ⟨cs, _, k1, k2, List.getElem_mem _⟩
    have hone : ∀ j, j < len * m → ∃ u, w.cell? (a.add j) = some u := by
      intro j hj
      obtain ⟨cs, y, k1, _⟩ := hcell (j / m) (by rw [Nat.div_lt_iff_lt_mul hm0]; exact hj)
      obtain ⟨_, k2, k3⟩ := World.cells?_some k1
      have := k3 (j % m) (Nat.mod_lt _ hm0)
      rw [Go.Deep.add_add, Nat.mul_comm, Nat.div_add_mod] at this
      exact ⟨cs[j % m]'(by rw [k2]; exact Nat.mod_lt _ hm0), by rw [this, List.getElem?_eq_getElem]⟩
    refine ⟨some a, len, cap, (List.range (len * m)).map fun j => (w.cell? (a.add j)).getD undef, h1, ⟨by simp, h4, h5, fun hn => ?_⟩, fun i hi => ?_⟩
    · obtain ⟨u, hu⟩ := hone 0 (Nat.mul_pos hn hm0)
      have ha : a = ⟨a.block, a.off, none⟩ := by
        cases hs : a.spot with
        | none => rw [← hs]
        | some k =>
          have e0 : a.add 0 = a := by unfold Addr.add; simp
          rw [e0] at hu
          unfold World.cell? at hu
          rw [hs] at hu
          split at hu <;> simp at hu
      refine ⟨a.block, a.off, congrArg some ha, ?_, fun j u hu => ?_⟩
      · have hin : MemPlace.cell a.block (a.off + 0) ∈ x.2 := by
          rw [h2]
          refine List.mem_append_left _ ?_
          unfold MemPlace.row
          refine List.mem_map.2 ⟨0, List.mem_range.2 ?_, rfl⟩
          rw [h6]
          exact Nat.mul_pos (by omega) hm0
        exact hlt _ hin
      · obtain ⟨hj, hj2⟩ := List.getElem?_eq_some_iff.1 hu
        simp only [List.length_map, List.length_range] at hj
        obtain ⟨u', hu'⟩ := hone j hj
        rw [← addr_add a _ _ j ha, hu']
        simp [hu'] at hj2
        rw [hj2]
    · obtain ⟨cs, y, k1, k2, k3⟩ := hcell i hi
      obtain ⟨_, k4, k5⟩ := World.cells?_some k1
      refine ⟨f, y, hf, ?_, fun p hp => hlt p ?_⟩
      · rw [← k2]
        congr 1
        apply List.ext_getElem?
        intro r
        by_cases hr : r < m
        · have hi2 : i * m + r < len * m := by
            have : (i + 1) * m ≤ len * m := Nat.mul_le_mul_right m hi
            rw [Nat.add_mul] at this
            omega
          rw [List.getElem?_take, if_pos hr, List.getElem?_drop, List.getElem?_map, List.getElem?_range hi2]
          have := k5 r hr
          rw [Go.Deep.add_add] at this
          simp only [Option.map_some, this]
          rw [List.getElem?_eq_getElem (by omega)]
          rfl
        · rw [List.getElem?_take, if_neg hr, List.getElem?_eq_none (by omega)]
      · rw [h2]
        exact List.mem_append_right _ (List.mem_flatMap.2 ⟨y, List.mem_append_left _ k3, hp⟩)
end

/-- A struct of two integers, opened. -/
theorem open_two {H : Type} {enc : TypeId × Value → H} {P : Program} {W : World} {r : Reach} {b0 : Nat} {t ti : TypeId} {f0 f1 : Field} {v : Value} {d : DataW H} {p : List MemPlace} (hs : P.underlying t = some (.struct #[f0, f1])) (hone : Go.Deep.oneCellFields P #[f0, f1] = true) (hC : P.cellsOf t = 2)
    (hi : P.underlying ti = some (.int .i64)) (h0 : f0.type = ti) (h1 : f1.type = ti) (hv : Value.okWide P W r b0 t v) (h : DataW.Trod enc P W 0 (fun _ => true) true t v d p) :
    ∃ a b : Int, v = .agg #[.int .i64 a, .int .i64 b] ∧ (Lit.int .i64 a).wf = true ∧ (Lit.int .i64 b).wf = true := by
  obtain ⟨c0, c1, y0, y1, n, hv', _, _, k0, k1⟩ := Joins.open_agg2 hs hone hC hv h
  rw [h0] at k0
  rw [h1] at k1
  obtain ⟨a, ea, _, wa⟩ := DataW.trod_int hi k0
  obtain ⟨b, eb, _, wb⟩ := DataW.trod_int hi k1
  simp only [List.cons.injEq, and_true] at ea eb
  exact ⟨a, b, by rw [hv', ea, eb], wa, wb⟩
theorem open_three {H : Type} {enc : TypeId × Value → H} {P : Program} {W : World} {r : Reach} {b0 : Nat} {t ti : TypeId} {f0 f1 f2 : Field} {v : Value} {d : DataW H} {p : List MemPlace} (hs : P.underlying t = some (.struct #[f0, f1, f2])) (hone : Go.Deep.oneCellFields P #[f0, f1, f2] = true) (hC : P.cellsOf t = 3)
    (hi : P.underlying ti = some (.int .i64)) (h0 : f0.type = ti) (h1 : f1.type = ti) (h2 : f2.type = ti) (hv : Value.okWide P W r b0 t v) (h : DataW.Trod enc P W 0 (fun _ => true) true t v d p) :
    ∃ a b c : Int, v = .agg #[.int .i64 a, .int .i64 b, .int .i64 c] ∧ (Lit.int .i64 a).wf = true ∧ (Lit.int .i64 b).wf = true ∧ (Lit.int .i64 c).wf = true := by
  obtain ⟨c0, c1, c2, y0, y1, y2, n, hv', _, _, k0, k1, k2⟩ := Joins.open_agg3 hs hone hC hv h
  rw [h0] at k0
  rw [h1] at k1
  rw [h2] at k2
  obtain ⟨a, ea, _, wa⟩ := DataW.trod_int hi k0
  obtain ⟨b, eb, _, wb⟩ := DataW.trod_int hi k1
  obtain ⟨c, ec, _, wc⟩ := DataW.trod_int hi k2
  simp only [List.cons.injEq, and_true] at ea eb ec
  exact ⟨a, b, c, by rw [hv', ea, eb, ec], wa, wb, wc⟩

/-- A []byte, opened. -/
theorem open_bytes {H : Type} {enc : TypeId × Value → H} {W : World} {r : Reach} {b0 : Nat} {v : Value} {d : DataW H} {p : List MemPlace} (hval : Value.okWide Tryz.prog W r b0 22 v)
    (h : DataW.Trod enc Tryz.prog W 0 (fun _ => true) true 22 v d p) (hlt : ∀ x ∈ p, x.block < W.heap.size) :
    ∃ (A : Option Addr) (n c : Nat) (b : List UInt8), v = .slice A n c ∧ Sl W W.heap.size 1 A n c (u8s b) := by
  obtain ⟨a0, l0, c0, rfl⟩ := okWide_slice Tryz.underlying22 hval
  obtain ⟨fuel, hf⟩ := h
  obtain ⟨A, n, c, xs, hv, hs, hx⟩ := open_sl (B := W.heap.size) Tryz.underlying22 (show Tryz.prog.cellsOf 5 = 1 by kernel_rfl) (by decide) hf hlt
  refine ⟨A, n, c, xs.map fun v => match v with | .int _ k => k.toNat.toUInt8 | _ => 0, hv, ?_⟩
  have e : u8s (xs.map fun v => match v with | .int _ k => k.toNat.toUInt8 | _ => 0) = xs := by
    unfold u8s
    rw [List.map_map]
    conv => rhs; rw [← List.map_id xs]
    refine List.map_congr_left fun u hu => ?_
    obtain ⟨i, hi, rfl⟩ := List.mem_iff_getElem.1 hu
    have hin : i < n := by have := hs.len; omega
    obtain ⟨f, y, _, hy, _⟩ := hx i hin
    have e1 : (xs.drop (i * 1)).take 1 = [xs[i]] := by
      rw [Nat.mul_one, List.drop_eq_getElem_cons hi]; rfl
    rw [e1] at hy
    obtain ⟨k, hk, _, hw⟩ := DataW.trod_int Tryz.underlying5 hy
    simp only [List.cons.injEq, and_true] at hk
    have hb := bounds_u8 hw
    simp only [Function.comp, hk, id]
    congr 1
    have : (k.toNat.toUInt8).toNat = k.toNat := by simp; omega
    rw [this]; omega
  rw [e]; exact hs
end Go.Proofs.YtmnlkedacnemcaaGreatDoor

namespace Go.Proofs.YtmnlkedacnemcaaGreatDoor
open Go.ChangeShapes Go.WideShapes Go.ChangeAt Go.RowKit

theorem lists_of {Q : Nat → Tr → El → Prop} (n : Nat) (h : ∀ i, i < n → ∃ t e, Q i t e) : ∃ (l : List Tr) (es : List El), l.length = n ∧ es.length = n ∧ ∀ (i : Nat) (t : Tr) (e : El), l[i]? = some t → es[i]? = some e → Q i t e := by
  induction n with
  | zero => exact ⟨[], [], rfl, rfl, fun i t e h => by simp at h⟩
  | succ n ih =>
    obtain ⟨l, es, h1, h2, h3⟩ := ih fun i hi => h i (by omega)
    obtain ⟨t, e, hq⟩ := h n (by omega)
    refine ⟨l ++ [t], es ++ [e], by simp [h1], by simp [h2], fun i t2 e2 ht he => ?_⟩
    rcases Nat.lt_or_ge i n with hi | hi
    · rw [List.getElem?_append_left (by omega)] at ht he
      exact h3 i t2 e2 ht he
    · have : i < (l ++ [t]).length := (List.getElem?_eq_some_iff.1 ht).1
      obtain rfl : i = n := by simp [h1] at this; omega
      rw [List.getElem?_append_right (by omega)] at ht he
      simp [h1, h2] at ht he
      subst ht he
      exact hq
theorem five_of {α : Type} {cs : List α} (h : cs.length = 5) : ∃ a b c d e, cs = [a, b, c, d, e] := by
  match cs, h with
  | [a, b, c, d, e], _ => exact ⟨a, b, c, d, e, rfl⟩
theorem drop_get {α : Type} (xs : List α) (i j : Nat) (hj : j < 5) {cs : List α} (h : (xs.drop (i * 5)).take 5 = cs) : xs[i * 5 + j]? = cs[j]? := by
  subst h
  rw [List.getElem?_take, if_pos hj, List.getElem?_drop]
end Go.Proofs.YtmnlkedacnemcaaGreatDoor

namespace Go.Proofs.YtmnlkedacnemcaaGreatDoor
open Go.RowKit

def markFor (k n x : Int) (sl m : Nat) : Int × Int :=
  if k = 1 ∨ k = 2 ∨ k = 3 ∨ k = 5 then (k, n) else if k = 4 then (4, fltBits n x) else if k = 7 ∨ k = 8 then (k, sl) else if k = 9 then (9, m) else if k = 10 then (10, (m : Int) / 2) else (0, 0)
theorem tdiv2 (m : Nat) : Int.tdiv (m : Int) 2 = (m : Int) / 2 := by rw [Int.tdiv_eq_ediv]; simp
end Go.Proofs.YtmnlkedacnemcaaGreatDoor
