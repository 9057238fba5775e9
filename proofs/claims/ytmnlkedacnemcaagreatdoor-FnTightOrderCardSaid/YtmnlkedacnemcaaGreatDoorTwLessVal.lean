/- LessVal on names that have no trees below them. Written by gen/lessval.py. -/
import Derived.Test.YtmnlkedacnemcaaGreatDoorTwM42
import Derived.Test.YtmnlkedacnemcaaGreatDoorShelf
import Derived.Deep.LoopGhost
import Derived.Deep.RegionLaw
import Derived.Deep.RegionHeld3
import Derived.Deep.CutRange
import Derived.BigRegion
import Derived.Deep.QuietTactic
import Derived.BigQuiet
set_option linter.unusedVariables false
set_option maxRecDepth 100000
set_option linter.unusedSimpArgs false
namespace Go.Proofs.YtmnlkedacnemcaaGreatDoor
open Go.RowKit

/-- The first of two that is not zero. -/
def or2 (x y : Int) : Int := if x = 0 then y else x
/-- How two names compare. -/
def cmpV (a b : Tr) : Int := if a.k = b.k then or2 (or2 (Lib.compareInt a.n b.n) (Lib.compareInt a.x b.x)) (Lib.compareBytes a.s.data.toList b.s.data.toList) else Lib.compareInt a.k b.k
theorem cmpV_less (a b : Tr) : decide (cmpV a b < 0) = lessV a b := by
  rw [Bool.eq_iff_iff, lessV_iff, decide_eq_true_eq]
  unfold cmpV or2 Lib.compareInt
  repeat' split
  all_goals omega
theorem boxV_lt {w : World} {g : Nat} {t : Tr} {e : El} (h : BoxV w g t e) : g < w.heap.size := by
  have h0 := h.1
  by_cases hg : g < w.heap.size
  · exact hg
  · exfalso
    have : w.heap[g]? = none := Array.getElem?_eq_none (by omega)
    simp [World.cell?, this] at h0
theorem boxV_bel {w w' : World} {g : Nat} {t : Tr} {e : El} (h : BoxV w g t e) (hb : Below w.heap.size w w') : BoxV w' g t e := by
  have hg := boxV_lt h
  obtain ⟨c0, c1, c2, c3, c4⟩ := h
  exact ⟨(hb.cell (p := ⟨g, _, none⟩) hg).trans c0, (hb.cell (p := ⟨g, _, none⟩) hg).trans c1, (hb.cell (p := ⟨g, _, none⟩) hg).trans c2, (hb.cell (p := ⟨g, _, none⟩) hg).trans c3, (hb.cell (p := ⟨g, _, none⟩) hg).trans c4⟩
theorem gen_then {K : Act → World → Prop} {Q : Exit → Act → World → Prop} {a : Act} {w : World} (S : World → Prop) (h : S w) (k : ∀ w, S w → Exit.then K Q Exit.normal a w) : Exit.then K Q Exit.normal a w := k w h
theorem gen_world {P : Program} {c : Code} {Q : Exit → Act → World → Prop} {a : Act} {w : World} (S : World → Prop) (h : S w) (k : ∀ w, S w → Code.wp P c Q a w) : Code.wp P c Q a w := k w h
theorem bel4 (w : World) (a b c d : Obj) : Below w.heap.size w ((((w.alloc a).alloc b).alloc c).alloc d) := ((((Below.refl _ w).up (Below.one _ _)).up (Below.one _ _)).up (Below.one _ _)).up (Below.one _ _)
def NmOk (x : Tr) : Prop := x.l = [] ∧ (x.k = 3 ∨ x.k = 7)
theorem step_alFlt {ops : Array Oper} {d : Option Tmp} {ty : TypeId} {pos : String} {af : Array Edge} {a : Act} {K : Act → World → Prop} {Q : Exit → Act → World → Prop} {E : Prop} {w : World}
    (hK : K (a.put d (.pointer (some ⟨w.heap.size, 0, none⟩))) (w.alloc (.cells #[.int .i64 0, .int .i64 0] 65))) :
    if Region.wanted { dst := d, op := .alloc 65, type := ty, pos := pos, after := af, guard := none } (yielded ops a.tmps) = true then Oper.wp Tryz.prog { dst := d, op := .alloc 65, type := ty, pos := pos, after := af, guard := none } a w K Q else E := by
  rw [if_pos (by simp [Region.wanted])]
  go_simp
  exact hK
theorem step_stFlt {ops : Array Oper} {ty : TypeId} {pos : String} {af : Array Edge} {x y : Tmp} {a : Act} {K : Act → World → Prop} {Q : Exit → Act → World → Prop} {E : Prop} {w : World} {g : Nat} {p q : Int} {u v : Value} {T : TypeId}
    (hx : a.tmps[x]?.getD undef = .pointer (some ⟨g, 0, none⟩)) (hy : a.tmps[y]?.getD undef = .agg #[.int .i64 p, .int .i64 q]) (hb : Blk w g T #[u, v]) (hK : K a ((w.setCell ⟨g, 0, none⟩ (.int .i64 p)).setCell ⟨g, 1, none⟩ (.int .i64 q))) :
    if Region.wanted { dst := none, op := .store 65 (.tmp x) (.tmp y), type := ty, pos := pos, after := af, guard := none } (yielded ops a.tmps) = true then Oper.wp Tryz.prog { dst := none, op := .store 65 (.tmp x) (.tmp y), type := ty, pos := pos, after := af, guard := none } a w K Q else E := by
  rw [if_pos (by simp [Region.wanted])]
  have c0 := hb.cell 0
  have e0 := hb.frozen 0
  have hb2 := hb.set_ 0 (.int .i64 p)
  have c1 := hb2.cell 1
  have e1 := hb2.frozen 1
  simp only [List.getElem?_toArray, List.getElem?_cons_succ, List.getElem?_cons_zero, List.setIfInBounds_toArray, List.set_cons_zero] at c0 c1
  go_simp
  exact hK
theorem step_alDec {ops : Array Oper} {d : Option Tmp} {ty : TypeId} {pos : String} {af : Array Edge} {a : Act} {K : Act → World → Prop} {Q : Exit → Act → World → Prop} {E : Prop} {w : World}
    (hK : K (a.put d (.pointer (some ⟨w.heap.size, 0, none⟩))) (w.alloc (.cells #[.int .i64 0, .int .i64 0] 75))) :
    if Region.wanted { dst := d, op := .alloc 75, type := ty, pos := pos, after := af, guard := none } (yielded ops a.tmps) = true then Oper.wp Tryz.prog { dst := d, op := .alloc 75, type := ty, pos := pos, after := af, guard := none } a w K Q else E := by
  rw [if_pos (by simp [Region.wanted])]
  go_simp
  exact hK
theorem step_stDec {ops : Array Oper} {ty : TypeId} {pos : String} {af : Array Edge} {x y : Tmp} {a : Act} {K : Act → World → Prop} {Q : Exit → Act → World → Prop} {E : Prop} {w : World} {g : Nat} {p q : Int} {u v : Value} {T : TypeId}
    (hx : a.tmps[x]?.getD undef = .pointer (some ⟨g, 0, none⟩)) (hy : a.tmps[y]?.getD undef = .agg #[.int .i64 p, .int .i64 q]) (hb : Blk w g T #[u, v]) (hK : K a ((w.setCell ⟨g, 0, none⟩ (.int .i64 p)).setCell ⟨g, 1, none⟩ (.int .i64 q))) :
    if Region.wanted { dst := none, op := .store 75 (.tmp x) (.tmp y), type := ty, pos := pos, after := af, guard := none } (yielded ops a.tmps) = true then Oper.wp Tryz.prog { dst := none, op := .store 75 (.tmp x) (.tmp y), type := ty, pos := pos, after := af, guard := none } a w K Q else E := by
  rw [if_pos (by simp [Region.wanted])]
  have c0 := hb.cell 0
  have e0 := hb.frozen 0
  have hb2 := hb.set_ 0 (.int .i64 p)
  have c1 := hb2.cell 1
  have e1 := hb2.frozen 1
  simp only [List.getElem?_toArray, List.getElem?_cons_succ, List.getElem?_cons_zero, List.setIfInBounds_toArray, List.set_cons_zero] at c0 c1
  go_simp
  exact hK
theorem step_bI2 {ops : Array Oper} {d : Option Tmp} {ty : TypeId} {pos : String} {af : Array Edge} {x y : Tmp} {a : Act} {K : Act → World → Prop} {Q : Exit → Act → World → Prop} {E : Prop} {w : World} {p q : Int}
    (hx : a.tmps[x]?.getD undef = .int .i64 p) (hy : a.tmps[y]?.getD undef = .int .i64 q)
    (hK : K (a.put d (.slice (some ⟨w.heap.size, 0, none⟩) 2 2)) (w.alloc (.cells #[.int .i64 p, .int .i64 q] 3))) :
    if Region.wanted { dst := d, op := .buildSlice 54 2 #[(0, .tmp x), (1, .tmp y)], type := ty, pos := pos, after := af, guard := none } (yielded ops a.tmps) = true then Oper.wp Tryz.prog { dst := d, op := .buildSlice 54 2 #[(0, .tmp x), (1, .tmp y)], type := ty, pos := pos, after := af, guard := none } a w K Q else E := by
  rw [if_pos (by simp [Region.wanted])]
  go_simp
  exact hK
set_option maxHeartbeats 1000000 in
theorem g_Or2 (x y : Int) (g : Nat) (T : TypeId) (w : World) (h : Blk w g T #[.int .i64 x, .int .i64 y]) :
    Calls Tryz.prog 68 #[.slice (some ⟨g, 0, none⟩) 2 2] w fun r w' => r = .returned (.int .i64 (or2 x y)) ∧ w = w' := by
  have c0 := h.cell 0
  have c1 := h.cell 1
  simp only [List.getElem?_toArray, List.getElem?_cons_succ, List.getElem?_cons_zero] at c0 c1
  obtain ⟨R, hR⟩ : ∃ R, or2 x y = R := ⟨_, rfl⟩
  rw [hR]
  have HR := Lib.hid hR
  clear hR h
  go_enter Tryz.func68, Tryz.ntmps68
  go_wp2_with fail
  go_loopg [8] 2 (fun f i wr => ∃ j : Nat, j + f = 2 ∧ i = .int .i64 j ∧ w = wr ∧ Hid ((1 ≤ j → x = 0) ∧ (2 ≤ j → y = 0)))
  case atStart => exact ⟨0, by omega, rfl, rfl, Lib.hid ⟨fun h => by omega, fun h => by omega⟩⟩
  case round =>
    obtain ⟨j, hj, rfl, rfl, hH⟩ := hrel
    have hj3 : j = 0 ∨ j = 1 ∨ j = 2 := by omega
    rcases hj3 with rfl | rfl | rfl
    · obtain rfl : gk = 2 := by omega
      by_cases hx : x = 0
      · have q : (x == 0) = true := by simp [hx]
        have HX := Lib.hid hx
        clear hx
        go_wp2_with fail
        go_roundg 1
        case measure => omega
        case rel => exact ⟨1, by omega, by go_num, rfl, Lib.hid ⟨fun _ => HX.out, fun h => by omega⟩⟩
      · have q : (x == 0) = false := by simpa using hx
        go_wp2_with fail
        go_ret
        exact ⟨ret_int (by rw [← HR.out]; unfold or2; rw [if_neg hx]), rfl⟩
    · obtain rfl : gk = 1 := by omega
      have hx0 := hH.out.1 (Nat.le_refl _)
      by_cases hy : y = 0
      · have q : (y == 0) = true := by simp [hy]
        have HX := Lib.hid hx0
        have HY := Lib.hid hy
        clear hx0 hy
        go_wp2_with fail
        go_roundg 0
        case measure => omega
        case rel => exact ⟨2, by omega, by go_num, rfl, Lib.hid ⟨fun _ => HX.out, fun _ => HY.out⟩⟩
      · have q : (y == 0) = false := by simpa using hy
        have HX := Lib.hid hx0
        clear hx0
        go_wp2_with fail
        go_ret
        exact ⟨ret_int (by rw [← HR.out]; unfold or2; rw [if_pos HX.out]), rfl⟩
    · obtain rfl : gk = 0 := by omega
      have hx0 := hH.out.1 (by omega)
      have hy0 := hH.out.2 (Nat.le_refl _)
      have HX := Lib.hid (And.intro hx0 hy0)
      clear hx0 hy0
      go_wp2_with fail
      go_ret
      exact ⟨ret_int (by rw [← HR.out]; unfold or2; rw [if_pos HX.out.1, HX.out.2]), rfl⟩
theorem g_CompareFunc0 (A1 : Option Addr) (c1 : Nat) (A2 : Option Addr) (c2 : Nat) (f : Value) (w : World) :
    Calls Tryz.prog 71 #[.slice A1 0 c1, .slice A2 0 c2, f] w fun r w' => r = .returned (.int .i64 0) ∧ w = w' := by
  go_enter Tryz.func71, Tryz.ntmps71
  go_wp2_with fail
  go_loopg [13] 0 (fun f i wr => i = .int .i64 0 ∧ w = wr)
  case atStart => exact ⟨rfl, rfl⟩
  case round =>
    obtain ⟨rfl, rfl⟩ := hrel
    go_wp2_with fail
    go_ret
    exact ⟨rfl, rfl⟩
set_option maxHeartbeats 4000000 in
theorem i_compareNumbers (a b : Tr) (ea eb : El) (w : World) (ha : a.k = 3 ∨ a.k = 7) :
    Calls Tryz.prog 69 #[trV a ea, trV b eb] w fun r w' => r = .returned (.int .i64 (or2 (Lib.compareInt a.n b.n) (Lib.compareInt a.x b.x))) ∧ Below w.heap.size w w' := by
  have k2 := Below.two w (.cells (valCells a ea) 26) (.cells (valCells b eb) 26)
  have B1 : Blk ((w.alloc (.cells (valCells a ea) 26)).alloc (.cells (valCells b eb) 26)) w.heap.size 26 (valCells a ea) := (Blk.new w _ _).alloc _
  have B2 : Blk ((w.alloc (.cells (valCells a ea) 26)).alloc (.cells (valCells b eb) 26)) (w.heap.size + 1) 26 (valCells b eb) := by
    simpa using Blk.new (w.alloc (.cells (valCells a ea) 26)) 26 (valCells b eb)
  have q4 : (a.k == 4) = false := by rcases ha with h | h <;> simp [h]
  have q6 : (a.k == 6) = false := by rcases ha with h | h <;> simp [h]
  clear ha
  go_enter Tryz.func69, Tryz.ntmps69
  go_upto_region 1 with fail
  refine gen_world (fun w' => (BoxV w' w.heap.size a ea ∧ BoxV w' (w.heap.size + 1) b eb) ∧ Below w.heap.size w w') ⟨⟨B1.boxV, B2.boxV⟩, k2⟩ (fun w1 hq1 => ?_)
  clear B1 B2 k2
  have hS2 := fun (w' w'' : World) (h : (BoxV w' w.heap.size a ea ∧ BoxV w' (w.heap.size + 1) b eb) ∧ Below w.heap.size w w') (hb : Below w'.heap.size w' w'') => (show (BoxV w'' w.heap.size a ea ∧ BoxV w'' (w.heap.size + 1) b eb) ∧ Below w.heap.size w w'' from ⟨⟨boxV_bel h.1.1 hb, boxV_bel h.1.2 hb⟩, h.2.up hb⟩)
  refine wp_region_noPanic ?_
  refine wp_region_held_drew (S := fun w' => (BoxV w' w.heap.size a ea ∧ BoxV w' (w.heap.size + 1) b eb) ∧ Below w.heap.size w w') (by kernel_rfl) (hS2 _ _ hq1 (Below.refl _ _).drew) (fun hHeld => ?_)
  generalize w1.drew = wv at hHeld ⊢
  clear hq1
  refine wpAnyH_take (i := 0) (oi := ?oi0x1) (v := ?vv0x1) ?hi0x1 (by kernel_rfl) (by kernel_rfl) (by kernel_rfl) ?hQ0x1 (Or.inl ⟨?hw0x1, ?hy0x1⟩) hHeld ?rest0x1
  case hi0x1 => (simp only [List.getElem?_toArray, List.getElem?_cons_succ, List.getElem?_cons_zero]; exact rfl)
  case hQ0x1 => exact fun _ _ _ h => h
  case hw0x1 => rfl
  case hy0x1 => ((intro w hSw; (try dsimp only at hSw); go_simp) <;> (with_reducible rfl))
  try simp only [Act.put, List.setIfInBounds_toArray, List.set_cons_zero, List.set_cons_succ]
  refine wpAnyH_take (i := 1) (oi := ?oi1x2) (v := ?vv1x2) ?hi1x2 (by kernel_rfl) (by kernel_rfl) (by kernel_rfl) ?hQ1x2 (Or.inl ⟨?hw1x2, ?hy1x2⟩) hHeld ?rest1x2
  case hi1x2 => (simp only [List.getElem?_toArray, List.getElem?_cons_succ, List.getElem?_cons_zero]; exact rfl)
  case hQ1x2 => exact fun _ _ _ h => h
  case hw1x2 => rfl
  case hy1x2 => ((intro w hSw; (try dsimp only at hSw); go_simp) <;> (with_reducible rfl))
  try simp only [Act.put, List.setIfInBounds_toArray, List.set_cons_zero, List.set_cons_succ]
  refine wpAnyH_take (i := 2) (oi := ?oi2x3) (v := ?vv2x3) ?hi2x3 (by kernel_rfl) (by kernel_rfl) (by kernel_rfl) ?hQ2x3 (Or.inl ⟨?hw2x3, ?hy2x3⟩) hHeld ?rest2x3
  case hi2x3 => (simp only [List.getElem?_toArray, List.getElem?_cons_succ, List.getElem?_cons_zero]; exact rfl)
  case hQ2x3 => exact fun _ _ _ h => h
  case hw2x3 => rfl
  case hy2x3 => ((intro w hSw; (try dsimp only at hSw); go_simp) <;> (with_reducible rfl))
  try simp only [Act.put, List.setIfInBounds_toArray, List.set_cons_zero, List.set_cons_succ]
  refine wpAnyH_take (i := 3) (oi := ?oi3x4) (v := ?vv3x4) ?hi3x4 (by kernel_rfl) (by kernel_rfl) (by kernel_rfl) ?hQ3x4 (Or.inl ⟨?hw3x4, ?hy3x4⟩) hHeld ?rest3x4
  case hi3x4 => (simp only [List.getElem?_toArray, List.getElem?_cons_succ, List.getElem?_cons_zero]; exact rfl)
  case hQ3x4 => exact fun _ _ _ h => h
  case hw3x4 => rfl
  case hy3x4 => ((intro w hSw; (try dsimp only at hSw); go_simp) <;> (with_reducible rfl))
  try simp only [Act.put, List.setIfInBounds_toArray, List.set_cons_zero, List.set_cons_succ]
  refine wpAnyH_take (i := 4) (oi := ?oi4x5) (v := ?vv4x5) ?hi4x5 (by kernel_rfl) (by kernel_rfl) (by kernel_rfl) ?hQ4x5 (Or.inl ⟨?hw4x5, ?hy4x5⟩) hHeld ?rest4x5
  case hi4x5 => (simp only [List.getElem?_toArray, List.getElem?_cons_succ, List.getElem?_cons_zero]; exact rfl)
  case hQ4x5 => exact fun _ _ _ h => h
  case hw4x5 => rfl
  case hy4x5 => ((intro w hSw; (try dsimp only at hSw); go_simp) <;> (with_reducible rfl))
  try simp only [Act.put, List.setIfInBounds_toArray, List.set_cons_zero, List.set_cons_succ]
  refine wpAnyH_take (i := 5) (oi := ?oi5x6) (v := ?vv5x6) ?hi5x6 (by kernel_rfl) (by kernel_rfl) (by kernel_rfl) ?hQ5x6 (Or.inl ⟨?hw5x6, ?hy5x6⟩) hHeld ?rest5x6
  case hi5x6 => (simp only [List.getElem?_toArray, List.getElem?_cons_succ, List.getElem?_cons_zero]; exact rfl)
  case hQ5x6 => exact fun _ _ _ h => h
  case hw5x6 => rfl
  case hy5x6 => ((intro w hSw; (try dsimp only at hSw); go_simp) <;> (with_reducible rfl))
  try simp only [Act.put, List.setIfInBounds_toArray, List.set_cons_zero, List.set_cons_succ]
  refine wpAnyH_take (i := 6) (oi := ?oi6x7) (v := ?vv6x7) ?hi6x7 (by kernel_rfl) (by kernel_rfl) (by kernel_rfl) ?hQ6x7 (Or.inl ⟨?hw6x7, ?hy6x7⟩) hHeld ?rest6x7
  case hi6x7 => (simp only [List.getElem?_toArray, List.getElem?_cons_succ, List.getElem?_cons_zero]; exact rfl)
  case hQ6x7 => exact fun _ _ _ h => h
  case hw6x7 => rfl
  case hy6x7 => ((intro w hSw; (try dsimp only at hSw); go_simp) <;> (with_reducible rfl))
  try simp only [Act.put, List.setIfInBounds_toArray, List.set_cons_zero, List.set_cons_succ]
  refine wpAnyH_take (i := 7) (oi := ?oi7x8) (v := ?vv7x8) ?hi7x8 (by kernel_rfl) (by kernel_rfl) (by kernel_rfl) ?hQ7x8 (Or.inl ⟨?hw7x8, ?hy7x8⟩) hHeld ?rest7x8
  case hi7x8 => (simp only [List.getElem?_toArray, List.getElem?_cons_succ, List.getElem?_cons_zero]; exact rfl)
  case hQ7x8 => exact fun _ _ _ h => h
  case hw7x8 => rfl
  case hy7x8 => ((intro w hSw; (try dsimp only at hSw); go_simp) <;> (with_reducible rfl))
  try simp only [Act.put, List.setIfInBounds_toArray, List.set_cons_zero, List.set_cons_succ]
  refine wpAnyH_take (i := 8) (oi := ?oi8x9) (v := ?vv8x9) ?hi8x9 (by kernel_rfl) (by kernel_rfl) (by kernel_rfl) ?hQ8x9 (Or.inl ⟨?hw8x9, ?hy8x9⟩) hHeld ?rest8x9
  case hi8x9 => (simp only [List.getElem?_toArray, List.getElem?_cons_succ, List.getElem?_cons_zero]; exact rfl)
  case hQ8x9 => exact fun _ _ _ h => h
  case hw8x9 => rfl
  case hy8x9 => ((intro w hSw; (try dsimp only at hSw); go_simp) <;> (with_reducible rfl))
  try simp only [Act.put, List.setIfInBounds_toArray, List.set_cons_zero, List.set_cons_succ]
  refine wpAnyH_take (i := 9) (oi := ?oi9x10) (v := ?vv9x10) ?hi9x10 (by kernel_rfl) (by kernel_rfl) (by kernel_rfl) ?hQ9x10 (Or.inl ⟨?hw9x10, ?hy9x10⟩) hHeld ?rest9x10
  case hi9x10 => (simp only [List.getElem?_toArray, List.getElem?_cons_succ, List.getElem?_cons_zero]; exact rfl)
  case hQ9x10 => exact fun _ _ _ h => h
  case hw9x10 => rfl
  case hy9x10 => ((intro w hSw; (try dsimp only at hSw); go_simp) <;> (with_reducible rfl))
  try simp only [Act.put, List.setIfInBounds_toArray, List.set_cons_zero, List.set_cons_succ]
  as_aux_lemma =>
    refine wpAnyH_ready (rs := [10, 11]) (by kernel_rfl) (by simp) ?_
    refine AllReadyH.cons (o := ?o10y103) ?ho10y103 (fun KK hKK => ?st10y103) (AllReadyH.cons (o := ?o11y103) ?ho11y103 (fun KK hKK => ?st11y103) (AllReadyH.nil))
    case ho10y103 => (simp only [List.getElem?_toArray, List.getElem?_cons_succ, List.getElem?_cons_zero]; exact rfl)
    case ho11y103 => (simp only [List.getElem?_toArray, List.getElem?_cons_succ, List.getElem?_cons_zero]; exact rfl)
    case st10y103 =>
      have hV := hHeld
      refine step_alFlt ?_
      have hz10 := hS2 _ _ hHeld (Below.one wv (.cells #[.int .i64 0, .int .i64 0] 65))
      refine hKK.out _ _ hz10 (fun hHeld => ?_)
      clear hKK KK
      try simp only [Act.put, List.setIfInBounds_toArray, List.set_cons_zero, List.set_cons_succ]
      refine wpAnyH_ready (rs := [11]) (by kernel_rfl) (by simp) ?_
      refine AllReadyH.cons (o := ?o11y56) ?ho11y56 (fun KK hKK => ?st11y56) (AllReadyH.nil)
      case ho11y56 => (simp only [List.getElem?_toArray, List.getElem?_cons_succ, List.getElem?_cons_zero]; exact rfl)
      refine step_alFlt ?_
      have hz11 := hS2 _ _ hHeld (Below.one (wv.alloc (.cells #[.int .i64 0, .int .i64 0] 65)) (.cells #[.int .i64 0, .int .i64 0] 65))
      refine hKK.out _ _ hz11 (fun hHeld => ?_)
      clear hKK KK
      try simp only [Act.put, List.setIfInBounds_toArray, List.set_cons_zero, List.set_cons_succ]
      have bA := (Blk.new wv 65 #[.int .i64 0, .int .i64 0]).alloc (.cells #[.int .i64 0, .int .i64 0] 65)
      have bB := Blk.new (wv.alloc (.cells #[.int .i64 0, .int .i64 0] 65)) 65 #[.int .i64 0, .int .i64 0]
      have hne : wv.heap.size ≠ (wv.alloc (.cells #[.int .i64 0, .int .i64 0] 65)).heap.size := by simp
      have kA := (Below.one wv (.cells #[.int .i64 0, .int .i64 0] 65)).trans ((Below.one (wv.alloc (.cells #[.int .i64 0, .int .i64 0] 65)) (.cells #[.int .i64 0, .int .i64 0] 65)).mono (Below.one wv _).size)
      refine wpAnyH_ready (rs := [12]) (by kernel_rfl) (by simp) ?_
      refine AllReadyH.cons (o := ?o12y55) ?ho12y55 (fun KK hKK => ?st12y55) (AllReadyH.nil)
      case ho12y55 => (simp only [List.getElem?_toArray, List.getElem?_cons_succ, List.getElem?_cons_zero]; exact rfl)
      refine step_stFlt (g := wv.heap.size) (p := a.n) (q := a.x) (by simp only [List.getElem?_toArray, List.getElem?_cons_succ, List.getElem?_cons_zero, Option.getD_some]) (by simp only [List.getElem?_toArray, List.getElem?_cons_succ, List.getElem?_cons_zero, Option.getD_some]) bA ?_
      have kB := (kA.setCell (p := ⟨wv.heap.size, 0, none⟩) (by first | exact Nat.le_refl _ | exact (Below.one wv _).size) (.int .i64 a.n)).setCell (p := ⟨wv.heap.size, 1, none⟩) (by first | exact Nat.le_refl _ | exact (Below.one wv _).size) (.int .i64 a.x)
      have hy := hS2 _ _ hV kB
      refine hKK.out _ _ hy (fun hHeld => ?_)
      clear hKK KK
      try simp only [Act.put, List.setIfInBounds_toArray, List.set_cons_zero, List.set_cons_succ]
      refine wpAnyH_ready (rs := [13]) (by kernel_rfl) (by simp) ?_
      refine AllReadyH.cons (o := ?o13y54) ?ho13y54 (fun KK hKK => ?st13y54) (AllReadyH.nil)
      case ho13y54 => (simp only [List.getElem?_toArray, List.getElem?_cons_succ, List.getElem?_cons_zero]; exact rfl)
      have bC := (bB.far (p := ⟨wv.heap.size, 0, none⟩) (by first | exact hne | exact hne.symm) (.int .i64 a.n)).far (p := ⟨wv.heap.size, 1, none⟩) (by first | exact hne | exact hne.symm) (.int .i64 a.x)
      refine step_stFlt (g := (wv.alloc (.cells #[.int .i64 0, .int .i64 0] 65)).heap.size) (p := b.n) (q := b.x) (by simp only [List.getElem?_toArray, List.getElem?_cons_succ, List.getElem?_cons_zero, Option.getD_some]) (by simp only [List.getElem?_toArray, List.getElem?_cons_succ, List.getElem?_cons_zero, Option.getD_some]) bC ?_
      have kC := (kB.setCell (p := ⟨(wv.alloc (.cells #[.int .i64 0, .int .i64 0] 65)).heap.size, 0, none⟩) (by first | exact Nat.le_refl _ | exact (Below.one wv _).size) (.int .i64 b.n)).setCell (p := ⟨(wv.alloc (.cells #[.int .i64 0, .int .i64 0] 65)).heap.size, 1, none⟩) (by first | exact Nat.le_refl _ | exact (Below.one wv _).size) (.int .i64 b.x)
      have hy2 := hS2 _ _ hV kC
      refine hKK.out _ _ hy2 (fun hHeld => ?_)
      clear hKK KK
      try simp only [Act.put, List.setIfInBounds_toArray, List.set_cons_zero, List.set_cons_succ]
      refine wpAnyH_done (by kernel_rfl) ?_ _
      refine NoPanic.normal ?_
      refine gen_then (fun w' => (BoxV w' w.heap.size a ea ∧ BoxV w' (w.heap.size + 1) b eb) ∧ Below w.heap.size w w') hHeld (fun wg hg => ?_)
      clear hHeld hS2 hV
      obtain ⟨⟨⟨p0, p1, p2, p3, p4⟩, r0, r1, r2, r3, r4⟩, kg⟩ := hg
      go_upto_region 4 with fail
      have hg : (BoxV wg w.heap.size a ea ∧ BoxV wg (w.heap.size + 1) b eb) ∧ Below w.heap.size w wg := ⟨⟨⟨p0, p1, p2, p3, p4⟩, r0, r1, r2, r3, r4⟩, kg⟩
      clear p0 p1 p2 p3 p4 r0 r1 r2 r3 r4 kg
      have hS2 := fun (w' w'' : World) (h : (BoxV w' w.heap.size a ea ∧ BoxV w' (w.heap.size + 1) b eb) ∧ Below w.heap.size w w') (hb : Below w'.heap.size w' w'') => (show (BoxV w'' w.heap.size a ea ∧ BoxV w'' (w.heap.size + 1) b eb) ∧ Below w.heap.size w w'' from ⟨⟨boxV_bel h.1.1 hb, boxV_bel h.1.2 hb⟩, h.2.up hb⟩)
      refine wp_region_noPanic ?_
      refine wp_region_held_drew (S := fun w' => (BoxV w' w.heap.size a ea ∧ BoxV w' (w.heap.size + 1) b eb) ∧ Below w.heap.size w w') (by kernel_rfl) (hS2 _ _ hg (Below.refl _ _).drew) (fun hHeld => ?_)
      generalize wg.drew = wv at hHeld ⊢
      clear hg
      refine wpAnyH_take (i := 0) (oi := ?oi0x11) (v := ?vv0x11) ?hi0x11 (by kernel_rfl) (by kernel_rfl) (by kernel_rfl) ?hQ0x11 (Or.inl ⟨?hw0x11, ?hy0x11⟩) hHeld ?rest0x11
      case hi0x11 => (simp only [List.getElem?_toArray, List.getElem?_cons_succ, List.getElem?_cons_zero]; exact rfl)
      case hQ0x11 => exact fun _ _ _ h => h
      case hw0x11 => rfl
      case hy0x11 => ((intro w hSw; (try dsimp only at hSw); go_simp) <;> (with_reducible rfl))
      try simp only [Act.put, List.setIfInBounds_toArray, List.set_cons_zero, List.set_cons_succ]
      refine wpAnyH_take (i := 1) (oi := ?oi1x12) (v := ?vv1x12) ?hi1x12 (by kernel_rfl) (by kernel_rfl) (by kernel_rfl) ?hQ1x12 (Or.inl ⟨?hw1x12, ?hy1x12⟩) hHeld ?rest1x12
      case hi1x12 => (simp only [List.getElem?_toArray, List.getElem?_cons_succ, List.getElem?_cons_zero]; exact rfl)
      case hQ1x12 => exact fun _ _ _ h => h
      case hw1x12 => rfl
      case hy1x12 => ((intro w hSw; (try dsimp only at hSw); go_simp) <;> (with_reducible rfl))
      try simp only [Act.put, List.setIfInBounds_toArray, List.set_cons_zero, List.set_cons_succ]
      refine wpAnyH_take (i := 2) (oi := ?oi2x13) (v := ?vv2x13) ?hi2x13 (by kernel_rfl) (by kernel_rfl) (by kernel_rfl) ?hQ2x13 (Or.inl ⟨?hw2x13, ?hy2x13⟩) hHeld ?rest2x13
      case hi2x13 => (simp only [List.getElem?_toArray, List.getElem?_cons_succ, List.getElem?_cons_zero]; exact rfl)
      case hQ2x13 => exact fun _ _ _ h => h
      case hw2x13 => rfl
      case hy2x13 => ((intro w hSw; (try dsimp only at hSw); go_simp) <;> (with_reducible rfl))
      try simp only [Act.put, List.setIfInBounds_toArray, List.set_cons_zero, List.set_cons_succ]
      refine wpAnyH_take (i := 3) (oi := ?oi3x14) (v := ?vv3x14) ?hi3x14 (by kernel_rfl) (by kernel_rfl) (by kernel_rfl) ?hQ3x14 (Or.inl ⟨?hw3x14, ?hy3x14⟩) hHeld ?rest3x14
      case hi3x14 => (simp only [List.getElem?_toArray, List.getElem?_cons_succ, List.getElem?_cons_zero]; exact rfl)
      case hQ3x14 => exact fun _ _ _ h => h
      case hw3x14 => rfl
      case hy3x14 => ((intro w hSw; (try dsimp only at hSw); go_simp) <;> (with_reducible rfl))
      try simp only [Act.put, List.setIfInBounds_toArray, List.set_cons_zero, List.set_cons_succ]
      refine wpAnyH_take (i := 4) (oi := ?oi4x15) (v := ?vv4x15) ?hi4x15 (by kernel_rfl) (by kernel_rfl) (by kernel_rfl) ?hQ4x15 (Or.inl ⟨?hw4x15, ?hy4x15⟩) hHeld ?rest4x15
      case hi4x15 => (simp only [List.getElem?_toArray, List.getElem?_cons_succ, List.getElem?_cons_zero]; exact rfl)
      case hQ4x15 => exact fun _ _ _ h => h
      case hw4x15 => rfl
      case hy4x15 => ((intro w hSw; (try dsimp only at hSw); go_simp) <;> (with_reducible rfl))
      try simp only [Act.put, List.setIfInBounds_toArray, List.set_cons_zero, List.set_cons_succ]
      refine wpAnyH_take (i := 5) (oi := ?oi5x16) (v := ?vv5x16) ?hi5x16 (by kernel_rfl) (by kernel_rfl) (by kernel_rfl) ?hQ5x16 (Or.inl ⟨?hw5x16, ?hy5x16⟩) hHeld ?rest5x16
      case hi5x16 => (simp only [List.getElem?_toArray, List.getElem?_cons_succ, List.getElem?_cons_zero]; exact rfl)
      case hQ5x16 => exact fun _ _ _ h => h
      case hw5x16 => rfl
      case hy5x16 => ((intro w hSw; (try dsimp only at hSw); go_simp) <;> (with_reducible rfl))
      try simp only [Act.put, List.setIfInBounds_toArray, List.set_cons_zero, List.set_cons_succ]
      refine wpAnyH_take (i := 6) (oi := ?oi6x17) (v := ?vv6x17) ?hi6x17 (by kernel_rfl) (by kernel_rfl) (by kernel_rfl) ?hQ6x17 (Or.inl ⟨?hw6x17, ?hy6x17⟩) hHeld ?rest6x17
      case hi6x17 => (simp only [List.getElem?_toArray, List.getElem?_cons_succ, List.getElem?_cons_zero]; exact rfl)
      case hQ6x17 => exact fun _ _ _ h => h
      case hw6x17 => rfl
      case hy6x17 => ((intro w hSw; (try dsimp only at hSw); go_simp) <;> (with_reducible rfl))
      try simp only [Act.put, List.setIfInBounds_toArray, List.set_cons_zero, List.set_cons_succ]
      refine wpAnyH_take (i := 7) (oi := ?oi7x18) (v := ?vv7x18) ?hi7x18 (by kernel_rfl) (by kernel_rfl) (by kernel_rfl) ?hQ7x18 (Or.inl ⟨?hw7x18, ?hy7x18⟩) hHeld ?rest7x18
      case hi7x18 => (simp only [List.getElem?_toArray, List.getElem?_cons_succ, List.getElem?_cons_zero]; exact rfl)
      case hQ7x18 => exact fun _ _ _ h => h
      case hw7x18 => rfl
      case hy7x18 => ((intro w hSw; (try dsimp only at hSw); go_simp) <;> (with_reducible rfl))
      try simp only [Act.put, List.setIfInBounds_toArray, List.set_cons_zero, List.set_cons_succ]
      refine wpAnyH_take (i := 8) (oi := ?oi8x19) (v := ?vv8x19) ?hi8x19 (by kernel_rfl) (by kernel_rfl) (by kernel_rfl) ?hQ8x19 (Or.inl ⟨?hw8x19, ?hy8x19⟩) hHeld ?rest8x19
      case hi8x19 => (simp only [List.getElem?_toArray, List.getElem?_cons_succ, List.getElem?_cons_zero]; exact rfl)
      case hQ8x19 => exact fun _ _ _ h => h
      case hw8x19 => rfl
      case hy8x19 => ((intro w hSw; (try dsimp only at hSw); go_simp) <;> (with_reducible rfl))
      try simp only [Act.put, List.setIfInBounds_toArray, List.set_cons_zero, List.set_cons_succ]
      refine wpAnyH_take (i := 9) (oi := ?oi9x20) (v := ?vv9x20) ?hi9x20 (by kernel_rfl) (by kernel_rfl) (by kernel_rfl) ?hQ9x20 (Or.inl ⟨?hw9x20, ?hy9x20⟩) hHeld ?rest9x20
      case hi9x20 => (simp only [List.getElem?_toArray, List.getElem?_cons_succ, List.getElem?_cons_zero]; exact rfl)
      case hQ9x20 => exact fun _ _ _ h => h
      case hw9x20 => rfl
      case hy9x20 => ((intro w hSw; (try dsimp only at hSw); go_simp) <;> (with_reducible rfl))
      try simp only [Act.put, List.setIfInBounds_toArray, List.set_cons_zero, List.set_cons_succ]
      as_aux_lemma =>
        refine wpAnyH_ready (rs := [10, 11]) (by kernel_rfl) (by simp) ?_
        refine AllReadyH.cons (o := ?o10y53) ?ho10y53 (fun KK hKK => ?st10y53) (AllReadyH.cons (o := ?o11y53) ?ho11y53 (fun KK hKK => ?st11y53) (AllReadyH.nil))
        case ho10y53 => (simp only [List.getElem?_toArray, List.getElem?_cons_succ, List.getElem?_cons_zero]; exact rfl)
        case ho11y53 => (simp only [List.getElem?_toArray, List.getElem?_cons_succ, List.getElem?_cons_zero]; exact rfl)
        case st10y53 =>
          have hV := hHeld
          refine step_alDec ?_
          have hz10 := hS2 _ _ hHeld (Below.one wv (.cells #[.int .i64 0, .int .i64 0] 75))
          refine hKK.out _ _ hz10 (fun hHeld => ?_)
          clear hKK KK
          try simp only [Act.put, List.setIfInBounds_toArray, List.set_cons_zero, List.set_cons_succ]
          refine wpAnyH_ready (rs := [11]) (by kernel_rfl) (by simp) ?_
          refine AllReadyH.cons (o := ?o11y36) ?ho11y36 (fun KK hKK => ?st11y36) (AllReadyH.nil)
          case ho11y36 => (simp only [List.getElem?_toArray, List.getElem?_cons_succ, List.getElem?_cons_zero]; exact rfl)
          refine step_alDec ?_
          have hz11 := hS2 _ _ hHeld (Below.one (wv.alloc (.cells #[.int .i64 0, .int .i64 0] 75)) (.cells #[.int .i64 0, .int .i64 0] 75))
          refine hKK.out _ _ hz11 (fun hHeld => ?_)
          clear hKK KK
          try simp only [Act.put, List.setIfInBounds_toArray, List.set_cons_zero, List.set_cons_succ]
          have bA := (Blk.new wv 75 #[.int .i64 0, .int .i64 0]).alloc (.cells #[.int .i64 0, .int .i64 0] 75)
          have bB := Blk.new (wv.alloc (.cells #[.int .i64 0, .int .i64 0] 75)) 75 #[.int .i64 0, .int .i64 0]
          have hne : wv.heap.size ≠ (wv.alloc (.cells #[.int .i64 0, .int .i64 0] 75)).heap.size := by simp
          have kA := (Below.one wv (.cells #[.int .i64 0, .int .i64 0] 75)).trans ((Below.one (wv.alloc (.cells #[.int .i64 0, .int .i64 0] 75)) (.cells #[.int .i64 0, .int .i64 0] 75)).mono (Below.one wv _).size)
          refine wpAnyH_ready (rs := [12]) (by kernel_rfl) (by simp) ?_
          refine AllReadyH.cons (o := ?o12y35) ?ho12y35 (fun KK hKK => ?st12y35) (AllReadyH.nil)
          case ho12y35 => (simp only [List.getElem?_toArray, List.getElem?_cons_succ, List.getElem?_cons_zero]; exact rfl)
          refine step_stDec (g := wv.heap.size) (p := a.n) (q := a.x) (by simp only [List.getElem?_toArray, List.getElem?_cons_succ, List.getElem?_cons_zero, Option.getD_some]) (by simp only [List.getElem?_toArray, List.getElem?_cons_succ, List.getElem?_cons_zero, Option.getD_some]) bA ?_
          have kB := (kA.setCell (p := ⟨wv.heap.size, 0, none⟩) (by first | exact Nat.le_refl _ | exact (Below.one wv _).size) (.int .i64 a.n)).setCell (p := ⟨wv.heap.size, 1, none⟩) (by first | exact Nat.le_refl _ | exact (Below.one wv _).size) (.int .i64 a.x)
          have hy := hS2 _ _ hV kB
          refine hKK.out _ _ hy (fun hHeld => ?_)
          clear hKK KK
          try simp only [Act.put, List.setIfInBounds_toArray, List.set_cons_zero, List.set_cons_succ]
          refine wpAnyH_ready (rs := [13]) (by kernel_rfl) (by simp) ?_
          refine AllReadyH.cons (o := ?o13y34) ?ho13y34 (fun KK hKK => ?st13y34) (AllReadyH.nil)
          case ho13y34 => (simp only [List.getElem?_toArray, List.getElem?_cons_succ, List.getElem?_cons_zero]; exact rfl)
          have bC := (bB.far (p := ⟨wv.heap.size, 0, none⟩) (by first | exact hne | exact hne.symm) (.int .i64 a.n)).far (p := ⟨wv.heap.size, 1, none⟩) (by first | exact hne | exact hne.symm) (.int .i64 a.x)
          refine step_stDec (g := (wv.alloc (.cells #[.int .i64 0, .int .i64 0] 75)).heap.size) (p := b.n) (q := b.x) (by simp only [List.getElem?_toArray, List.getElem?_cons_succ, List.getElem?_cons_zero, Option.getD_some]) (by simp only [List.getElem?_toArray, List.getElem?_cons_succ, List.getElem?_cons_zero, Option.getD_some]) bC ?_
          have kC := (kB.setCell (p := ⟨(wv.alloc (.cells #[.int .i64 0, .int .i64 0] 75)).heap.size, 0, none⟩) (by first | exact Nat.le_refl _ | exact (Below.one wv _).size) (.int .i64 b.n)).setCell (p := ⟨(wv.alloc (.cells #[.int .i64 0, .int .i64 0] 75)).heap.size, 1, none⟩) (by first | exact Nat.le_refl _ | exact (Below.one wv _).size) (.int .i64 b.x)
          have hy2 := hS2 _ _ hV kC
          refine hKK.out _ _ hy2 (fun hHeld => ?_)
          clear hKK KK
          try simp only [Act.put, List.setIfInBounds_toArray, List.set_cons_zero, List.set_cons_succ]
          refine wpAnyH_done (by kernel_rfl) ?_ _
          refine NoPanic.normal ?_
          refine gen_then (fun w' => (BoxV w' w.heap.size a ea ∧ BoxV w' (w.heap.size + 1) b eb) ∧ Below w.heap.size w w') hHeld (fun wg hg => ?_)
          clear hHeld hS2 hV
          obtain ⟨⟨⟨p0, p1, p2, p3, p4⟩, r0, r1, r2, r3, r4⟩, kg⟩ := hg
          go_upto_region 7 with fail
          have hg : (BoxV wg w.heap.size a ea ∧ BoxV wg (w.heap.size + 1) b eb) ∧ Below w.heap.size w wg := ⟨⟨⟨p0, p1, p2, p3, p4⟩, r0, r1, r2, r3, r4⟩, kg⟩
          clear p0 p1 p2 p3 p4 r0 r1 r2 r3 r4 kg
          have hS2 := fun (w' w'' : World) (h : (BoxV w' w.heap.size a ea ∧ BoxV w' (w.heap.size + 1) b eb) ∧ Below w.heap.size w w') (hb : Below w'.heap.size w' w'') => (show (BoxV w'' w.heap.size a ea ∧ BoxV w'' (w.heap.size + 1) b eb) ∧ Below w.heap.size w w'' from ⟨⟨boxV_bel h.1.1 hb, boxV_bel h.1.2 hb⟩, h.2.up hb⟩)
          refine wp_region_noPanic ?_
          refine wp_region_held_drew (S := fun w' => (BoxV w' w.heap.size a ea ∧ BoxV w' (w.heap.size + 1) b eb) ∧ Below w.heap.size w w') (by kernel_rfl) (hS2 _ _ hg (Below.refl _ _).drew) (fun hHeld => ?_)
          generalize wg.drew = wv at hHeld ⊢
          clear hg
          refine wpAnyH_take (i := 0) (oi := ?oi0x21) (v := ?vv0x21) ?hi0x21 (by kernel_rfl) (by kernel_rfl) (by kernel_rfl) ?hQ0x21 (Or.inl ⟨?hw0x21, ?hy0x21⟩) hHeld ?rest0x21
          case hi0x21 => (simp only [List.getElem?_toArray, List.getElem?_cons_succ, List.getElem?_cons_zero]; exact rfl)
          case hQ0x21 => exact fun _ _ _ h => h
          case hw0x21 => rfl
          case hy0x21 => ((intro w hSw; (try dsimp only at hSw); go_simp) <;> (with_reducible rfl))
          try simp only [Act.put, List.setIfInBounds_toArray, List.set_cons_zero, List.set_cons_succ]
          refine wpAnyH_take (i := 1) (oi := ?oi1x22) (v := ?vv1x22) ?hi1x22 (by kernel_rfl) (by kernel_rfl) (by kernel_rfl) ?hQ1x22 (Or.inl ⟨?hw1x22, ?hy1x22⟩) hHeld ?rest1x22
          case hi1x22 => (simp only [List.getElem?_toArray, List.getElem?_cons_succ, List.getElem?_cons_zero]; exact rfl)
          case hQ1x22 => exact fun _ _ _ h => h
          case hw1x22 => rfl
          case hy1x22 => ((intro w hSw; (try dsimp only at hSw); go_simp) <;> (with_reducible rfl))
          try simp only [Act.put, List.setIfInBounds_toArray, List.set_cons_zero, List.set_cons_succ]
          refine wpAnyH_take (i := 2) (oi := ?oi2x23) (v := ?vv2x23) ?hi2x23 (by kernel_rfl) (by kernel_rfl) (by kernel_rfl) ?hQ2x23 (Or.inl ⟨?hw2x23, ?hy2x23⟩) hHeld ?rest2x23
          case hi2x23 => (simp only [List.getElem?_toArray, List.getElem?_cons_succ, List.getElem?_cons_zero]; exact rfl)
          case hQ2x23 => exact fun _ _ _ h => h
          case hw2x23 => rfl
          case hy2x23 => ((intro w hSw; (try dsimp only at hSw); go_simp) <;> (with_reducible rfl))
          try simp only [Act.put, List.setIfInBounds_toArray, List.set_cons_zero, List.set_cons_succ]
          refine wpAnyH_take (i := 3) (oi := ?oi3x24) (v := ?vv3x24) ?hi3x24 (by kernel_rfl) (by kernel_rfl) (by kernel_rfl) ?hQ3x24 (Or.inl ⟨?hw3x24, ?hy3x24⟩) hHeld ?rest3x24
          case hi3x24 => (simp only [List.getElem?_toArray, List.getElem?_cons_succ, List.getElem?_cons_zero]; exact rfl)
          case hQ3x24 => exact fun _ _ _ h => h
          case hw3x24 => rfl
          case hy3x24 => ((intro w hSw; (try dsimp only at hSw); go_simp) <;> (with_reducible rfl))
          try simp only [Act.put, List.setIfInBounds_toArray, List.set_cons_zero, List.set_cons_succ]
          refine wpAnyH_take (i := 5) (oi := ?oi5x25) (v := ?vv5x25) ?hi5x25 (by kernel_rfl) (by kernel_rfl) (by kernel_rfl) ?hQ5x25 (Or.inl ⟨?hw5x25, ?hy5x25⟩) hHeld ?rest5x25
          case hi5x25 => (simp only [List.getElem?_toArray, List.getElem?_cons_succ, List.getElem?_cons_zero]; exact rfl)
          case hQ5x25 => exact fun _ _ _ h => h
          case hw5x25 => rfl
          case hy5x25 => ((intro w hSw; (try dsimp only at hSw); go_simp) <;> (with_reducible rfl))
          try simp only [Act.put, List.setIfInBounds_toArray, List.set_cons_zero, List.set_cons_succ]
          refine wpAnyH_take (i := 6) (oi := ?oi6x26) (v := ?vv6x26) ?hi6x26 (by kernel_rfl) (by kernel_rfl) (by kernel_rfl) ?hQ6x26 (Or.inl ⟨?hw6x26, ?hy6x26⟩) hHeld ?rest6x26
          case hi6x26 => (simp only [List.getElem?_toArray, List.getElem?_cons_succ, List.getElem?_cons_zero]; exact rfl)
          case hQ6x26 => exact fun _ _ _ h => h
          case hw6x26 => rfl
          case hy6x26 => ((intro w hSw; (try dsimp only at hSw); go_simp) <;> (with_reducible rfl))
          try simp only [Act.put, List.setIfInBounds_toArray, List.set_cons_zero, List.set_cons_succ]
          refine wpAnyH_take (i := 7) (oi := ?oi7x27) (v := ?vv7x27) ?hi7x27 (by kernel_rfl) (by kernel_rfl) (by kernel_rfl) ?hQ7x27 (Or.inl ⟨?hw7x27, ?hy7x27⟩) hHeld ?rest7x27
          case hi7x27 => (simp only [List.getElem?_toArray, List.getElem?_cons_succ, List.getElem?_cons_zero]; exact rfl)
          case hQ7x27 => exact fun _ _ _ h => h
          case hw7x27 => rfl
          case hy7x27 => ((intro w hSw; (try dsimp only at hSw); go_simp) <;> (with_reducible rfl))
          try simp only [Act.put, List.setIfInBounds_toArray, List.set_cons_zero, List.set_cons_succ]
          refine wpAnyH_take (i := 8) (oi := ?oi8x28) (v := ?vv8x28) ?hi8x28 (by kernel_rfl) (by kernel_rfl) (by kernel_rfl) ?hQ8x28 (Or.inl ⟨?hw8x28, ?hy8x28⟩) hHeld ?rest8x28
          case hi8x28 => (simp only [List.getElem?_toArray, List.getElem?_cons_succ, List.getElem?_cons_zero]; exact rfl)
          case hQ8x28 => exact fun _ _ _ h => h
          case hw8x28 => rfl
          case hy8x28 => ((intro w hSw; (try dsimp only at hSw); go_simp) <;> (with_reducible rfl))
          try simp only [Act.put, List.setIfInBounds_toArray, List.set_cons_zero, List.set_cons_succ]
          refine wpAnyH_ready (rs := [4]) (by kernel_rfl) (by simp) ?_
          refine AllReadyH.cons (o := ?o4y33) ?ho4y33 (fun KK hKK => ?st4y33) (AllReadyH.nil)
          case ho4y33 => (simp only [List.getElem?_toArray, List.getElem?_cons_succ, List.getElem?_cons_zero]; exact rfl)
          rw [if_pos (by rfl)]
          go_simp
          go_at_call 67
          refine (Tryz.cmp_Compare_int _ _ _).mono ?_; rintro r wa ⟨rfl, rfl⟩
          refine hKK.out _ _ hHeld (fun hHeld => ?_)
          clear hKK KK
          try simp only [Act.put, List.setIfInBounds_toArray, List.set_cons_zero, List.set_cons_succ]
          refine wpAnyH_ready (rs := [9]) (by kernel_rfl) (by simp) ?_
          refine AllReadyH.cons (o := ?o9y32) ?ho9y32 (fun KK hKK => ?st9y32) (AllReadyH.nil)
          case ho9y32 => (simp only [List.getElem?_toArray, List.getElem?_cons_succ, List.getElem?_cons_zero]; exact rfl)
          rw [if_pos (by rfl)]
          go_simp
          go_at_call 67
          refine (Tryz.cmp_Compare_int _ _ _).mono ?_; rintro r wa ⟨rfl, rfl⟩
          refine hKK.out _ _ hHeld (fun hHeld => ?_)
          clear hKK KK
          try simp only [Act.put, List.setIfInBounds_toArray, List.set_cons_zero, List.set_cons_succ]
          refine wpAnyH_ready (rs := [10]) (by kernel_rfl) (by simp) ?_
          refine AllReadyH.cons (o := ?o10y31) ?ho10y31 (fun KK hKK => ?st10y31) (AllReadyH.nil)
          case ho10y31 => (simp only [List.getElem?_toArray, List.getElem?_cons_succ, List.getElem?_cons_zero]; exact rfl)
          refine step_bI2 (p := Lib.compareInt a.n b.n) (q := Lib.compareInt a.x b.x) (by simp only [List.getElem?_toArray, List.getElem?_cons_succ, List.getElem?_cons_zero, Option.getD_some]) (by simp only [List.getElem?_toArray, List.getElem?_cons_succ, List.getElem?_cons_zero, Option.getD_some]) ?_
          have hz := hS2 _ _ hHeld (Below.one _ (.cells #[.int .i64 (Lib.compareInt a.n b.n), .int .i64 (Lib.compareInt a.x b.x)] 3))
          refine hKK.out _ _ hz (fun hHeld => ?_)
          clear hKK KK
          try simp only [Act.put, List.setIfInBounds_toArray, List.set_cons_zero, List.set_cons_succ]
          refine wpAnyH_ready (rs := [11]) (by kernel_rfl) (by simp) ?_
          refine AllReadyH.cons (o := ?o11y30) ?ho11y30 (fun KK hKK => ?st11y30) (AllReadyH.nil)
          case ho11y30 => (simp only [List.getElem?_toArray, List.getElem?_cons_succ, List.getElem?_cons_zero]; exact rfl)
          rw [if_pos (by rfl)]
          go_simp
          go_at_call 68
          refine (g_Or2 _ _ _ _ _ (Blk.new _ _ _)).mono ?_; rintro r wb ⟨rfl, rfl⟩
          refine hKK.out _ _ hHeld (fun hHeld => ?_)
          clear hKK KK
          try simp only [Act.put, List.setIfInBounds_toArray, List.set_cons_zero, List.set_cons_succ]
          refine wpAnyH_take (i := 12) (oi := ?oi12x29) (v := ?vv12x29) ?hi12x29 (by kernel_rfl) (by kernel_rfl) (by kernel_rfl) ?hQ12x29 (Or.inl ⟨?hw12x29, ?hy12x29⟩) hHeld ?rest12x29
          case hi12x29 => (simp only [List.getElem?_toArray, List.getElem?_cons_succ, List.getElem?_cons_zero]; exact rfl)
          case hQ12x29 => exact fun _ _ _ h => h
          case hw12x29 => rfl
          case hy12x29 => ((intro w hSw; (try dsimp only at hSw); go_simp) <;> (with_reducible rfl))
          try simp only [Act.put, List.setIfInBounds_toArray, List.set_cons_zero, List.set_cons_succ]
          refine wpAnyH_done (by kernel_rfl) ?_ _
          refine NoPanic.normal ?_
          have kR := hHeld.2
          clear hHeld hS2
          go_wp2_with fail
          go_ret
          exact ⟨rfl, kR⟩
        case st11y53 =>
          have hV := hHeld
          refine step_alDec ?_
          have hz11 := hS2 _ _ hHeld (Below.one wv (.cells #[.int .i64 0, .int .i64 0] 75))
          refine hKK.out _ _ hz11 (fun hHeld => ?_)
          clear hKK KK
          try simp only [Act.put, List.setIfInBounds_toArray, List.set_cons_zero, List.set_cons_succ]
          refine wpAnyH_ready (rs := [10]) (by kernel_rfl) (by simp) ?_
          refine AllReadyH.cons (o := ?o10y52) ?ho10y52 (fun KK hKK => ?st10y52) (AllReadyH.nil)
          case ho10y52 => (simp only [List.getElem?_toArray, List.getElem?_cons_succ, List.getElem?_cons_zero]; exact rfl)
          refine step_alDec ?_
          have hz10 := hS2 _ _ hHeld (Below.one (wv.alloc (.cells #[.int .i64 0, .int .i64 0] 75)) (.cells #[.int .i64 0, .int .i64 0] 75))
          refine hKK.out _ _ hz10 (fun hHeld => ?_)
          clear hKK KK
          try simp only [Act.put, List.setIfInBounds_toArray, List.set_cons_zero, List.set_cons_succ]
          have bA := (Blk.new wv 75 #[.int .i64 0, .int .i64 0]).alloc (.cells #[.int .i64 0, .int .i64 0] 75)
          have bB := Blk.new (wv.alloc (.cells #[.int .i64 0, .int .i64 0] 75)) 75 #[.int .i64 0, .int .i64 0]
          have hne : wv.heap.size ≠ (wv.alloc (.cells #[.int .i64 0, .int .i64 0] 75)).heap.size := by simp
          have kA := (Below.one wv (.cells #[.int .i64 0, .int .i64 0] 75)).trans ((Below.one (wv.alloc (.cells #[.int .i64 0, .int .i64 0] 75)) (.cells #[.int .i64 0, .int .i64 0] 75)).mono (Below.one wv _).size)
          refine wpAnyH_ready (rs := [12]) (by kernel_rfl) (by simp) ?_
          refine AllReadyH.cons (o := ?o12y51) ?ho12y51 (fun KK hKK => ?st12y51) (AllReadyH.nil)
          case ho12y51 => (simp only [List.getElem?_toArray, List.getElem?_cons_succ, List.getElem?_cons_zero]; exact rfl)
          refine step_stDec (g := (wv.alloc (.cells #[.int .i64 0, .int .i64 0] 75)).heap.size) (p := a.n) (q := a.x) (by simp only [List.getElem?_toArray, List.getElem?_cons_succ, List.getElem?_cons_zero, Option.getD_some]) (by simp only [List.getElem?_toArray, List.getElem?_cons_succ, List.getElem?_cons_zero, Option.getD_some]) bB ?_
          have kB := (kA.setCell (p := ⟨(wv.alloc (.cells #[.int .i64 0, .int .i64 0] 75)).heap.size, 0, none⟩) (by first | exact Nat.le_refl _ | exact (Below.one wv _).size) (.int .i64 a.n)).setCell (p := ⟨(wv.alloc (.cells #[.int .i64 0, .int .i64 0] 75)).heap.size, 1, none⟩) (by first | exact Nat.le_refl _ | exact (Below.one wv _).size) (.int .i64 a.x)
          have hy := hS2 _ _ hV kB
          refine hKK.out _ _ hy (fun hHeld => ?_)
          clear hKK KK
          try simp only [Act.put, List.setIfInBounds_toArray, List.set_cons_zero, List.set_cons_succ]
          refine wpAnyH_ready (rs := [13]) (by kernel_rfl) (by simp) ?_
          refine AllReadyH.cons (o := ?o13y50) ?ho13y50 (fun KK hKK => ?st13y50) (AllReadyH.nil)
          case ho13y50 => (simp only [List.getElem?_toArray, List.getElem?_cons_succ, List.getElem?_cons_zero]; exact rfl)
          have bC := (bA.far (p := ⟨(wv.alloc (.cells #[.int .i64 0, .int .i64 0] 75)).heap.size, 0, none⟩) (by first | exact hne | exact hne.symm) (.int .i64 a.n)).far (p := ⟨(wv.alloc (.cells #[.int .i64 0, .int .i64 0] 75)).heap.size, 1, none⟩) (by first | exact hne | exact hne.symm) (.int .i64 a.x)
          refine step_stDec (g := wv.heap.size) (p := b.n) (q := b.x) (by simp only [List.getElem?_toArray, List.getElem?_cons_succ, List.getElem?_cons_zero, Option.getD_some]) (by simp only [List.getElem?_toArray, List.getElem?_cons_succ, List.getElem?_cons_zero, Option.getD_some]) bC ?_
          have kC := (kB.setCell (p := ⟨wv.heap.size, 0, none⟩) (by first | exact Nat.le_refl _ | exact (Below.one wv _).size) (.int .i64 b.n)).setCell (p := ⟨wv.heap.size, 1, none⟩) (by first | exact Nat.le_refl _ | exact (Below.one wv _).size) (.int .i64 b.x)
          have hy2 := hS2 _ _ hV kC
          refine hKK.out _ _ hy2 (fun hHeld => ?_)
          clear hKK KK
          try simp only [Act.put, List.setIfInBounds_toArray, List.set_cons_zero, List.set_cons_succ]
          refine wpAnyH_done (by kernel_rfl) ?_ _
          refine NoPanic.normal ?_
          refine gen_then (fun w' => (BoxV w' w.heap.size a ea ∧ BoxV w' (w.heap.size + 1) b eb) ∧ Below w.heap.size w w') hHeld (fun wg hg => ?_)
          clear hHeld hS2 hV
          obtain ⟨⟨⟨p0, p1, p2, p3, p4⟩, r0, r1, r2, r3, r4⟩, kg⟩ := hg
          go_upto_region 7 with fail
          have hg : (BoxV wg w.heap.size a ea ∧ BoxV wg (w.heap.size + 1) b eb) ∧ Below w.heap.size w wg := ⟨⟨⟨p0, p1, p2, p3, p4⟩, r0, r1, r2, r3, r4⟩, kg⟩
          clear p0 p1 p2 p3 p4 r0 r1 r2 r3 r4 kg
          have hS2 := fun (w' w'' : World) (h : (BoxV w' w.heap.size a ea ∧ BoxV w' (w.heap.size + 1) b eb) ∧ Below w.heap.size w w') (hb : Below w'.heap.size w' w'') => (show (BoxV w'' w.heap.size a ea ∧ BoxV w'' (w.heap.size + 1) b eb) ∧ Below w.heap.size w w'' from ⟨⟨boxV_bel h.1.1 hb, boxV_bel h.1.2 hb⟩, h.2.up hb⟩)
          refine wp_region_noPanic ?_
          refine wp_region_held_drew (S := fun w' => (BoxV w' w.heap.size a ea ∧ BoxV w' (w.heap.size + 1) b eb) ∧ Below w.heap.size w w') (by kernel_rfl) (hS2 _ _ hg (Below.refl _ _).drew) (fun hHeld => ?_)
          generalize wg.drew = wv at hHeld ⊢
          clear hg
          refine wpAnyH_take (i := 0) (oi := ?oi0x37) (v := ?vv0x37) ?hi0x37 (by kernel_rfl) (by kernel_rfl) (by kernel_rfl) ?hQ0x37 (Or.inl ⟨?hw0x37, ?hy0x37⟩) hHeld ?rest0x37
          case hi0x37 => (simp only [List.getElem?_toArray, List.getElem?_cons_succ, List.getElem?_cons_zero]; exact rfl)
          case hQ0x37 => exact fun _ _ _ h => h
          case hw0x37 => rfl
          case hy0x37 => ((intro w hSw; (try dsimp only at hSw); go_simp) <;> (with_reducible rfl))
          try simp only [Act.put, List.setIfInBounds_toArray, List.set_cons_zero, List.set_cons_succ]
          refine wpAnyH_take (i := 1) (oi := ?oi1x38) (v := ?vv1x38) ?hi1x38 (by kernel_rfl) (by kernel_rfl) (by kernel_rfl) ?hQ1x38 (Or.inl ⟨?hw1x38, ?hy1x38⟩) hHeld ?rest1x38
          case hi1x38 => (simp only [List.getElem?_toArray, List.getElem?_cons_succ, List.getElem?_cons_zero]; exact rfl)
          case hQ1x38 => exact fun _ _ _ h => h
          case hw1x38 => rfl
          case hy1x38 => ((intro w hSw; (try dsimp only at hSw); go_simp) <;> (with_reducible rfl))
          try simp only [Act.put, List.setIfInBounds_toArray, List.set_cons_zero, List.set_cons_succ]
          refine wpAnyH_take (i := 2) (oi := ?oi2x39) (v := ?vv2x39) ?hi2x39 (by kernel_rfl) (by kernel_rfl) (by kernel_rfl) ?hQ2x39 (Or.inl ⟨?hw2x39, ?hy2x39⟩) hHeld ?rest2x39
          case hi2x39 => (simp only [List.getElem?_toArray, List.getElem?_cons_succ, List.getElem?_cons_zero]; exact rfl)
          case hQ2x39 => exact fun _ _ _ h => h
          case hw2x39 => rfl
          case hy2x39 => ((intro w hSw; (try dsimp only at hSw); go_simp) <;> (with_reducible rfl))
          try simp only [Act.put, List.setIfInBounds_toArray, List.set_cons_zero, List.set_cons_succ]
          refine wpAnyH_take (i := 3) (oi := ?oi3x40) (v := ?vv3x40) ?hi3x40 (by kernel_rfl) (by kernel_rfl) (by kernel_rfl) ?hQ3x40 (Or.inl ⟨?hw3x40, ?hy3x40⟩) hHeld ?rest3x40
          case hi3x40 => (simp only [List.getElem?_toArray, List.getElem?_cons_succ, List.getElem?_cons_zero]; exact rfl)
          case hQ3x40 => exact fun _ _ _ h => h
          case hw3x40 => rfl
          case hy3x40 => ((intro w hSw; (try dsimp only at hSw); go_simp) <;> (with_reducible rfl))
          try simp only [Act.put, List.setIfInBounds_toArray, List.set_cons_zero, List.set_cons_succ]
          refine wpAnyH_take (i := 5) (oi := ?oi5x41) (v := ?vv5x41) ?hi5x41 (by kernel_rfl) (by kernel_rfl) (by kernel_rfl) ?hQ5x41 (Or.inl ⟨?hw5x41, ?hy5x41⟩) hHeld ?rest5x41
          case hi5x41 => (simp only [List.getElem?_toArray, List.getElem?_cons_succ, List.getElem?_cons_zero]; exact rfl)
          case hQ5x41 => exact fun _ _ _ h => h
          case hw5x41 => rfl
          case hy5x41 => ((intro w hSw; (try dsimp only at hSw); go_simp) <;> (with_reducible rfl))
          try simp only [Act.put, List.setIfInBounds_toArray, List.set_cons_zero, List.set_cons_succ]
          refine wpAnyH_take (i := 6) (oi := ?oi6x42) (v := ?vv6x42) ?hi6x42 (by kernel_rfl) (by kernel_rfl) (by kernel_rfl) ?hQ6x42 (Or.inl ⟨?hw6x42, ?hy6x42⟩) hHeld ?rest6x42
          case hi6x42 => (simp only [List.getElem?_toArray, List.getElem?_cons_succ, List.getElem?_cons_zero]; exact rfl)
          case hQ6x42 => exact fun _ _ _ h => h
          case hw6x42 => rfl
          case hy6x42 => ((intro w hSw; (try dsimp only at hSw); go_simp) <;> (with_reducible rfl))
          try simp only [Act.put, List.setIfInBounds_toArray, List.set_cons_zero, List.set_cons_succ]
          refine wpAnyH_take (i := 7) (oi := ?oi7x43) (v := ?vv7x43) ?hi7x43 (by kernel_rfl) (by kernel_rfl) (by kernel_rfl) ?hQ7x43 (Or.inl ⟨?hw7x43, ?hy7x43⟩) hHeld ?rest7x43
          case hi7x43 => (simp only [List.getElem?_toArray, List.getElem?_cons_succ, List.getElem?_cons_zero]; exact rfl)
          case hQ7x43 => exact fun _ _ _ h => h
          case hw7x43 => rfl
          case hy7x43 => ((intro w hSw; (try dsimp only at hSw); go_simp) <;> (with_reducible rfl))
          try simp only [Act.put, List.setIfInBounds_toArray, List.set_cons_zero, List.set_cons_succ]
          refine wpAnyH_take (i := 8) (oi := ?oi8x44) (v := ?vv8x44) ?hi8x44 (by kernel_rfl) (by kernel_rfl) (by kernel_rfl) ?hQ8x44 (Or.inl ⟨?hw8x44, ?hy8x44⟩) hHeld ?rest8x44
          case hi8x44 => (simp only [List.getElem?_toArray, List.getElem?_cons_succ, List.getElem?_cons_zero]; exact rfl)
          case hQ8x44 => exact fun _ _ _ h => h
          case hw8x44 => rfl
          case hy8x44 => ((intro w hSw; (try dsimp only at hSw); go_simp) <;> (with_reducible rfl))
          try simp only [Act.put, List.setIfInBounds_toArray, List.set_cons_zero, List.set_cons_succ]
          refine wpAnyH_ready (rs := [4]) (by kernel_rfl) (by simp) ?_
          refine AllReadyH.cons (o := ?o4y49) ?ho4y49 (fun KK hKK => ?st4y49) (AllReadyH.nil)
          case ho4y49 => (simp only [List.getElem?_toArray, List.getElem?_cons_succ, List.getElem?_cons_zero]; exact rfl)
          rw [if_pos (by rfl)]
          go_simp
          go_at_call 67
          refine (Tryz.cmp_Compare_int _ _ _).mono ?_; rintro r wa ⟨rfl, rfl⟩
          refine hKK.out _ _ hHeld (fun hHeld => ?_)
          clear hKK KK
          try simp only [Act.put, List.setIfInBounds_toArray, List.set_cons_zero, List.set_cons_succ]
          refine wpAnyH_ready (rs := [9]) (by kernel_rfl) (by simp) ?_
          refine AllReadyH.cons (o := ?o9y48) ?ho9y48 (fun KK hKK => ?st9y48) (AllReadyH.nil)
          case ho9y48 => (simp only [List.getElem?_toArray, List.getElem?_cons_succ, List.getElem?_cons_zero]; exact rfl)
          rw [if_pos (by rfl)]
          go_simp
          go_at_call 67
          refine (Tryz.cmp_Compare_int _ _ _).mono ?_; rintro r wa ⟨rfl, rfl⟩
          refine hKK.out _ _ hHeld (fun hHeld => ?_)
          clear hKK KK
          try simp only [Act.put, List.setIfInBounds_toArray, List.set_cons_zero, List.set_cons_succ]
          refine wpAnyH_ready (rs := [10]) (by kernel_rfl) (by simp) ?_
          refine AllReadyH.cons (o := ?o10y47) ?ho10y47 (fun KK hKK => ?st10y47) (AllReadyH.nil)
          case ho10y47 => (simp only [List.getElem?_toArray, List.getElem?_cons_succ, List.getElem?_cons_zero]; exact rfl)
          refine step_bI2 (p := Lib.compareInt a.n b.n) (q := Lib.compareInt a.x b.x) (by simp only [List.getElem?_toArray, List.getElem?_cons_succ, List.getElem?_cons_zero, Option.getD_some]) (by simp only [List.getElem?_toArray, List.getElem?_cons_succ, List.getElem?_cons_zero, Option.getD_some]) ?_
          have hz := hS2 _ _ hHeld (Below.one _ (.cells #[.int .i64 (Lib.compareInt a.n b.n), .int .i64 (Lib.compareInt a.x b.x)] 3))
          refine hKK.out _ _ hz (fun hHeld => ?_)
          clear hKK KK
          try simp only [Act.put, List.setIfInBounds_toArray, List.set_cons_zero, List.set_cons_succ]
          refine wpAnyH_ready (rs := [11]) (by kernel_rfl) (by simp) ?_
          refine AllReadyH.cons (o := ?o11y46) ?ho11y46 (fun KK hKK => ?st11y46) (AllReadyH.nil)
          case ho11y46 => (simp only [List.getElem?_toArray, List.getElem?_cons_succ, List.getElem?_cons_zero]; exact rfl)
          rw [if_pos (by rfl)]
          go_simp
          go_at_call 68
          refine (g_Or2 _ _ _ _ _ (Blk.new _ _ _)).mono ?_; rintro r wb ⟨rfl, rfl⟩
          refine hKK.out _ _ hHeld (fun hHeld => ?_)
          clear hKK KK
          try simp only [Act.put, List.setIfInBounds_toArray, List.set_cons_zero, List.set_cons_succ]
          refine wpAnyH_take (i := 12) (oi := ?oi12x45) (v := ?vv12x45) ?hi12x45 (by kernel_rfl) (by kernel_rfl) (by kernel_rfl) ?hQ12x45 (Or.inl ⟨?hw12x45, ?hy12x45⟩) hHeld ?rest12x45
          case hi12x45 => (simp only [List.getElem?_toArray, List.getElem?_cons_succ, List.getElem?_cons_zero]; exact rfl)
          case hQ12x45 => exact fun _ _ _ h => h
          case hw12x45 => rfl
          case hy12x45 => ((intro w hSw; (try dsimp only at hSw); go_simp) <;> (with_reducible rfl))
          try simp only [Act.put, List.setIfInBounds_toArray, List.set_cons_zero, List.set_cons_succ]
          refine wpAnyH_done (by kernel_rfl) ?_ _
          refine NoPanic.normal ?_
          have kR := hHeld.2
          clear hHeld hS2
          go_wp2_with fail
          go_ret
          exact ⟨rfl, kR⟩
    case st11y103 =>
      have hV := hHeld
      refine step_alFlt ?_
      have hz11 := hS2 _ _ hHeld (Below.one wv (.cells #[.int .i64 0, .int .i64 0] 65))
      refine hKK.out _ _ hz11 (fun hHeld => ?_)
      clear hKK KK
      try simp only [Act.put, List.setIfInBounds_toArray, List.set_cons_zero, List.set_cons_succ]
      refine wpAnyH_ready (rs := [10]) (by kernel_rfl) (by simp) ?_
      refine AllReadyH.cons (o := ?o10y102) ?ho10y102 (fun KK hKK => ?st10y102) (AllReadyH.nil)
      case ho10y102 => (simp only [List.getElem?_toArray, List.getElem?_cons_succ, List.getElem?_cons_zero]; exact rfl)
      refine step_alFlt ?_
      have hz10 := hS2 _ _ hHeld (Below.one (wv.alloc (.cells #[.int .i64 0, .int .i64 0] 65)) (.cells #[.int .i64 0, .int .i64 0] 65))
      refine hKK.out _ _ hz10 (fun hHeld => ?_)
      clear hKK KK
      try simp only [Act.put, List.setIfInBounds_toArray, List.set_cons_zero, List.set_cons_succ]
      have bA := (Blk.new wv 65 #[.int .i64 0, .int .i64 0]).alloc (.cells #[.int .i64 0, .int .i64 0] 65)
      have bB := Blk.new (wv.alloc (.cells #[.int .i64 0, .int .i64 0] 65)) 65 #[.int .i64 0, .int .i64 0]
      have hne : wv.heap.size ≠ (wv.alloc (.cells #[.int .i64 0, .int .i64 0] 65)).heap.size := by simp
      have kA := (Below.one wv (.cells #[.int .i64 0, .int .i64 0] 65)).trans ((Below.one (wv.alloc (.cells #[.int .i64 0, .int .i64 0] 65)) (.cells #[.int .i64 0, .int .i64 0] 65)).mono (Below.one wv _).size)
      refine wpAnyH_ready (rs := [12]) (by kernel_rfl) (by simp) ?_
      refine AllReadyH.cons (o := ?o12y101) ?ho12y101 (fun KK hKK => ?st12y101) (AllReadyH.nil)
      case ho12y101 => (simp only [List.getElem?_toArray, List.getElem?_cons_succ, List.getElem?_cons_zero]; exact rfl)
      refine step_stFlt (g := (wv.alloc (.cells #[.int .i64 0, .int .i64 0] 65)).heap.size) (p := a.n) (q := a.x) (by simp only [List.getElem?_toArray, List.getElem?_cons_succ, List.getElem?_cons_zero, Option.getD_some]) (by simp only [List.getElem?_toArray, List.getElem?_cons_succ, List.getElem?_cons_zero, Option.getD_some]) bB ?_
      have kB := (kA.setCell (p := ⟨(wv.alloc (.cells #[.int .i64 0, .int .i64 0] 65)).heap.size, 0, none⟩) (by first | exact Nat.le_refl _ | exact (Below.one wv _).size) (.int .i64 a.n)).setCell (p := ⟨(wv.alloc (.cells #[.int .i64 0, .int .i64 0] 65)).heap.size, 1, none⟩) (by first | exact Nat.le_refl _ | exact (Below.one wv _).size) (.int .i64 a.x)
      have hy := hS2 _ _ hV kB
      refine hKK.out _ _ hy (fun hHeld => ?_)
      clear hKK KK
      try simp only [Act.put, List.setIfInBounds_toArray, List.set_cons_zero, List.set_cons_succ]
      refine wpAnyH_ready (rs := [13]) (by kernel_rfl) (by simp) ?_
      refine AllReadyH.cons (o := ?o13y100) ?ho13y100 (fun KK hKK => ?st13y100) (AllReadyH.nil)
      case ho13y100 => (simp only [List.getElem?_toArray, List.getElem?_cons_succ, List.getElem?_cons_zero]; exact rfl)
      have bC := (bA.far (p := ⟨(wv.alloc (.cells #[.int .i64 0, .int .i64 0] 65)).heap.size, 0, none⟩) (by first | exact hne | exact hne.symm) (.int .i64 a.n)).far (p := ⟨(wv.alloc (.cells #[.int .i64 0, .int .i64 0] 65)).heap.size, 1, none⟩) (by first | exact hne | exact hne.symm) (.int .i64 a.x)
      refine step_stFlt (g := wv.heap.size) (p := b.n) (q := b.x) (by simp only [List.getElem?_toArray, List.getElem?_cons_succ, List.getElem?_cons_zero, Option.getD_some]) (by simp only [List.getElem?_toArray, List.getElem?_cons_succ, List.getElem?_cons_zero, Option.getD_some]) bC ?_
      have kC := (kB.setCell (p := ⟨wv.heap.size, 0, none⟩) (by first | exact Nat.le_refl _ | exact (Below.one wv _).size) (.int .i64 b.n)).setCell (p := ⟨wv.heap.size, 1, none⟩) (by first | exact Nat.le_refl _ | exact (Below.one wv _).size) (.int .i64 b.x)
      have hy2 := hS2 _ _ hV kC
      refine hKK.out _ _ hy2 (fun hHeld => ?_)
      clear hKK KK
      try simp only [Act.put, List.setIfInBounds_toArray, List.set_cons_zero, List.set_cons_succ]
      refine wpAnyH_done (by kernel_rfl) ?_ _
      refine NoPanic.normal ?_
      refine gen_then (fun w' => (BoxV w' w.heap.size a ea ∧ BoxV w' (w.heap.size + 1) b eb) ∧ Below w.heap.size w w') hHeld (fun wg hg => ?_)
      clear hHeld hS2 hV
      obtain ⟨⟨⟨p0, p1, p2, p3, p4⟩, r0, r1, r2, r3, r4⟩, kg⟩ := hg
      go_upto_region 4 with fail
      have hg : (BoxV wg w.heap.size a ea ∧ BoxV wg (w.heap.size + 1) b eb) ∧ Below w.heap.size w wg := ⟨⟨⟨p0, p1, p2, p3, p4⟩, r0, r1, r2, r3, r4⟩, kg⟩
      clear p0 p1 p2 p3 p4 r0 r1 r2 r3 r4 kg
      have hS2 := fun (w' w'' : World) (h : (BoxV w' w.heap.size a ea ∧ BoxV w' (w.heap.size + 1) b eb) ∧ Below w.heap.size w w') (hb : Below w'.heap.size w' w'') => (show (BoxV w'' w.heap.size a ea ∧ BoxV w'' (w.heap.size + 1) b eb) ∧ Below w.heap.size w w'' from ⟨⟨boxV_bel h.1.1 hb, boxV_bel h.1.2 hb⟩, h.2.up hb⟩)
      refine wp_region_noPanic ?_
      refine wp_region_held_drew (S := fun w' => (BoxV w' w.heap.size a ea ∧ BoxV w' (w.heap.size + 1) b eb) ∧ Below w.heap.size w w') (by kernel_rfl) (hS2 _ _ hg (Below.refl _ _).drew) (fun hHeld => ?_)
      generalize wg.drew = wv at hHeld ⊢
      clear hg
      refine wpAnyH_take (i := 0) (oi := ?oi0x57) (v := ?vv0x57) ?hi0x57 (by kernel_rfl) (by kernel_rfl) (by kernel_rfl) ?hQ0x57 (Or.inl ⟨?hw0x57, ?hy0x57⟩) hHeld ?rest0x57
      case hi0x57 => (simp only [List.getElem?_toArray, List.getElem?_cons_succ, List.getElem?_cons_zero]; exact rfl)
      case hQ0x57 => exact fun _ _ _ h => h
      case hw0x57 => rfl
      case hy0x57 => ((intro w hSw; (try dsimp only at hSw); go_simp) <;> (with_reducible rfl))
      try simp only [Act.put, List.setIfInBounds_toArray, List.set_cons_zero, List.set_cons_succ]
      refine wpAnyH_take (i := 1) (oi := ?oi1x58) (v := ?vv1x58) ?hi1x58 (by kernel_rfl) (by kernel_rfl) (by kernel_rfl) ?hQ1x58 (Or.inl ⟨?hw1x58, ?hy1x58⟩) hHeld ?rest1x58
      case hi1x58 => (simp only [List.getElem?_toArray, List.getElem?_cons_succ, List.getElem?_cons_zero]; exact rfl)
      case hQ1x58 => exact fun _ _ _ h => h
      case hw1x58 => rfl
      case hy1x58 => ((intro w hSw; (try dsimp only at hSw); go_simp) <;> (with_reducible rfl))
      try simp only [Act.put, List.setIfInBounds_toArray, List.set_cons_zero, List.set_cons_succ]
      refine wpAnyH_take (i := 2) (oi := ?oi2x59) (v := ?vv2x59) ?hi2x59 (by kernel_rfl) (by kernel_rfl) (by kernel_rfl) ?hQ2x59 (Or.inl ⟨?hw2x59, ?hy2x59⟩) hHeld ?rest2x59
      case hi2x59 => (simp only [List.getElem?_toArray, List.getElem?_cons_succ, List.getElem?_cons_zero]; exact rfl)
      case hQ2x59 => exact fun _ _ _ h => h
      case hw2x59 => rfl
      case hy2x59 => ((intro w hSw; (try dsimp only at hSw); go_simp) <;> (with_reducible rfl))
      try simp only [Act.put, List.setIfInBounds_toArray, List.set_cons_zero, List.set_cons_succ]
      refine wpAnyH_take (i := 3) (oi := ?oi3x60) (v := ?vv3x60) ?hi3x60 (by kernel_rfl) (by kernel_rfl) (by kernel_rfl) ?hQ3x60 (Or.inl ⟨?hw3x60, ?hy3x60⟩) hHeld ?rest3x60
      case hi3x60 => (simp only [List.getElem?_toArray, List.getElem?_cons_succ, List.getElem?_cons_zero]; exact rfl)
      case hQ3x60 => exact fun _ _ _ h => h
      case hw3x60 => rfl
      case hy3x60 => ((intro w hSw; (try dsimp only at hSw); go_simp) <;> (with_reducible rfl))
      try simp only [Act.put, List.setIfInBounds_toArray, List.set_cons_zero, List.set_cons_succ]
      refine wpAnyH_take (i := 4) (oi := ?oi4x61) (v := ?vv4x61) ?hi4x61 (by kernel_rfl) (by kernel_rfl) (by kernel_rfl) ?hQ4x61 (Or.inl ⟨?hw4x61, ?hy4x61⟩) hHeld ?rest4x61
      case hi4x61 => (simp only [List.getElem?_toArray, List.getElem?_cons_succ, List.getElem?_cons_zero]; exact rfl)
      case hQ4x61 => exact fun _ _ _ h => h
      case hw4x61 => rfl
      case hy4x61 => ((intro w hSw; (try dsimp only at hSw); go_simp) <;> (with_reducible rfl))
      try simp only [Act.put, List.setIfInBounds_toArray, List.set_cons_zero, List.set_cons_succ]
      refine wpAnyH_take (i := 5) (oi := ?oi5x62) (v := ?vv5x62) ?hi5x62 (by kernel_rfl) (by kernel_rfl) (by kernel_rfl) ?hQ5x62 (Or.inl ⟨?hw5x62, ?hy5x62⟩) hHeld ?rest5x62
      case hi5x62 => (simp only [List.getElem?_toArray, List.getElem?_cons_succ, List.getElem?_cons_zero]; exact rfl)
      case hQ5x62 => exact fun _ _ _ h => h
      case hw5x62 => rfl
      case hy5x62 => ((intro w hSw; (try dsimp only at hSw); go_simp) <;> (with_reducible rfl))
      try simp only [Act.put, List.setIfInBounds_toArray, List.set_cons_zero, List.set_cons_succ]
      refine wpAnyH_take (i := 6) (oi := ?oi6x63) (v := ?vv6x63) ?hi6x63 (by kernel_rfl) (by kernel_rfl) (by kernel_rfl) ?hQ6x63 (Or.inl ⟨?hw6x63, ?hy6x63⟩) hHeld ?rest6x63
      case hi6x63 => (simp only [List.getElem?_toArray, List.getElem?_cons_succ, List.getElem?_cons_zero]; exact rfl)
      case hQ6x63 => exact fun _ _ _ h => h
      case hw6x63 => rfl
      case hy6x63 => ((intro w hSw; (try dsimp only at hSw); go_simp) <;> (with_reducible rfl))
      try simp only [Act.put, List.setIfInBounds_toArray, List.set_cons_zero, List.set_cons_succ]
      refine wpAnyH_take (i := 7) (oi := ?oi7x64) (v := ?vv7x64) ?hi7x64 (by kernel_rfl) (by kernel_rfl) (by kernel_rfl) ?hQ7x64 (Or.inl ⟨?hw7x64, ?hy7x64⟩) hHeld ?rest7x64
      case hi7x64 => (simp only [List.getElem?_toArray, List.getElem?_cons_succ, List.getElem?_cons_zero]; exact rfl)
      case hQ7x64 => exact fun _ _ _ h => h
      case hw7x64 => rfl
      case hy7x64 => ((intro w hSw; (try dsimp only at hSw); go_simp) <;> (with_reducible rfl))
      try simp only [Act.put, List.setIfInBounds_toArray, List.set_cons_zero, List.set_cons_succ]
      refine wpAnyH_take (i := 8) (oi := ?oi8x65) (v := ?vv8x65) ?hi8x65 (by kernel_rfl) (by kernel_rfl) (by kernel_rfl) ?hQ8x65 (Or.inl ⟨?hw8x65, ?hy8x65⟩) hHeld ?rest8x65
      case hi8x65 => (simp only [List.getElem?_toArray, List.getElem?_cons_succ, List.getElem?_cons_zero]; exact rfl)
      case hQ8x65 => exact fun _ _ _ h => h
      case hw8x65 => rfl
      case hy8x65 => ((intro w hSw; (try dsimp only at hSw); go_simp) <;> (with_reducible rfl))
      try simp only [Act.put, List.setIfInBounds_toArray, List.set_cons_zero, List.set_cons_succ]
      refine wpAnyH_take (i := 9) (oi := ?oi9x66) (v := ?vv9x66) ?hi9x66 (by kernel_rfl) (by kernel_rfl) (by kernel_rfl) ?hQ9x66 (Or.inl ⟨?hw9x66, ?hy9x66⟩) hHeld ?rest9x66
      case hi9x66 => (simp only [List.getElem?_toArray, List.getElem?_cons_succ, List.getElem?_cons_zero]; exact rfl)
      case hQ9x66 => exact fun _ _ _ h => h
      case hw9x66 => rfl
      case hy9x66 => ((intro w hSw; (try dsimp only at hSw); go_simp) <;> (with_reducible rfl))
      try simp only [Act.put, List.setIfInBounds_toArray, List.set_cons_zero, List.set_cons_succ]
      as_aux_lemma =>
        refine wpAnyH_ready (rs := [10, 11]) (by kernel_rfl) (by simp) ?_
        refine AllReadyH.cons (o := ?o10y99) ?ho10y99 (fun KK hKK => ?st10y99) (AllReadyH.cons (o := ?o11y99) ?ho11y99 (fun KK hKK => ?st11y99) (AllReadyH.nil))
        case ho10y99 => (simp only [List.getElem?_toArray, List.getElem?_cons_succ, List.getElem?_cons_zero]; exact rfl)
        case ho11y99 => (simp only [List.getElem?_toArray, List.getElem?_cons_succ, List.getElem?_cons_zero]; exact rfl)
        case st10y99 =>
          have hV := hHeld
          refine step_alDec ?_
          have hz10 := hS2 _ _ hHeld (Below.one wv (.cells #[.int .i64 0, .int .i64 0] 75))
          refine hKK.out _ _ hz10 (fun hHeld => ?_)
          clear hKK KK
          try simp only [Act.put, List.setIfInBounds_toArray, List.set_cons_zero, List.set_cons_succ]
          refine wpAnyH_ready (rs := [11]) (by kernel_rfl) (by simp) ?_
          refine AllReadyH.cons (o := ?o11y82) ?ho11y82 (fun KK hKK => ?st11y82) (AllReadyH.nil)
          case ho11y82 => (simp only [List.getElem?_toArray, List.getElem?_cons_succ, List.getElem?_cons_zero]; exact rfl)
          refine step_alDec ?_
          have hz11 := hS2 _ _ hHeld (Below.one (wv.alloc (.cells #[.int .i64 0, .int .i64 0] 75)) (.cells #[.int .i64 0, .int .i64 0] 75))
          refine hKK.out _ _ hz11 (fun hHeld => ?_)
          clear hKK KK
          try simp only [Act.put, List.setIfInBounds_toArray, List.set_cons_zero, List.set_cons_succ]
          have bA := (Blk.new wv 75 #[.int .i64 0, .int .i64 0]).alloc (.cells #[.int .i64 0, .int .i64 0] 75)
          have bB := Blk.new (wv.alloc (.cells #[.int .i64 0, .int .i64 0] 75)) 75 #[.int .i64 0, .int .i64 0]
          have hne : wv.heap.size ≠ (wv.alloc (.cells #[.int .i64 0, .int .i64 0] 75)).heap.size := by simp
          have kA := (Below.one wv (.cells #[.int .i64 0, .int .i64 0] 75)).trans ((Below.one (wv.alloc (.cells #[.int .i64 0, .int .i64 0] 75)) (.cells #[.int .i64 0, .int .i64 0] 75)).mono (Below.one wv _).size)
          refine wpAnyH_ready (rs := [12]) (by kernel_rfl) (by simp) ?_
          refine AllReadyH.cons (o := ?o12y81) ?ho12y81 (fun KK hKK => ?st12y81) (AllReadyH.nil)
          case ho12y81 => (simp only [List.getElem?_toArray, List.getElem?_cons_succ, List.getElem?_cons_zero]; exact rfl)
          refine step_stDec (g := wv.heap.size) (p := a.n) (q := a.x) (by simp only [List.getElem?_toArray, List.getElem?_cons_succ, List.getElem?_cons_zero, Option.getD_some]) (by simp only [List.getElem?_toArray, List.getElem?_cons_succ, List.getElem?_cons_zero, Option.getD_some]) bA ?_
          have kB := (kA.setCell (p := ⟨wv.heap.size, 0, none⟩) (by first | exact Nat.le_refl _ | exact (Below.one wv _).size) (.int .i64 a.n)).setCell (p := ⟨wv.heap.size, 1, none⟩) (by first | exact Nat.le_refl _ | exact (Below.one wv _).size) (.int .i64 a.x)
          have hy := hS2 _ _ hV kB
          refine hKK.out _ _ hy (fun hHeld => ?_)
          clear hKK KK
          try simp only [Act.put, List.setIfInBounds_toArray, List.set_cons_zero, List.set_cons_succ]
          refine wpAnyH_ready (rs := [13]) (by kernel_rfl) (by simp) ?_
          refine AllReadyH.cons (o := ?o13y80) ?ho13y80 (fun KK hKK => ?st13y80) (AllReadyH.nil)
          case ho13y80 => (simp only [List.getElem?_toArray, List.getElem?_cons_succ, List.getElem?_cons_zero]; exact rfl)
          have bC := (bB.far (p := ⟨wv.heap.size, 0, none⟩) (by first | exact hne | exact hne.symm) (.int .i64 a.n)).far (p := ⟨wv.heap.size, 1, none⟩) (by first | exact hne | exact hne.symm) (.int .i64 a.x)
          refine step_stDec (g := (wv.alloc (.cells #[.int .i64 0, .int .i64 0] 75)).heap.size) (p := b.n) (q := b.x) (by simp only [List.getElem?_toArray, List.getElem?_cons_succ, List.getElem?_cons_zero, Option.getD_some]) (by simp only [List.getElem?_toArray, List.getElem?_cons_succ, List.getElem?_cons_zero, Option.getD_some]) bC ?_
          have kC := (kB.setCell (p := ⟨(wv.alloc (.cells #[.int .i64 0, .int .i64 0] 75)).heap.size, 0, none⟩) (by first | exact Nat.le_refl _ | exact (Below.one wv _).size) (.int .i64 b.n)).setCell (p := ⟨(wv.alloc (.cells #[.int .i64 0, .int .i64 0] 75)).heap.size, 1, none⟩) (by first | exact Nat.le_refl _ | exact (Below.one wv _).size) (.int .i64 b.x)
          have hy2 := hS2 _ _ hV kC
          refine hKK.out _ _ hy2 (fun hHeld => ?_)
          clear hKK KK
          try simp only [Act.put, List.setIfInBounds_toArray, List.set_cons_zero, List.set_cons_succ]
          refine wpAnyH_done (by kernel_rfl) ?_ _
          refine NoPanic.normal ?_
          refine gen_then (fun w' => (BoxV w' w.heap.size a ea ∧ BoxV w' (w.heap.size + 1) b eb) ∧ Below w.heap.size w w') hHeld (fun wg hg => ?_)
          clear hHeld hS2 hV
          obtain ⟨⟨⟨p0, p1, p2, p3, p4⟩, r0, r1, r2, r3, r4⟩, kg⟩ := hg
          go_upto_region 7 with fail
          have hg : (BoxV wg w.heap.size a ea ∧ BoxV wg (w.heap.size + 1) b eb) ∧ Below w.heap.size w wg := ⟨⟨⟨p0, p1, p2, p3, p4⟩, r0, r1, r2, r3, r4⟩, kg⟩
          clear p0 p1 p2 p3 p4 r0 r1 r2 r3 r4 kg
          have hS2 := fun (w' w'' : World) (h : (BoxV w' w.heap.size a ea ∧ BoxV w' (w.heap.size + 1) b eb) ∧ Below w.heap.size w w') (hb : Below w'.heap.size w' w'') => (show (BoxV w'' w.heap.size a ea ∧ BoxV w'' (w.heap.size + 1) b eb) ∧ Below w.heap.size w w'' from ⟨⟨boxV_bel h.1.1 hb, boxV_bel h.1.2 hb⟩, h.2.up hb⟩)
          refine wp_region_noPanic ?_
          refine wp_region_held_drew (S := fun w' => (BoxV w' w.heap.size a ea ∧ BoxV w' (w.heap.size + 1) b eb) ∧ Below w.heap.size w w') (by kernel_rfl) (hS2 _ _ hg (Below.refl _ _).drew) (fun hHeld => ?_)
          generalize wg.drew = wv at hHeld ⊢
          clear hg
          refine wpAnyH_take (i := 0) (oi := ?oi0x67) (v := ?vv0x67) ?hi0x67 (by kernel_rfl) (by kernel_rfl) (by kernel_rfl) ?hQ0x67 (Or.inl ⟨?hw0x67, ?hy0x67⟩) hHeld ?rest0x67
          case hi0x67 => (simp only [List.getElem?_toArray, List.getElem?_cons_succ, List.getElem?_cons_zero]; exact rfl)
          case hQ0x67 => exact fun _ _ _ h => h
          case hw0x67 => rfl
          case hy0x67 => ((intro w hSw; (try dsimp only at hSw); go_simp) <;> (with_reducible rfl))
          try simp only [Act.put, List.setIfInBounds_toArray, List.set_cons_zero, List.set_cons_succ]
          refine wpAnyH_take (i := 1) (oi := ?oi1x68) (v := ?vv1x68) ?hi1x68 (by kernel_rfl) (by kernel_rfl) (by kernel_rfl) ?hQ1x68 (Or.inl ⟨?hw1x68, ?hy1x68⟩) hHeld ?rest1x68
          case hi1x68 => (simp only [List.getElem?_toArray, List.getElem?_cons_succ, List.getElem?_cons_zero]; exact rfl)
          case hQ1x68 => exact fun _ _ _ h => h
          case hw1x68 => rfl
          case hy1x68 => ((intro w hSw; (try dsimp only at hSw); go_simp) <;> (with_reducible rfl))
          try simp only [Act.put, List.setIfInBounds_toArray, List.set_cons_zero, List.set_cons_succ]
          refine wpAnyH_take (i := 2) (oi := ?oi2x69) (v := ?vv2x69) ?hi2x69 (by kernel_rfl) (by kernel_rfl) (by kernel_rfl) ?hQ2x69 (Or.inl ⟨?hw2x69, ?hy2x69⟩) hHeld ?rest2x69
          case hi2x69 => (simp only [List.getElem?_toArray, List.getElem?_cons_succ, List.getElem?_cons_zero]; exact rfl)
          case hQ2x69 => exact fun _ _ _ h => h
          case hw2x69 => rfl
          case hy2x69 => ((intro w hSw; (try dsimp only at hSw); go_simp) <;> (with_reducible rfl))
          try simp only [Act.put, List.setIfInBounds_toArray, List.set_cons_zero, List.set_cons_succ]
          refine wpAnyH_take (i := 3) (oi := ?oi3x70) (v := ?vv3x70) ?hi3x70 (by kernel_rfl) (by kernel_rfl) (by kernel_rfl) ?hQ3x70 (Or.inl ⟨?hw3x70, ?hy3x70⟩) hHeld ?rest3x70
          case hi3x70 => (simp only [List.getElem?_toArray, List.getElem?_cons_succ, List.getElem?_cons_zero]; exact rfl)
          case hQ3x70 => exact fun _ _ _ h => h
          case hw3x70 => rfl
          case hy3x70 => ((intro w hSw; (try dsimp only at hSw); go_simp) <;> (with_reducible rfl))
          try simp only [Act.put, List.setIfInBounds_toArray, List.set_cons_zero, List.set_cons_succ]
          refine wpAnyH_take (i := 5) (oi := ?oi5x71) (v := ?vv5x71) ?hi5x71 (by kernel_rfl) (by kernel_rfl) (by kernel_rfl) ?hQ5x71 (Or.inl ⟨?hw5x71, ?hy5x71⟩) hHeld ?rest5x71
          case hi5x71 => (simp only [List.getElem?_toArray, List.getElem?_cons_succ, List.getElem?_cons_zero]; exact rfl)
          case hQ5x71 => exact fun _ _ _ h => h
          case hw5x71 => rfl
          case hy5x71 => ((intro w hSw; (try dsimp only at hSw); go_simp) <;> (with_reducible rfl))
          try simp only [Act.put, List.setIfInBounds_toArray, List.set_cons_zero, List.set_cons_succ]
          refine wpAnyH_take (i := 6) (oi := ?oi6x72) (v := ?vv6x72) ?hi6x72 (by kernel_rfl) (by kernel_rfl) (by kernel_rfl) ?hQ6x72 (Or.inl ⟨?hw6x72, ?hy6x72⟩) hHeld ?rest6x72
          case hi6x72 => (simp only [List.getElem?_toArray, List.getElem?_cons_succ, List.getElem?_cons_zero]; exact rfl)
          case hQ6x72 => exact fun _ _ _ h => h
          case hw6x72 => rfl
          case hy6x72 => ((intro w hSw; (try dsimp only at hSw); go_simp) <;> (with_reducible rfl))
          try simp only [Act.put, List.setIfInBounds_toArray, List.set_cons_zero, List.set_cons_succ]
          refine wpAnyH_take (i := 7) (oi := ?oi7x73) (v := ?vv7x73) ?hi7x73 (by kernel_rfl) (by kernel_rfl) (by kernel_rfl) ?hQ7x73 (Or.inl ⟨?hw7x73, ?hy7x73⟩) hHeld ?rest7x73
          case hi7x73 => (simp only [List.getElem?_toArray, List.getElem?_cons_succ, List.getElem?_cons_zero]; exact rfl)
          case hQ7x73 => exact fun _ _ _ h => h
          case hw7x73 => rfl
          case hy7x73 => ((intro w hSw; (try dsimp only at hSw); go_simp) <;> (with_reducible rfl))
          try simp only [Act.put, List.setIfInBounds_toArray, List.set_cons_zero, List.set_cons_succ]
          refine wpAnyH_take (i := 8) (oi := ?oi8x74) (v := ?vv8x74) ?hi8x74 (by kernel_rfl) (by kernel_rfl) (by kernel_rfl) ?hQ8x74 (Or.inl ⟨?hw8x74, ?hy8x74⟩) hHeld ?rest8x74
          case hi8x74 => (simp only [List.getElem?_toArray, List.getElem?_cons_succ, List.getElem?_cons_zero]; exact rfl)
          case hQ8x74 => exact fun _ _ _ h => h
          case hw8x74 => rfl
          case hy8x74 => ((intro w hSw; (try dsimp only at hSw); go_simp) <;> (with_reducible rfl))
          try simp only [Act.put, List.setIfInBounds_toArray, List.set_cons_zero, List.set_cons_succ]
          refine wpAnyH_ready (rs := [4]) (by kernel_rfl) (by simp) ?_
          refine AllReadyH.cons (o := ?o4y79) ?ho4y79 (fun KK hKK => ?st4y79) (AllReadyH.nil)
          case ho4y79 => (simp only [List.getElem?_toArray, List.getElem?_cons_succ, List.getElem?_cons_zero]; exact rfl)
          rw [if_pos (by rfl)]
          go_simp
          go_at_call 67
          refine (Tryz.cmp_Compare_int _ _ _).mono ?_; rintro r wa ⟨rfl, rfl⟩
          refine hKK.out _ _ hHeld (fun hHeld => ?_)
          clear hKK KK
          try simp only [Act.put, List.setIfInBounds_toArray, List.set_cons_zero, List.set_cons_succ]
          refine wpAnyH_ready (rs := [9]) (by kernel_rfl) (by simp) ?_
          refine AllReadyH.cons (o := ?o9y78) ?ho9y78 (fun KK hKK => ?st9y78) (AllReadyH.nil)
          case ho9y78 => (simp only [List.getElem?_toArray, List.getElem?_cons_succ, List.getElem?_cons_zero]; exact rfl)
          rw [if_pos (by rfl)]
          go_simp
          go_at_call 67
          refine (Tryz.cmp_Compare_int _ _ _).mono ?_; rintro r wa ⟨rfl, rfl⟩
          refine hKK.out _ _ hHeld (fun hHeld => ?_)
          clear hKK KK
          try simp only [Act.put, List.setIfInBounds_toArray, List.set_cons_zero, List.set_cons_succ]
          refine wpAnyH_ready (rs := [10]) (by kernel_rfl) (by simp) ?_
          refine AllReadyH.cons (o := ?o10y77) ?ho10y77 (fun KK hKK => ?st10y77) (AllReadyH.nil)
          case ho10y77 => (simp only [List.getElem?_toArray, List.getElem?_cons_succ, List.getElem?_cons_zero]; exact rfl)
          refine step_bI2 (p := Lib.compareInt a.n b.n) (q := Lib.compareInt a.x b.x) (by simp only [List.getElem?_toArray, List.getElem?_cons_succ, List.getElem?_cons_zero, Option.getD_some]) (by simp only [List.getElem?_toArray, List.getElem?_cons_succ, List.getElem?_cons_zero, Option.getD_some]) ?_
          have hz := hS2 _ _ hHeld (Below.one _ (.cells #[.int .i64 (Lib.compareInt a.n b.n), .int .i64 (Lib.compareInt a.x b.x)] 3))
          refine hKK.out _ _ hz (fun hHeld => ?_)
          clear hKK KK
          try simp only [Act.put, List.setIfInBounds_toArray, List.set_cons_zero, List.set_cons_succ]
          refine wpAnyH_ready (rs := [11]) (by kernel_rfl) (by simp) ?_
          refine AllReadyH.cons (o := ?o11y76) ?ho11y76 (fun KK hKK => ?st11y76) (AllReadyH.nil)
          case ho11y76 => (simp only [List.getElem?_toArray, List.getElem?_cons_succ, List.getElem?_cons_zero]; exact rfl)
          rw [if_pos (by rfl)]
          go_simp
          go_at_call 68
          refine (g_Or2 _ _ _ _ _ (Blk.new _ _ _)).mono ?_; rintro r wb ⟨rfl, rfl⟩
          refine hKK.out _ _ hHeld (fun hHeld => ?_)
          clear hKK KK
          try simp only [Act.put, List.setIfInBounds_toArray, List.set_cons_zero, List.set_cons_succ]
          refine wpAnyH_take (i := 12) (oi := ?oi12x75) (v := ?vv12x75) ?hi12x75 (by kernel_rfl) (by kernel_rfl) (by kernel_rfl) ?hQ12x75 (Or.inl ⟨?hw12x75, ?hy12x75⟩) hHeld ?rest12x75
          case hi12x75 => (simp only [List.getElem?_toArray, List.getElem?_cons_succ, List.getElem?_cons_zero]; exact rfl)
          case hQ12x75 => exact fun _ _ _ h => h
          case hw12x75 => rfl
          case hy12x75 => ((intro w hSw; (try dsimp only at hSw); go_simp) <;> (with_reducible rfl))
          try simp only [Act.put, List.setIfInBounds_toArray, List.set_cons_zero, List.set_cons_succ]
          refine wpAnyH_done (by kernel_rfl) ?_ _
          refine NoPanic.normal ?_
          have kR := hHeld.2
          clear hHeld hS2
          go_wp2_with fail
          go_ret
          exact ⟨rfl, kR⟩
        case st11y99 =>
          have hV := hHeld
          refine step_alDec ?_
          have hz11 := hS2 _ _ hHeld (Below.one wv (.cells #[.int .i64 0, .int .i64 0] 75))
          refine hKK.out _ _ hz11 (fun hHeld => ?_)
          clear hKK KK
          try simp only [Act.put, List.setIfInBounds_toArray, List.set_cons_zero, List.set_cons_succ]
          refine wpAnyH_ready (rs := [10]) (by kernel_rfl) (by simp) ?_
          refine AllReadyH.cons (o := ?o10y98) ?ho10y98 (fun KK hKK => ?st10y98) (AllReadyH.nil)
          case ho10y98 => (simp only [List.getElem?_toArray, List.getElem?_cons_succ, List.getElem?_cons_zero]; exact rfl)
          refine step_alDec ?_
          have hz10 := hS2 _ _ hHeld (Below.one (wv.alloc (.cells #[.int .i64 0, .int .i64 0] 75)) (.cells #[.int .i64 0, .int .i64 0] 75))
          refine hKK.out _ _ hz10 (fun hHeld => ?_)
          clear hKK KK
          try simp only [Act.put, List.setIfInBounds_toArray, List.set_cons_zero, List.set_cons_succ]
          have bA := (Blk.new wv 75 #[.int .i64 0, .int .i64 0]).alloc (.cells #[.int .i64 0, .int .i64 0] 75)
          have bB := Blk.new (wv.alloc (.cells #[.int .i64 0, .int .i64 0] 75)) 75 #[.int .i64 0, .int .i64 0]
          have hne : wv.heap.size ≠ (wv.alloc (.cells #[.int .i64 0, .int .i64 0] 75)).heap.size := by simp
          have kA := (Below.one wv (.cells #[.int .i64 0, .int .i64 0] 75)).trans ((Below.one (wv.alloc (.cells #[.int .i64 0, .int .i64 0] 75)) (.cells #[.int .i64 0, .int .i64 0] 75)).mono (Below.one wv _).size)
          refine wpAnyH_ready (rs := [12]) (by kernel_rfl) (by simp) ?_
          refine AllReadyH.cons (o := ?o12y97) ?ho12y97 (fun KK hKK => ?st12y97) (AllReadyH.nil)
          case ho12y97 => (simp only [List.getElem?_toArray, List.getElem?_cons_succ, List.getElem?_cons_zero]; exact rfl)
          refine step_stDec (g := (wv.alloc (.cells #[.int .i64 0, .int .i64 0] 75)).heap.size) (p := a.n) (q := a.x) (by simp only [List.getElem?_toArray, List.getElem?_cons_succ, List.getElem?_cons_zero, Option.getD_some]) (by simp only [List.getElem?_toArray, List.getElem?_cons_succ, List.getElem?_cons_zero, Option.getD_some]) bB ?_
          have kB := (kA.setCell (p := ⟨(wv.alloc (.cells #[.int .i64 0, .int .i64 0] 75)).heap.size, 0, none⟩) (by first | exact Nat.le_refl _ | exact (Below.one wv _).size) (.int .i64 a.n)).setCell (p := ⟨(wv.alloc (.cells #[.int .i64 0, .int .i64 0] 75)).heap.size, 1, none⟩) (by first | exact Nat.le_refl _ | exact (Below.one wv _).size) (.int .i64 a.x)
          have hy := hS2 _ _ hV kB
          refine hKK.out _ _ hy (fun hHeld => ?_)
          clear hKK KK
          try simp only [Act.put, List.setIfInBounds_toArray, List.set_cons_zero, List.set_cons_succ]
          refine wpAnyH_ready (rs := [13]) (by kernel_rfl) (by simp) ?_
          refine AllReadyH.cons (o := ?o13y96) ?ho13y96 (fun KK hKK => ?st13y96) (AllReadyH.nil)
          case ho13y96 => (simp only [List.getElem?_toArray, List.getElem?_cons_succ, List.getElem?_cons_zero]; exact rfl)
          have bC := (bA.far (p := ⟨(wv.alloc (.cells #[.int .i64 0, .int .i64 0] 75)).heap.size, 0, none⟩) (by first | exact hne | exact hne.symm) (.int .i64 a.n)).far (p := ⟨(wv.alloc (.cells #[.int .i64 0, .int .i64 0] 75)).heap.size, 1, none⟩) (by first | exact hne | exact hne.symm) (.int .i64 a.x)
          refine step_stDec (g := wv.heap.size) (p := b.n) (q := b.x) (by simp only [List.getElem?_toArray, List.getElem?_cons_succ, List.getElem?_cons_zero, Option.getD_some]) (by simp only [List.getElem?_toArray, List.getElem?_cons_succ, List.getElem?_cons_zero, Option.getD_some]) bC ?_
          have kC := (kB.setCell (p := ⟨wv.heap.size, 0, none⟩) (by first | exact Nat.le_refl _ | exact (Below.one wv _).size) (.int .i64 b.n)).setCell (p := ⟨wv.heap.size, 1, none⟩) (by first | exact Nat.le_refl _ | exact (Below.one wv _).size) (.int .i64 b.x)
          have hy2 := hS2 _ _ hV kC
          refine hKK.out _ _ hy2 (fun hHeld => ?_)
          clear hKK KK
          try simp only [Act.put, List.setIfInBounds_toArray, List.set_cons_zero, List.set_cons_succ]
          refine wpAnyH_done (by kernel_rfl) ?_ _
          refine NoPanic.normal ?_
          refine gen_then (fun w' => (BoxV w' w.heap.size a ea ∧ BoxV w' (w.heap.size + 1) b eb) ∧ Below w.heap.size w w') hHeld (fun wg hg => ?_)
          clear hHeld hS2 hV
          obtain ⟨⟨⟨p0, p1, p2, p3, p4⟩, r0, r1, r2, r3, r4⟩, kg⟩ := hg
          go_upto_region 7 with fail
          have hg : (BoxV wg w.heap.size a ea ∧ BoxV wg (w.heap.size + 1) b eb) ∧ Below w.heap.size w wg := ⟨⟨⟨p0, p1, p2, p3, p4⟩, r0, r1, r2, r3, r4⟩, kg⟩
          clear p0 p1 p2 p3 p4 r0 r1 r2 r3 r4 kg
          have hS2 := fun (w' w'' : World) (h : (BoxV w' w.heap.size a ea ∧ BoxV w' (w.heap.size + 1) b eb) ∧ Below w.heap.size w w') (hb : Below w'.heap.size w' w'') => (show (BoxV w'' w.heap.size a ea ∧ BoxV w'' (w.heap.size + 1) b eb) ∧ Below w.heap.size w w'' from ⟨⟨boxV_bel h.1.1 hb, boxV_bel h.1.2 hb⟩, h.2.up hb⟩)
          refine wp_region_noPanic ?_
          refine wp_region_held_drew (S := fun w' => (BoxV w' w.heap.size a ea ∧ BoxV w' (w.heap.size + 1) b eb) ∧ Below w.heap.size w w') (by kernel_rfl) (hS2 _ _ hg (Below.refl _ _).drew) (fun hHeld => ?_)
          generalize wg.drew = wv at hHeld ⊢
          clear hg
          refine wpAnyH_take (i := 0) (oi := ?oi0x83) (v := ?vv0x83) ?hi0x83 (by kernel_rfl) (by kernel_rfl) (by kernel_rfl) ?hQ0x83 (Or.inl ⟨?hw0x83, ?hy0x83⟩) hHeld ?rest0x83
          case hi0x83 => (simp only [List.getElem?_toArray, List.getElem?_cons_succ, List.getElem?_cons_zero]; exact rfl)
          case hQ0x83 => exact fun _ _ _ h => h
          case hw0x83 => rfl
          case hy0x83 => ((intro w hSw; (try dsimp only at hSw); go_simp) <;> (with_reducible rfl))
          try simp only [Act.put, List.setIfInBounds_toArray, List.set_cons_zero, List.set_cons_succ]
          refine wpAnyH_take (i := 1) (oi := ?oi1x84) (v := ?vv1x84) ?hi1x84 (by kernel_rfl) (by kernel_rfl) (by kernel_rfl) ?hQ1x84 (Or.inl ⟨?hw1x84, ?hy1x84⟩) hHeld ?rest1x84
          case hi1x84 => (simp only [List.getElem?_toArray, List.getElem?_cons_succ, List.getElem?_cons_zero]; exact rfl)
          case hQ1x84 => exact fun _ _ _ h => h
          case hw1x84 => rfl
          case hy1x84 => ((intro w hSw; (try dsimp only at hSw); go_simp) <;> (with_reducible rfl))
          try simp only [Act.put, List.setIfInBounds_toArray, List.set_cons_zero, List.set_cons_succ]
          refine wpAnyH_take (i := 2) (oi := ?oi2x85) (v := ?vv2x85) ?hi2x85 (by kernel_rfl) (by kernel_rfl) (by kernel_rfl) ?hQ2x85 (Or.inl ⟨?hw2x85, ?hy2x85⟩) hHeld ?rest2x85
          case hi2x85 => (simp only [List.getElem?_toArray, List.getElem?_cons_succ, List.getElem?_cons_zero]; exact rfl)
          case hQ2x85 => exact fun _ _ _ h => h
          case hw2x85 => rfl
          case hy2x85 => ((intro w hSw; (try dsimp only at hSw); go_simp) <;> (with_reducible rfl))
          try simp only [Act.put, List.setIfInBounds_toArray, List.set_cons_zero, List.set_cons_succ]
          refine wpAnyH_take (i := 3) (oi := ?oi3x86) (v := ?vv3x86) ?hi3x86 (by kernel_rfl) (by kernel_rfl) (by kernel_rfl) ?hQ3x86 (Or.inl ⟨?hw3x86, ?hy3x86⟩) hHeld ?rest3x86
          case hi3x86 => (simp only [List.getElem?_toArray, List.getElem?_cons_succ, List.getElem?_cons_zero]; exact rfl)
          case hQ3x86 => exact fun _ _ _ h => h
          case hw3x86 => rfl
          case hy3x86 => ((intro w hSw; (try dsimp only at hSw); go_simp) <;> (with_reducible rfl))
          try simp only [Act.put, List.setIfInBounds_toArray, List.set_cons_zero, List.set_cons_succ]
          refine wpAnyH_take (i := 5) (oi := ?oi5x87) (v := ?vv5x87) ?hi5x87 (by kernel_rfl) (by kernel_rfl) (by kernel_rfl) ?hQ5x87 (Or.inl ⟨?hw5x87, ?hy5x87⟩) hHeld ?rest5x87
          case hi5x87 => (simp only [List.getElem?_toArray, List.getElem?_cons_succ, List.getElem?_cons_zero]; exact rfl)
          case hQ5x87 => exact fun _ _ _ h => h
          case hw5x87 => rfl
          case hy5x87 => ((intro w hSw; (try dsimp only at hSw); go_simp) <;> (with_reducible rfl))
          try simp only [Act.put, List.setIfInBounds_toArray, List.set_cons_zero, List.set_cons_succ]
          refine wpAnyH_take (i := 6) (oi := ?oi6x88) (v := ?vv6x88) ?hi6x88 (by kernel_rfl) (by kernel_rfl) (by kernel_rfl) ?hQ6x88 (Or.inl ⟨?hw6x88, ?hy6x88⟩) hHeld ?rest6x88
          case hi6x88 => (simp only [List.getElem?_toArray, List.getElem?_cons_succ, List.getElem?_cons_zero]; exact rfl)
          case hQ6x88 => exact fun _ _ _ h => h
          case hw6x88 => rfl
          case hy6x88 => ((intro w hSw; (try dsimp only at hSw); go_simp) <;> (with_reducible rfl))
          try simp only [Act.put, List.setIfInBounds_toArray, List.set_cons_zero, List.set_cons_succ]
          refine wpAnyH_take (i := 7) (oi := ?oi7x89) (v := ?vv7x89) ?hi7x89 (by kernel_rfl) (by kernel_rfl) (by kernel_rfl) ?hQ7x89 (Or.inl ⟨?hw7x89, ?hy7x89⟩) hHeld ?rest7x89
          case hi7x89 => (simp only [List.getElem?_toArray, List.getElem?_cons_succ, List.getElem?_cons_zero]; exact rfl)
          case hQ7x89 => exact fun _ _ _ h => h
          case hw7x89 => rfl
          case hy7x89 => ((intro w hSw; (try dsimp only at hSw); go_simp) <;> (with_reducible rfl))
          try simp only [Act.put, List.setIfInBounds_toArray, List.set_cons_zero, List.set_cons_succ]
          refine wpAnyH_take (i := 8) (oi := ?oi8x90) (v := ?vv8x90) ?hi8x90 (by kernel_rfl) (by kernel_rfl) (by kernel_rfl) ?hQ8x90 (Or.inl ⟨?hw8x90, ?hy8x90⟩) hHeld ?rest8x90
          case hi8x90 => (simp only [List.getElem?_toArray, List.getElem?_cons_succ, List.getElem?_cons_zero]; exact rfl)
          case hQ8x90 => exact fun _ _ _ h => h
          case hw8x90 => rfl
          case hy8x90 => ((intro w hSw; (try dsimp only at hSw); go_simp) <;> (with_reducible rfl))
          try simp only [Act.put, List.setIfInBounds_toArray, List.set_cons_zero, List.set_cons_succ]
          refine wpAnyH_ready (rs := [4]) (by kernel_rfl) (by simp) ?_
          refine AllReadyH.cons (o := ?o4y95) ?ho4y95 (fun KK hKK => ?st4y95) (AllReadyH.nil)
          case ho4y95 => (simp only [List.getElem?_toArray, List.getElem?_cons_succ, List.getElem?_cons_zero]; exact rfl)
          rw [if_pos (by rfl)]
          go_simp
          go_at_call 67
          refine (Tryz.cmp_Compare_int _ _ _).mono ?_; rintro r wa ⟨rfl, rfl⟩
          refine hKK.out _ _ hHeld (fun hHeld => ?_)
          clear hKK KK
          try simp only [Act.put, List.setIfInBounds_toArray, List.set_cons_zero, List.set_cons_succ]
          refine wpAnyH_ready (rs := [9]) (by kernel_rfl) (by simp) ?_
          refine AllReadyH.cons (o := ?o9y94) ?ho9y94 (fun KK hKK => ?st9y94) (AllReadyH.nil)
          case ho9y94 => (simp only [List.getElem?_toArray, List.getElem?_cons_succ, List.getElem?_cons_zero]; exact rfl)
          rw [if_pos (by rfl)]
          go_simp
          go_at_call 67
          refine (Tryz.cmp_Compare_int _ _ _).mono ?_; rintro r wa ⟨rfl, rfl⟩
          refine hKK.out _ _ hHeld (fun hHeld => ?_)
          clear hKK KK
          try simp only [Act.put, List.setIfInBounds_toArray, List.set_cons_zero, List.set_cons_succ]
          refine wpAnyH_ready (rs := [10]) (by kernel_rfl) (by simp) ?_
          refine AllReadyH.cons (o := ?o10y93) ?ho10y93 (fun KK hKK => ?st10y93) (AllReadyH.nil)
          case ho10y93 => (simp only [List.getElem?_toArray, List.getElem?_cons_succ, List.getElem?_cons_zero]; exact rfl)
          refine step_bI2 (p := Lib.compareInt a.n b.n) (q := Lib.compareInt a.x b.x) (by simp only [List.getElem?_toArray, List.getElem?_cons_succ, List.getElem?_cons_zero, Option.getD_some]) (by simp only [List.getElem?_toArray, List.getElem?_cons_succ, List.getElem?_cons_zero, Option.getD_some]) ?_
          have hz := hS2 _ _ hHeld (Below.one _ (.cells #[.int .i64 (Lib.compareInt a.n b.n), .int .i64 (Lib.compareInt a.x b.x)] 3))
          refine hKK.out _ _ hz (fun hHeld => ?_)
          clear hKK KK
          try simp only [Act.put, List.setIfInBounds_toArray, List.set_cons_zero, List.set_cons_succ]
          refine wpAnyH_ready (rs := [11]) (by kernel_rfl) (by simp) ?_
          refine AllReadyH.cons (o := ?o11y92) ?ho11y92 (fun KK hKK => ?st11y92) (AllReadyH.nil)
          case ho11y92 => (simp only [List.getElem?_toArray, List.getElem?_cons_succ, List.getElem?_cons_zero]; exact rfl)
          rw [if_pos (by rfl)]
          go_simp
          go_at_call 68
          refine (g_Or2 _ _ _ _ _ (Blk.new _ _ _)).mono ?_; rintro r wb ⟨rfl, rfl⟩
          refine hKK.out _ _ hHeld (fun hHeld => ?_)
          clear hKK KK
          try simp only [Act.put, List.setIfInBounds_toArray, List.set_cons_zero, List.set_cons_succ]
          refine wpAnyH_take (i := 12) (oi := ?oi12x91) (v := ?vv12x91) ?hi12x91 (by kernel_rfl) (by kernel_rfl) (by kernel_rfl) ?hQ12x91 (Or.inl ⟨?hw12x91, ?hy12x91⟩) hHeld ?rest12x91
          case hi12x91 => (simp only [List.getElem?_toArray, List.getElem?_cons_succ, List.getElem?_cons_zero]; exact rfl)
          case hQ12x91 => exact fun _ _ _ h => h
          case hw12x91 => rfl
          case hy12x91 => ((intro w hSw; (try dsimp only at hSw); go_simp) <;> (with_reducible rfl))
          try simp only [Act.put, List.setIfInBounds_toArray, List.set_cons_zero, List.set_cons_succ]
          refine wpAnyH_done (by kernel_rfl) ?_ _
          refine NoPanic.normal ?_
          have kR := hHeld.2
          clear hHeld hS2
          go_wp2_with fail
          go_ret
          exact ⟨rfl, kR⟩
end Go.Proofs.YtmnlkedacnemcaaGreatDoor
