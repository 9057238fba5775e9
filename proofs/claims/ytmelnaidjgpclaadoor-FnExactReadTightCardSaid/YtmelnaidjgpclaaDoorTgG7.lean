/- The law on GetTight. The law on ReadTight. -/
import Derived.Test.YtmelnaidjgpclaaDoorTgG6
import Derived.Test.YtmelnaidjgpclaaDoorMarkVal
import Derived.Test.YtmelnaidjgpclaaDoorBs
set_option linter.unusedVariables false
set_option maxRecDepth 100000
set_option linter.unusedSimpArgs false
namespace Go.Proofs.YtmelnaidjgpclaaDoor
open Go.RowKit

set_option maxHeartbeats 4000000 in
theorem law_GetTight (A : Option Addr) (n c : Nat) (b : List UInt8) (i : Int) (d : Int) (w : World) (h : Sl w w.heap.size 1 A n c (u8s b)) (hi : -9223372036854775808 ≤ i ∧ i ≤ 9223372036854775807) (hd : -9223372036854775808 ≤ d ∧ d ≤ 9223372036854775807) (hT : Lib.Utf8Tabs 0 1 w) :
    Calls Tryd.prog 5 #[.slice A n c, .int .i64 i, .int .i64 d] w fun e w' => e = .returned (.bool true) ∧ Below w.heap.size w w' := by
  by_cases hn : n ≤ 1048576
  rotate_left
  · go_enter Tryd.func5, Tryd.ntmps5
    go_wp2_with fail
    go_ret
    exact ⟨rfl, Below.refl _ _⟩
  have hll := h.blen
  have hto := fun w1 hb => l_toB A n c b w w1 h hn hb
  have hcn := tightR_cnt (b := b) (hll ▸ hn) i d
  have hS := fun A1 c1 lo w1 (h1 : BS w1 lo A1 n c1 b) => s_GetTight A1 n c1 b i d w1 h1.sl hn hi hd
  have hI := fun A1 c1 lo w1 (h1 : BS w1 lo A1 n c1 b) (hb1 : Below w.heap.size w w1) => i_GetTight A1 n c1 b i d w1 h1.sl hn hi hd (Utf8Tabs_below hT hb1)
  unfold GetRes at hS hI
  generalize resP (tightR b i d) = pl at hS hI
  generalize resR (tightR b i d) = x at hcn hS hI
  obtain ⟨T, kc⟩ := x
  simp only at hcn hS hI
  rw [hll] at hcn
  obtain ⟨m, hm⟩ : ∃ m, cntL T.l = m := ⟨_, rfl⟩
  have hmk := fun e lo w1 h1 h2 => l_markVal T e 1 lo w1 h1 h2 (Nat.le_refl _) (by omega)
  have hhd := fun e w1 h1 h2 => l_heldVal T e 1 w1 h1 h2 (Nat.le_refl _) (by omega)
  have hEq := fun e1 e2 w1 h1 h2 h3 h4 => l_eqVal T e1 e2 w1 h1 h2 h3 h4
  rw [hm] at hmk hhd
  clear hm hT hll h
  have K0 := Below.refl w.heap.size w
  go_enter Tryd.func5, Tryd.ntmps5
  go_wp2_with fail
  refine (hto _ K0).mono ?_; rintro e w2 ⟨A2, c2, rfl, h2, hb2⟩
  have K := K0.up hb2
  clear K0
  go_wp2_with fail
  refine (hS _ _ _ _ h2).mono ?_; rintro e w3 ⟨uW, rfl, lW, oW, hb3⟩
  replace K := K.up hb3
  have zw3 := K.size
  clear hS h2
  have BW := Blk.new w3 25 (valCells T uW)
  have zBW := BW.lt
  have kw := Below.one w3 (.cells (valCells T uW) 25)
  have toW := fun g (hg : g ∈ uW.fp) => oW.lt hg
  replace lW := lW.below (fun g hg => oW.lt hg) kw
  replace oW := oW.below (fun g hg => oW.lt hg) kw
  replace K := K.up kw
  have z_kw := kw.size
  go_wp2_with fail
  refine (hto _ K).mono ?_; rintro e w4 ⟨A4, c4, rfl, h4, hb4⟩
  replace BW := BW.below hb4 BW.lt
  replace lW := lW.below (fun g hg => oW.lt hg) hb4
  replace oW := oW.below (fun g hg => oW.lt hg) hb4
  replace K := K.up hb4
  have z_hb4 := hb4.size
  have zw4 := K.size
  have lo4 := fun g (hg : g ∈ blkOf A4) => (And.intro (h4.from_ g hg) (h4.to_ g hg))
  go_wp2_with fail
  refine (hI _ _ _ _ h4 K).mono ?_; rintro e w5 ⟨uG, rfl, lG, oG, hb5⟩
  replace BW := BW.below hb5 BW.lt
  replace lW := lW.below (fun g hg => oW.lt hg) hb5
  replace h4 := h4.below hb5
  replace oW := oW.below (fun g hg => oW.lt hg) hb5
  replace K := K.up hb5
  have z_hb5 := hb5.size
  have frG := fun g (hg : g ∈ uG.fp) => (oG.2 g hg).1
  have toG := fun g (hg : g ∈ uG.fp) => oG.lt hg
  have BG := Blk.new w5 25 (valCells T uG)
  have kg := Below.one w5 (.cells (valCells T uG) 25)
  replace BW := BW.below kg BW.lt
  replace lW := lW.below (fun g hg => oW.lt hg) kg
  replace h4 := h4.below kg
  replace lG := lG.below (fun g hg => oG.lt hg) kg
  replace oW := oW.below (fun g hg => oW.lt hg) kg
  replace oG := oG.below (fun g hg => oG.lt hg) kg
  replace K := K.up kg
  have z_kg := kg.size
  obtain ⟨v0, v1, v2, v3, v4⟩ := BG.boxV
  obtain ⟨y0, y1, y2, y3, y4⟩ := BW.boxV
  go_wp2_with fail
  clear v0 v1 v2 v3 v4 y0 y1 y2 y3 y4
  refine (hEq uG uW _ lG lW (fun g hg => oG.lt hg) (fun g hg => oW.lt hg)).mono ?_; rintro e w6 ⟨rfl, hb6⟩
  replace BW := BW.below hb6 BW.lt
  replace BG := BG.below hb6 BG.lt
  replace lW := lW.below (fun g hg => oW.lt hg) hb6
  replace h4 := h4.below hb6
  replace lG := lG.below (fun g hg => oG.lt hg) hb6
  replace oW := oW.below (fun g hg => oW.lt hg) hb6
  replace oG := oG.below (fun g hg => oG.lt hg) hb6
  replace K := K.up hb6
  have z_hb6 := hb6.size
  go_wp2_with fail
  refine (hto _ K).mono ?_; rintro e w7 ⟨A7, c7, rfl, h7, hb7⟩
  replace BW := BW.below hb7 BW.lt
  replace BG := BG.below hb7 BG.lt
  replace lW := lW.below (fun g hg => oW.lt hg) hb7
  replace h4 := h4.below hb7
  replace lG := lG.below (fun g hg => oG.lt hg) hb7
  replace oW := oW.below (fun g hg => oW.lt hg) hb7
  replace oG := oG.below (fun g hg => oG.lt hg) hb7
  replace K := K.up hb7
  have z_hb7 := hb7.size
  go_wp2_with fail
  refine (l_eqByteS _ _ _ b _ _ _ b _ _ h4.sl h7.sl).mono ?_; rintro e w8 ⟨rfl, hd8⟩
  have hb8 := hd8.below w7.heap.size
  clear h7 hd8
  replace BW := BW.below hb8 BW.lt
  replace BG := BG.below hb8 BG.lt
  replace lW := lW.below (fun g hg => oW.lt hg) hb8
  replace h4 := h4.below hb8
  replace lG := lG.below (fun g hg => oG.lt hg) hb8
  replace oW := oW.below (fun g hg => oW.lt hg) hb8
  replace oG := oG.below (fun g hg => oG.lt hg) hb8
  replace K := K.up hb8
  have z_hb8 := hb8.size
  go_wp2_with fail
  refine (l_markByteS A4 n c4 b 1 _ _ h4 (by omega) (by omega)).mono ?_; rintro e w9 ⟨rfl, h49, hf9⟩
  have n4W : ∀ g ∈ uW.fp, g ∉ blkOf A4 := fun g hg h5 => by have := toW g hg; have := (lo4 g h5).1; simp at this; omega
  have n4G : ∀ g ∈ uG.fp, g ∉ blkOf A4 := fun g hg h5 => by have := frG g hg; have := (lo4 g h5).2; omega
  have zw8 := K.size
  have kf9 := hf9.below (B := w.heap.size) (fun g hg => by have := (lo4 g hg).1; simp at this; omega) (by omega)
  replace K := K.trans kf9
  replace BW := (hf9.block _ BW.lt (fun h5 => by have := (lo4 _ h5).1; simp at this; omega)).trans BW
  replace BG := (hf9.block _ BG.lt (fun h5 => by have := (lo4 _ h5).2; omega)).trans BG
  replace lW := lW.fr hf9 (fun g hg => oW.lt hg) n4W
  replace oW := oW.fr hf9 n4W
  replace lG := lG.fr hf9 (fun g hg => oG.lt hg) n4G
  replace oG := oG.fr hf9 n4G
  have z_9 := hf9.size
  clear h4 h49 hf9 kf9
  have hng9 : ¬ ((1 + n : Nat) : Int) < 0 := by omega
  have hng8 : decide (((1 + n : Nat) : Int) < 0) = false := by simp; omega
  have BG2 : Blk w9 w5.heap.size 25 (valCells T uG) := BG
  have BW2 : Blk w9 w3.heap.size 25 (valCells T uW) := BW
  clear BG BW
  have BG := BG2
  have BW := BW2
  clear BG2 BW2
  obtain ⟨v0, v1, v2, v3, v4⟩ := BG.boxV
  obtain ⟨y0, y1, y2, y3, y4⟩ := BW.boxV
  go_wp2_with fail
  clear v0 v1 v2 v3 v4 y0 y1 y2 y3 y4
  refine (hEq uG uW _ lG lW (fun g hg => oG.lt hg) (fun g hg => oW.lt hg)).mono ?_; rintro e wA ⟨rfl, hbA⟩
  replace BW := BW.below hbA BW.lt
  replace BG := BG.below hbA BG.lt
  replace lW := lW.below (fun g hg => oW.lt hg) hbA
  replace lG := lG.below (fun g hg => oG.lt hg) hbA
  replace oW := oW.below (fun g hg => oW.lt hg) hbA
  replace oG := oG.below (fun g hg => oG.lt hg) hbA
  replace K := K.up hbA
  have z_hbA := hbA.size
  obtain ⟨v0, v1, v2, v3, v4⟩ := BG.boxV
  go_wp2_with fail
  clear v0 v1 v2 v3 v4
  refine (hmk uG _ _ lG oG).mono ?_; rintro e wB ⟨rfl, lM, oM, hfB⟩
  have nWG : ∀ g ∈ uW.fp, g ∉ uG.fp := fun g hg h5 => by have := toW g hg; have := frG g h5; omega
  have zwA := K.size
  have kfB := hfB.below (B := w.heap.size) (fun g hg => by have := frG g hg; omega) (by omega)
  replace K := K.trans kfB
  have BW2 : Blk wB w3.heap.size 25 (valCells T uW) := (hfB.block _ BW.lt (fun h5 => by have := frG _ h5; omega)).trans BW
  have BG2 : Blk wB w5.heap.size 25 (valCells T uG) := (hfB.block _ BG.lt (fun h5 => by have := toG _ h5; omega)).trans BG
  replace lW := lW.fr hfB (fun g hg => oW.lt hg) nWG
  replace oW := oW.fr hfB nWG
  have z_B := hfB.size
  clear lG oG BW BG hfB kfB
  have BW := BW2
  have BG := BG2
  have lG := lM
  have oG := oM
  clear BW2 BG2 lM oM
  obtain ⟨v0, v1, v2, v3, v4⟩ := BG.boxV
  go_wp2_with fail
  clear v0 v1 v2 v3 v4
  refine (hhd uG _ lG (fun g hg => oG.lt hg)).mono ?_; rintro e wC ⟨rfl, hbC⟩
  replace BW := BW.below hbC BW.lt
  replace BG := BG.below hbC BG.lt
  replace lW := lW.below (fun g hg => oW.lt hg) hbC
  replace lG := lG.below (fun g hg => oG.lt hg) hbC
  replace oW := oW.below (fun g hg => oW.lt hg) hbC
  replace oG := oG.below (fun g hg => oG.lt hg) hbC
  replace K := K.up hbC
  have z_hbC := hbC.size
  have hngC : ¬ ((1 + m : Nat) : Int) < 0 := by omega
  go_wp2_with fail
  refine (hto _ K).mono ?_; rintro e wD ⟨AD, cD, rfl, hD, hbD⟩
  replace BW := BW.below hbD BW.lt
  replace BG := BG.below hbD BG.lt
  replace lW := lW.below (fun g hg => oW.lt hg) hbD
  replace lG := lG.below (fun g hg => oG.lt hg) hbD
  replace oW := oW.below (fun g hg => oW.lt hg) hbD
  replace oG := oG.below (fun g hg => oG.lt hg) hbD
  replace K := K.up hbD
  have z_hbD := hbD.size
  go_wp2_with fail
  refine (hI _ _ _ _ hD K).mono ?_; rintro e wE ⟨uH, rfl, lH, oH, hbE⟩
  replace BW := BW.below hbE BW.lt
  replace BG := BG.below hbE BG.lt
  replace lW := lW.below (fun g hg => oW.lt hg) hbE
  replace lG := lG.below (fun g hg => oG.lt hg) hbE
  replace oW := oW.below (fun g hg => oW.lt hg) hbE
  replace oG := oG.below (fun g hg => oG.lt hg) hbE
  replace K := K.up hbE
  have z_hbE := hbE.size
  have BH := Blk.new wE 25 (valCells T uH)
  have kh := Below.one wE (.cells (valCells T uH) 25)
  replace BW := BW.below kh BW.lt
  replace BG := BG.below kh BG.lt
  replace lW := lW.below (fun g hg => oW.lt hg) kh
  replace lG := lG.below (fun g hg => oG.lt hg) kh
  replace lH := lH.below (fun g hg => oH.lt hg) kh
  replace oW := oW.below (fun g hg => oW.lt hg) kh
  replace oG := oG.below (fun g hg => oG.lt hg) kh
  replace oH := oH.below (fun g hg => oH.lt hg) kh
  replace K := K.up kh
  have z_kh := kh.size
  obtain ⟨v0, v1, v2, v3, v4⟩ := BH.boxV
  obtain ⟨y0, y1, y2, y3, y4⟩ := BW.boxV
  go_wp2_with fail
  clear v0 v1 v2 v3 v4 y0 y1 y2 y3 y4
  refine (hEq uH uW _ lH lW (fun g hg => oH.lt hg) (fun g hg => oW.lt hg)).mono ?_; rintro e wF ⟨rfl, hbF⟩
  replace BW := BW.below hbF BW.lt
  replace BG := BG.below hbF BG.lt
  replace BH := BH.below hbF BH.lt
  replace lW := lW.below (fun g hg => oW.lt hg) hbF
  replace lG := lG.below (fun g hg => oG.lt hg) hbF
  replace lH := lH.below (fun g hg => oH.lt hg) hbF
  replace oW := oW.below (fun g hg => oW.lt hg) hbF
  replace oG := oG.below (fun g hg => oG.lt hg) hbF
  replace oH := oH.below (fun g hg => oH.lt hg) hbF
  replace K := K.up hbF
  have z_hbF := hbF.size
  obtain ⟨v0, v1, v2, v3, v4⟩ := BG.boxV
  go_wp2_with fail
  clear v0 v1 v2 v3 v4
  refine (hhd uG _ lG (fun g hg => oG.lt hg)).mono ?_; rintro e wI ⟨rfl, hbI⟩
  replace K := K.up hbI
  go_wp2_with fail
  go_ret
  exact ⟨rfl, K⟩
end Go.Proofs.YtmelnaidjgpclaaDoor

namespace Go.Proofs.YtmelnaidjgpclaaDoor
open Go.RowKit

set_option maxHeartbeats 4000000 in
theorem law_ReadTight (A : Option Addr) (n c : Nat) (b : List UInt8) (d : Int) (w : World) (h : Sl w w.heap.size 1 A n c (u8s b)) (hd : -9223372036854775808 ≤ d ∧ d ≤ 9223372036854775807) (hT : Lib.Utf8Tabs 0 1 w) :
    Calls Tryd.prog 6 #[.slice A n c, .int .i64 d] w fun e w' => e = .returned (.bool true) ∧ Below w.heap.size w w' := by
  by_cases hn : n ≤ 1048576
  rotate_left
  · go_enter Tryd.func6, Tryd.ntmps6
    go_wp2_with fail
    go_ret
    exact ⟨rfl, Below.refl _ _⟩
  have hll := h.blen
  have hto := fun w1 hb => l_toB A n c b w w1 h hn hb
  have hcn := readTight_cnt (b := b) (hll ▸ hn) d
  have hS := fun A1 c1 lo w1 (h1 : BS w1 lo A1 n c1 b) => s_ReadTight A1 n c1 b d w1 h1.sl hn hd
  have hI := fun A1 c1 lo w1 (h1 : BS w1 lo A1 n c1 b) (hb1 : Below w.heap.size w w1) => i_ReadTight A1 n c1 b d w1 h1.sl hn hd (Utf8Tabs_below hT hb1)
  unfold ReadRes at hS hI
  generalize readTight b d = x at hcn hS hI
  obtain ⟨T, kc⟩ := x
  simp only at hcn hS hI
  rw [hll] at hcn
  obtain ⟨m, hm⟩ : ∃ m, cntL T.l = m := ⟨_, rfl⟩
  have hmk := fun e lo w1 h1 h2 => l_markVal T e 1 lo w1 h1 h2 (Nat.le_refl _) (by omega)
  have hhd := fun e w1 h1 h2 => l_heldVal T e 1 w1 h1 h2 (Nat.le_refl _) (by omega)
  have hEq := fun e1 e2 w1 h1 h2 h3 h4 => l_eqVal T e1 e2 w1 h1 h2 h3 h4
  rw [hm] at hmk hhd
  clear hm hT hll h
  have K0 := Below.refl w.heap.size w
  go_enter Tryd.func6, Tryd.ntmps6
  go_wp2_with fail
  refine (hto _ K0).mono ?_; rintro e w2 ⟨A2, c2, rfl, h2, hb2⟩
  have K := K0.up hb2
  clear K0
  go_wp2_with fail
  refine (hS _ _ _ _ h2).mono ?_; rintro e w3 ⟨uW, rfl, lW, oW, hb3⟩
  replace K := K.up hb3
  have zw3 := K.size
  clear hS h2
  have BW := Blk.new w3 25 (valCells T uW)
  have zBW := BW.lt
  have kw := Below.one w3 (.cells (valCells T uW) 25)
  have toW := fun g (hg : g ∈ uW.fp) => oW.lt hg
  replace lW := lW.below (fun g hg => oW.lt hg) kw
  replace oW := oW.below (fun g hg => oW.lt hg) kw
  replace K := K.up kw
  have z_kw := kw.size
  go_wp2_with fail
  refine (hto _ K).mono ?_; rintro e w4 ⟨A4, c4, rfl, h4, hb4⟩
  replace BW := BW.below hb4 BW.lt
  replace lW := lW.below (fun g hg => oW.lt hg) hb4
  replace oW := oW.below (fun g hg => oW.lt hg) hb4
  replace K := K.up hb4
  have z_hb4 := hb4.size
  have zw4 := K.size
  have lo4 := fun g (hg : g ∈ blkOf A4) => (And.intro (h4.from_ g hg) (h4.to_ g hg))
  go_wp2_with fail
  refine (hI _ _ _ _ h4 K).mono ?_; rintro e w5 ⟨uG, rfl, lG, oG, hb5⟩
  replace BW := BW.below hb5 BW.lt
  replace lW := lW.below (fun g hg => oW.lt hg) hb5
  replace h4 := h4.below hb5
  replace oW := oW.below (fun g hg => oW.lt hg) hb5
  replace K := K.up hb5
  have z_hb5 := hb5.size
  have frG := fun g (hg : g ∈ uG.fp) => (oG.2 g hg).1
  have toG := fun g (hg : g ∈ uG.fp) => oG.lt hg
  have BG := Blk.new w5 25 (valCells T uG)
  have kg := Below.one w5 (.cells (valCells T uG) 25)
  replace BW := BW.below kg BW.lt
  replace lW := lW.below (fun g hg => oW.lt hg) kg
  replace h4 := h4.below kg
  replace lG := lG.below (fun g hg => oG.lt hg) kg
  replace oW := oW.below (fun g hg => oW.lt hg) kg
  replace oG := oG.below (fun g hg => oG.lt hg) kg
  replace K := K.up kg
  have z_kg := kg.size
  obtain ⟨v0, v1, v2, v3, v4⟩ := BG.boxV
  obtain ⟨y0, y1, y2, y3, y4⟩ := BW.boxV
  go_wp2_with fail
  clear v0 v1 v2 v3 v4 y0 y1 y2 y3 y4
  refine (hEq uG uW _ lG lW (fun g hg => oG.lt hg) (fun g hg => oW.lt hg)).mono ?_; rintro e w6 ⟨rfl, hb6⟩
  replace BW := BW.below hb6 BW.lt
  replace BG := BG.below hb6 BG.lt
  replace lW := lW.below (fun g hg => oW.lt hg) hb6
  replace h4 := h4.below hb6
  replace lG := lG.below (fun g hg => oG.lt hg) hb6
  replace oW := oW.below (fun g hg => oW.lt hg) hb6
  replace oG := oG.below (fun g hg => oG.lt hg) hb6
  replace K := K.up hb6
  have z_hb6 := hb6.size
  go_wp2_with fail
  refine (hto _ K).mono ?_; rintro e w7 ⟨A7, c7, rfl, h7, hb7⟩
  replace BW := BW.below hb7 BW.lt
  replace BG := BG.below hb7 BG.lt
  replace lW := lW.below (fun g hg => oW.lt hg) hb7
  replace h4 := h4.below hb7
  replace lG := lG.below (fun g hg => oG.lt hg) hb7
  replace oW := oW.below (fun g hg => oW.lt hg) hb7
  replace oG := oG.below (fun g hg => oG.lt hg) hb7
  replace K := K.up hb7
  have z_hb7 := hb7.size
  go_wp2_with fail
  refine (l_eqByteS _ _ _ b _ _ _ b _ _ h4.sl h7.sl).mono ?_; rintro e w8 ⟨rfl, hd8⟩
  have hb8 := hd8.below w7.heap.size
  clear h7 hd8
  replace BW := BW.below hb8 BW.lt
  replace BG := BG.below hb8 BG.lt
  replace lW := lW.below (fun g hg => oW.lt hg) hb8
  replace h4 := h4.below hb8
  replace lG := lG.below (fun g hg => oG.lt hg) hb8
  replace oW := oW.below (fun g hg => oW.lt hg) hb8
  replace oG := oG.below (fun g hg => oG.lt hg) hb8
  replace K := K.up hb8
  have z_hb8 := hb8.size
  go_wp2_with fail
  refine (l_markByteS A4 n c4 b 1 _ _ h4 (by omega) (by omega)).mono ?_; rintro e w9 ⟨rfl, h49, hf9⟩
  have n4W : ∀ g ∈ uW.fp, g ∉ blkOf A4 := fun g hg h5 => by have := toW g hg; have := (lo4 g h5).1; simp at this; omega
  have n4G : ∀ g ∈ uG.fp, g ∉ blkOf A4 := fun g hg h5 => by have := frG g hg; have := (lo4 g h5).2; omega
  have zw8 := K.size
  have kf9 := hf9.below (B := w.heap.size) (fun g hg => by have := (lo4 g hg).1; simp at this; omega) (by omega)
  replace K := K.trans kf9
  replace BW := (hf9.block _ BW.lt (fun h5 => by have := (lo4 _ h5).1; simp at this; omega)).trans BW
  replace BG := (hf9.block _ BG.lt (fun h5 => by have := (lo4 _ h5).2; omega)).trans BG
  replace lW := lW.fr hf9 (fun g hg => oW.lt hg) n4W
  replace oW := oW.fr hf9 n4W
  replace lG := lG.fr hf9 (fun g hg => oG.lt hg) n4G
  replace oG := oG.fr hf9 n4G
  have z_9 := hf9.size
  clear h4 h49 hf9 kf9
  have hng9 : ¬ ((1 + n : Nat) : Int) < 0 := by omega
  have hng8 : decide (((1 + n : Nat) : Int) < 0) = false := by simp; omega
  have BG2 : Blk w9 w5.heap.size 25 (valCells T uG) := BG
  have BW2 : Blk w9 w3.heap.size 25 (valCells T uW) := BW
  clear BG BW
  have BG := BG2
  have BW := BW2
  clear BG2 BW2
  obtain ⟨v0, v1, v2, v3, v4⟩ := BG.boxV
  obtain ⟨y0, y1, y2, y3, y4⟩ := BW.boxV
  go_wp2_with fail
  clear v0 v1 v2 v3 v4 y0 y1 y2 y3 y4
  refine (hEq uG uW _ lG lW (fun g hg => oG.lt hg) (fun g hg => oW.lt hg)).mono ?_; rintro e wA ⟨rfl, hbA⟩
  replace BW := BW.below hbA BW.lt
  replace BG := BG.below hbA BG.lt
  replace lW := lW.below (fun g hg => oW.lt hg) hbA
  replace lG := lG.below (fun g hg => oG.lt hg) hbA
  replace oW := oW.below (fun g hg => oW.lt hg) hbA
  replace oG := oG.below (fun g hg => oG.lt hg) hbA
  replace K := K.up hbA
  have z_hbA := hbA.size
  obtain ⟨v0, v1, v2, v3, v4⟩ := BG.boxV
  go_wp2_with fail
  clear v0 v1 v2 v3 v4
  refine (hmk uG _ _ lG oG).mono ?_; rintro e wB ⟨rfl, lM, oM, hfB⟩
  have nWG : ∀ g ∈ uW.fp, g ∉ uG.fp := fun g hg h5 => by have := toW g hg; have := frG g h5; omega
  have zwA := K.size
  have kfB := hfB.below (B := w.heap.size) (fun g hg => by have := frG g hg; omega) (by omega)
  replace K := K.trans kfB
  have BW2 : Blk wB w3.heap.size 25 (valCells T uW) := (hfB.block _ BW.lt (fun h5 => by have := frG _ h5; omega)).trans BW
  have BG2 : Blk wB w5.heap.size 25 (valCells T uG) := (hfB.block _ BG.lt (fun h5 => by have := toG _ h5; omega)).trans BG
  replace lW := lW.fr hfB (fun g hg => oW.lt hg) nWG
  replace oW := oW.fr hfB nWG
  have z_B := hfB.size
  clear lG oG BW BG hfB kfB
  have BW := BW2
  have BG := BG2
  have lG := lM
  have oG := oM
  clear BW2 BG2 lM oM
  obtain ⟨v0, v1, v2, v3, v4⟩ := BG.boxV
  go_wp2_with fail
  clear v0 v1 v2 v3 v4
  refine (hhd uG _ lG (fun g hg => oG.lt hg)).mono ?_; rintro e wC ⟨rfl, hbC⟩
  replace BW := BW.below hbC BW.lt
  replace BG := BG.below hbC BG.lt
  replace lW := lW.below (fun g hg => oW.lt hg) hbC
  replace lG := lG.below (fun g hg => oG.lt hg) hbC
  replace oW := oW.below (fun g hg => oW.lt hg) hbC
  replace oG := oG.below (fun g hg => oG.lt hg) hbC
  replace K := K.up hbC
  have z_hbC := hbC.size
  have hngC : ¬ ((1 + m : Nat) : Int) < 0 := by omega
  go_wp2_with fail
  refine (hto _ K).mono ?_; rintro e wD ⟨AD, cD, rfl, hD, hbD⟩
  replace BW := BW.below hbD BW.lt
  replace BG := BG.below hbD BG.lt
  replace lW := lW.below (fun g hg => oW.lt hg) hbD
  replace lG := lG.below (fun g hg => oG.lt hg) hbD
  replace oW := oW.below (fun g hg => oW.lt hg) hbD
  replace oG := oG.below (fun g hg => oG.lt hg) hbD
  replace K := K.up hbD
  have z_hbD := hbD.size
  go_wp2_with fail
  refine (hI _ _ _ _ hD K).mono ?_; rintro e wE ⟨uH, rfl, lH, oH, hbE⟩
  replace BW := BW.below hbE BW.lt
  replace BG := BG.below hbE BG.lt
  replace lW := lW.below (fun g hg => oW.lt hg) hbE
  replace lG := lG.below (fun g hg => oG.lt hg) hbE
  replace oW := oW.below (fun g hg => oW.lt hg) hbE
  replace oG := oG.below (fun g hg => oG.lt hg) hbE
  replace K := K.up hbE
  have z_hbE := hbE.size
  have BH := Blk.new wE 25 (valCells T uH)
  have kh := Below.one wE (.cells (valCells T uH) 25)
  replace BW := BW.below kh BW.lt
  replace BG := BG.below kh BG.lt
  replace lW := lW.below (fun g hg => oW.lt hg) kh
  replace lG := lG.below (fun g hg => oG.lt hg) kh
  replace lH := lH.below (fun g hg => oH.lt hg) kh
  replace oW := oW.below (fun g hg => oW.lt hg) kh
  replace oG := oG.below (fun g hg => oG.lt hg) kh
  replace oH := oH.below (fun g hg => oH.lt hg) kh
  replace K := K.up kh
  have z_kh := kh.size
  obtain ⟨v0, v1, v2, v3, v4⟩ := BH.boxV
  obtain ⟨y0, y1, y2, y3, y4⟩ := BW.boxV
  go_wp2_with fail
  clear v0 v1 v2 v3 v4 y0 y1 y2 y3 y4
  refine (hEq uH uW _ lH lW (fun g hg => oH.lt hg) (fun g hg => oW.lt hg)).mono ?_; rintro e wF ⟨rfl, hbF⟩
  replace BW := BW.below hbF BW.lt
  replace BG := BG.below hbF BG.lt
  replace BH := BH.below hbF BH.lt
  replace lW := lW.below (fun g hg => oW.lt hg) hbF
  replace lG := lG.below (fun g hg => oG.lt hg) hbF
  replace lH := lH.below (fun g hg => oH.lt hg) hbF
  replace oW := oW.below (fun g hg => oW.lt hg) hbF
  replace oG := oG.below (fun g hg => oG.lt hg) hbF
  replace oH := oH.below (fun g hg => oH.lt hg) hbF
  replace K := K.up hbF
  have z_hbF := hbF.size
  obtain ⟨v0, v1, v2, v3, v4⟩ := BG.boxV
  go_wp2_with fail
  clear v0 v1 v2 v3 v4
  refine (hhd uG _ lG (fun g hg => oG.lt hg)).mono ?_; rintro e wI ⟨rfl, hbI⟩
  replace K := K.up hbI
  go_wp2_with fail
  go_ret
  exact ⟨rfl, K⟩
end Go.Proofs.YtmelnaidjgpclaaDoor
