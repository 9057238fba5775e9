/- The program's reader of the compact format: fail, ends. The program's reader of the compact format: head. The program's reader of the compact format: bytes. The program's reader of the compact format: simple. The program's reader of the compact format: text of a definite length. The program's reader of the compact format: text of parts. -/
import Derived.Test.YtmelnaidjgpclaaGreatDoorToBase
import Derived.Test.YtmelnaidjgpclaaGreatDoorToM4
import Derived.Deep.Cut
import Derived.Deep.CutBlock
import Derived.Deep.DeepCutAuto
import Derived.Deep.RegionLaw
import Derived.Deep.RegionHeld3
import Derived.BigRegion
import Derived.Deep.QuietTactic
import Derived.BigQuiet
import Derived.Test.YtmelnaidjgpclaaGreatDoorGr
set_option linter.unusedVariables false
set_option maxRecDepth 100000
set_option linter.unusedSimpArgs false
namespace Go.Proofs.YtmelnaidjgpclaaGreatDoor
open Go.RowKit

/-- The reader in block g: its bytes, its place, its code. -/
structure QR (w : World) (g : Nat) (A : Option Addr) (n c : Nat) (b : List UInt8) (i code : Int) : Prop where
  blk : Blk w g 55 #[.slice A n c, .int .i64 i, .int .i64 code]
  sl : Sl w g 1 A n c (u8s b)
  bd : n ≤ 1048576
section
variable {w w' : World} {g n c B : Nat} {A : Option Addr} {b : List UInt8} {i code : Int}
theorem QR.below (h : QR w g A n c b i code) (hb : Below B w w') (hg : g < B) : QR w' g A n c b i code := ⟨h.blk.below hb hg, h.sl.below (hb.mono (Nat.le_of_lt hg)), h.bd⟩
theorem QR.setAt (h : QR w g A n c b i code) (q : Int) : QR (w.setCell ⟨g, 1, none⟩ (.int .i64 q)) g A n c b q code := ⟨by simpa using h.blk.set_ 1 (.int .i64 q), h.sl.setCell (Nat.le_refl _) _, h.bd⟩
theorem QR.setCode (h : QR w g A n c b i code) (k : Int) : QR (w.setCell ⟨g, 2, none⟩ (.int .i64 k)) g A n c b i k := ⟨by simpa using h.blk.set_ 2 (.int .i64 k), h.sl.setCell (Nat.le_refl _) _, h.bd⟩
theorem QR.cells (h : QR w g A n c b i code) : w.cell? ⟨g, 0, none⟩ = some (.slice A n c) ∧ w.cell? ⟨g, 1, none⟩ = some (.int .i64 i) ∧ w.cell? ⟨g, 2, none⟩ = some (.int .i64 code) := ⟨h.blk.cell 0, h.blk.cell 1, h.blk.cell 2⟩
theorem QR.set5_ {g2 o : Nat} {t : Tr} {e : El} (h : QR w g A n c b i code) (hg : g < g2) : QR (set5 w g2 o t e) g A n c b i code :=
  ⟨h.blk.far5 (by omega), ((((h.sl.setCell (p := ⟨g2, o, none⟩) (Nat.le_of_lt hg) _).setCell (p := ⟨g2, o + 1, none⟩) (Nat.le_of_lt hg) _).setCell (p := ⟨g2, o + 2, none⟩) (Nat.le_of_lt hg) _).setCell (p := ⟨g2, o + 3, none⟩) (Nat.le_of_lt hg) _).setCell (p := ⟨g2, o + 4, none⟩) (Nat.le_of_lt hg) _, h.bd⟩
end
def FailQ (w w' : World) (g : Nat) (A : Option Addr) (n c : Nat) (b : List UInt8) (i k : Int) (r : Ending) : Prop := r = .returned (trV zeroT ⟨none, 0, 0, []⟩) ∧ QR w' g A n c b i k ∧ Fr [g] w w'
theorem i_tfail (g : Nat) (A : Option Addr) (n c : Nat) (b : List UInt8) (i k : Int) (w : World) (h : QR w g A n c b i 0) :
    Calls Tryz.prog 75 #[.pointer (some ⟨g, 0, none⟩), .int .i64 k] w fun r w' => FailQ w w' g A n c b i k r := by
  have k1 := Below.one w (.cells #[.int .i64 0, .int .i64 0, .int .i64 0, .string ⟨#[]⟩, .slice none 0 0] 28)
  have h1 := h.below k1 h.blk.lt
  have hZ := Blk.new w 28 #[.int .i64 0, .int .i64 0, .int .i64 0, .string ⟨#[]⟩, .slice none 0 0]
  have hfr := Fr.of_below (fp := [g]) k1
  have hgl := h.blk.lt
  go_enter Tryz.func75, Tryz.ntmps75
  go_upto_region 1 with fail
  generalize w.alloc (.cells #[.int .i64 0, .int .i64 0, .int .i64 0, .string ⟨#[]⟩, .slice none 0 0] 28) = wd at h1 hZ hfr ⊢
  obtain ⟨c0, c1, c2⟩ := h1.cells
  have f2 := h1.blk.frozen 2
  have h2 := h1.setCode k
  have hZ2 := hZ.far (p := ⟨g, 2, none⟩) (by show w.heap.size ≠ g; omega) (.int .i64 k)
  have hf2 : Fr [g] w (wd.setCell ⟨g, 2, none⟩ (.int .i64 k)) := hfr.setCell (by simp) _
  obtain ⟨x0, x1, x2, x3, x4, ⟨s0, t0⟩, ⟨s1, t1⟩, ⟨s2, t2⟩, ⟨s3, t3⟩, s4, t4⟩ := hZ2.five (o := 0) (by simp) (.int .i64 0) (.int .i64 0) (.int .i64 0) (.string ⟨#[]⟩)
  go_wp2_with fail
  have hblk : Blk (set5 (wd.setCell ⟨g, 2, none⟩ (.int .i64 k)) w.heap.size 0 zeroT ⟨none, 0, 0, []⟩) w.heap.size 28 _ := Blk.five_ hZ2 zeroT ⟨none, 0, 0, []⟩
  have hT := h2.set5_ (g2 := w.heap.size) (o := 0) (t := zeroT) (e := ⟨none, 0, 0, []⟩) hgl
  have hfr9 : Fr [g] w (set5 (wd.setCell ⟨g, 2, none⟩ (.int .i64 k)) w.heap.size 0 zeroT ⟨none, 0, 0, []⟩) := fr_new5 hf2 (Nat.le_refl _)
  have hres := fun (tm : Array Value) (hp : tm.getD 4 undef = .pointer (some ⟨w.heap.size, 0, none⟩)) => results_blk (P := Tryz.prog) (tmps := tm) Tryz.results75 Tryz.isAgg28 (by exact Tryz.sizeOf28) hp hblk
  refine bodyPost_ret (hres _ rfl) rfl ?_
  exact ⟨rfl, hT, hfr9⟩
set_option maxHeartbeats 2000000 in
theorem i_tends (g : Nat) (A : Option Addr) (n c : Nat) (b : List UInt8) (q : Nat) (w : World) (h : QR w g A n c b q 0) :
    Calls Tryz.prog 113 #[.pointer (some ⟨g, 0, none⟩)] w fun r w' => r = .returned (.bool (decide (b[q]? = some 255))) ∧ Below w.heap.size w w' := by
  have hbl := h.sl.blen
  have hgl := h.blk.lt
  have hbd := h.bd
  by_cases hq : q < n
  · obtain ⟨g2, o, rfl, hg, hjl, hc⟩ := h.sl.byte (k := q) (by omega)
    have e : (decide (b[q]? = some 255)) = ((b[q].toNat : Int) == 255) := by
      rw [List.getElem?_eq_getElem (by omega), Bool.eq_iff_iff, decide_eq_true_iff, beq_iff_eq, Option.some.injEq, ← UInt8.toNat_inj]
      simp
      omega
    rw [e]
    generalize (b[q].toNat : Int) = y at hc
    clear e
    obtain ⟨c0, c1, c2⟩ := h.cells
    have hqn : decide ((q : Int) < (n : Int)) = true := decide_eq_true (by omega)
    go_enter Tryz.func113, Tryz.ntmps113
    go_upto_region 1 with fail
    go_quiet (fail)
    go_wp2_with fail
    go_ret
    exact ⟨rfl, Below.drewN_ _ _⟩
  · rw [List.getElem?_eq_none (by omega)]
    obtain ⟨c0, c1, c2⟩ := h.cells
    have hqn : decide ((q : Int) < (n : Int)) = false := decide_eq_false (by omega)
    go_enter Tryz.func113, Tryz.ntmps113
    go_upto_region 1 with fail
    go_quiet (fail)
    go_wp2_with fail
    go_ret
    exact ⟨rfl, Below.drewN_ _ _⟩
end Go.Proofs.YtmelnaidjgpclaaGreatDoor

namespace Go.Proofs.YtmelnaidjgpclaaGreatDoor
open Go.RowKit

theorem QR.set3_ {w : World} {g n c g2 : Nat} {A : Option Addr} {b : List UInt8} {i code : Int} {x y z : Value} (h : QR w g A n c b i code) (hg : g < g2) : QR (((w.setCell ⟨g2, 0, none⟩ x).setCell ⟨g2, 1, none⟩ y).setCell ⟨g2, 2, none⟩ z) g A n c b i code :=
  ⟨((h.blk.far (p := ⟨g2, 0, none⟩) (by show g ≠ g2; omega) x).far (p := ⟨g2, 1, none⟩) (by show g ≠ g2; omega) y).far (p := ⟨g2, 2, none⟩) (by show g ≠ g2; omega) z, ((h.sl.setCell (p := ⟨g2, 0, none⟩) (Nat.le_of_lt hg) _).setCell (p := ⟨g2, 1, none⟩) (Nat.le_of_lt hg) _).setCell (p := ⟨g2, 2, none⟩) (Nat.le_of_lt hg) _, h.bd⟩
theorem Blk.three_ {w : World} {g : Nat} {T : TypeId} {a b c : Value} (h : Blk w g T #[a, b, c]) (x y : Value) :
    ∃ x0 x1 x2, (w.cell? ⟨g, 0, none⟩ = some x0 ∧ w.frozen? ⟨g, 0, none⟩ = false) ∧ ((w.setCell ⟨g, 0, none⟩ x).cell? ⟨g, 1, none⟩ = some x1 ∧ (w.setCell ⟨g, 0, none⟩ x).frozen? ⟨g, 1, none⟩ = false) ∧ ((w.setCell ⟨g, 0, none⟩ x).setCell ⟨g, 1, none⟩ y).cell? ⟨g, 2, none⟩ = some x2 ∧ ((w.setCell ⟨g, 0, none⟩ x).setCell ⟨g, 1, none⟩ y).frozen? ⟨g, 2, none⟩ = false :=
  ⟨a, b, c, ⟨h.cell 0, h.frozen 0⟩, ⟨(show Blk _ g T #[x, b, c] by simpa using h.set_ 0 x).cell 1, (h.set_ 0 x).frozen 1⟩, (show Blk _ g T #[x, y, c] by simpa using (h.set_ 0 x).set_ 1 y).cell 2, ((h.set_ 0 x).set_ 1 y).frozen 2⟩
abbrev HeadS (w : World) (g : Nat) (A : Option Addr) (n c : Nat) (i : Int) : Prop := w.cell? ⟨g, 0, none⟩ = some (.slice A n c) ∧ w.cell? ⟨g, 1, none⟩ = some (.int .i64 i)
abbrev HeadM (w w' : World) (g : Nat) (A : Option Addr) (n c : Nat) (b : List UInt8) (i mj m wd : Int) (gf : Nat) : Prop := QR w' g A n c b i 0 ∧ Blk w' w.heap.size 36 #[.int .i64 0, .int .i64 0, .int .i64 0] ∧ Blk w' gf 36 #[.int .i64 mj, .int .i64 m, .int .i64 wd] ∧ Fr [g] w w' ∧ w.heap.size < gf
theorem head_meet1 {w wz w6 : World} {g n c : Nat} {A : Option Addr} {b : List UInt8} {i mj m wd : Int} (hT : QR wz g A n c b i 0) (hZ : Blk wz w.heap.size 36 #[.int .i64 0, .int .i64 0, .int .i64 0]) (hf : Fr [g] w wz) (hb : Below wz.drew.heap.size wz.drew w6) (hz : w.heap.size < wz.heap.size) (hg : g < wz.heap.size) :
    HeadM w (w6.alloc (.cells #[.int .i64 mj, .int .i64 m, .int .i64 wd] 36)) g A n c b i mj m wd w6.heap.size := by
  have k6 : Below wz.heap.size wz w6 := (Below.refl wz.heap.size wz).drew.up hb
  have kk := k6.up (Below.one w6 (.cells #[.int .i64 mj, .int .i64 m, .int .i64 wd] 36))
  exact ⟨hT.below kk hg, hZ.below kk hz, Blk.new _ _ _, hf.trans (Fr.of_below kk), Nat.lt_of_lt_of_le hz k6.size⟩
theorem head_meet2 {w wz w6 : World} {g n c : Nat} {A : Option Addr} {b : List UInt8} {i mj m wd : Int} (hT : QR wz g A n c b i 0) (hZ : Blk wz w.heap.size 36 #[.int .i64 0, .int .i64 0, .int .i64 0]) (hf : Fr [g] w wz) (hb : Below (wz.alloc (.cells #[.int .i64 0, .int .i64 0, .int .i64 0] 36)).drew.heap.size (wz.alloc (.cells #[.int .i64 0, .int .i64 0, .int .i64 0] 36)).drew w6) (hz : w.heap.size < wz.heap.size) (hg : g < wz.heap.size) :
    HeadM w (((w6.setCell ⟨wz.heap.size, 0, none⟩ (.int .i64 mj)).setCell ⟨wz.heap.size, 1, none⟩ (.int .i64 m)).setCell ⟨wz.heap.size, 2, none⟩ (.int .i64 wd)) g A n c b i mj m wd wz.heap.size := by
  have k6 : Below wz.heap.size wz w6 := (Below.one wz _).drew.up hb
  have B6 := ((Blk.new wz 36 #[.int .i64 0, .int .i64 0, .int .i64 0]).drew).below hb (by simp)
  have kk := ((k6.setCell (p := ⟨wz.heap.size, 0, none⟩) (Nat.le_refl _) (.int .i64 mj)).setCell (p := ⟨wz.heap.size, 1, none⟩) (Nat.le_refl _) (.int .i64 m)).setCell (p := ⟨wz.heap.size, 2, none⟩) (Nat.le_refl _) (.int .i64 wd)
  exact ⟨hT.below kk hg, hZ.below kk hz, by simpa using ((B6.set_ 0 (.int .i64 mj)).set_ 1 (.int .i64 m)).set_ 2 (.int .i64 wd), hf.trans (Fr.of_below kk), hz⟩
def HeadP (w w' : World) (g : Nat) (A : Option Addr) (n c : Nat) (b : List UInt8) (mj m wd q cd : Int) (r : Ending) : Prop := r = .returned (.agg #[.int .i64 mj, .int .i64 m, .int .i64 wd]) ∧ QR w' g A n c b q cd ∧ Fr [g] w w'
set_option maxHeartbeats 8000000 in
theorem i_thead_bad (g : Nat) (A : Option Addr) (n c : Nat) (b : List UInt8) (i : Int) (w : World) (h : QR w g A n c b i 0) (hi : -9223372036854775808 ≤ i ∧ i ≤ 9223372036854775807) (mj m wd q cd : Int) (hG : getHead b i = (mj, m, wd, q, cd)) (hcd : cd ≠ 0) :
    Calls Tryz.prog 76 #[.pointer (some ⟨g, 0, none⟩)] w fun r w' => HeadP w w' g A n c b 0 0 0 i cd r := by
  have k1 := Below.one w (.cells #[.int .i64 0, .int .i64 0, .int .i64 0] 36)
  have h1 := h.below k1 h.blk.lt
  have hZ := Blk.new w 36 #[.int .i64 0, .int .i64 0, .int .i64 0]
  have hgl := h.blk.lt
  have hbd := h.bd
  have hfr := Fr.of_below (fp := [g]) k1
  have hcb : (cd != 0) = true := by simpa using hcd
  unfold HeadP
  go_enter Tryz.func76, Tryz.ntmps76
  go_upto_region 1 with fail
  generalize w.alloc (.cells #[.int .i64 0, .int .i64 0, .int .i64 0] 36) = wz at h1 hZ hfr ⊢
  have zd := hZ.lt
  have zg : g < wz.heap.size := Nat.lt_trans hgl zd
  have HC := fun w1 (hb : Below wz.heap.size wz w1) => i_GetHead A n c b i w1 g ((h1.sl).below (hb.mono (Nat.le_of_lt zg))) (Nat.le_trans (Nat.le_of_lt zg) hb.size) hbd hi
  rw [hG] at HC
  unfold ret5 headRet at HC
  simp only at HC
  have kd := Below.one wz (.cells #[.int .i64 0, .int .i64 0, .int .i64 0] 36)
  have hFV := fun w6 (hb6 : Below (wz.alloc (.cells #[.int .i64 0, .int .i64 0, .int .i64 0] 36)).drew.heap.size (wz.alloc (.cells #[.int .i64 0, .int .i64 0, .int .i64 0] 36)).drew w6) => (((Blk.new wz 36 #[.int .i64 0, .int .i64 0, .int .i64 0]).drew).below hb6 (by simp)).three_ (.int .i64 mj) (.int .i64 m)
  have hC1 := HC _ (Below.refl _ _).drew
  have hC2 := HC _ kd.drew
  have hS0 : ∀ w', Below wz.heap.size wz w' → HeadS w' g A n c i ∧ Below wz.heap.size wz w' := fun w' hb => ⟨⟨((h1.below hb zg).cells).1, ((h1.below hb zg).cells).2.1⟩, hb⟩
  have hS1 := hS0 _ (Below.refl wz.heap.size wz).drew
  have hS2 := hS0 _ kd.drew
  have hS3 := fun w6 (h : Below wz.drew.heap.size wz.drew w6) => hS0 w6 ((Below.refl wz.heap.size wz).drew.up h)
  have hS4 := fun w6 (h : Below (wz.alloc (.cells #[.int .i64 0, .int .i64 0, .int .i64 0] 36)).drew.heap.size (wz.alloc (.cells #[.int .i64 0, .int .i64 0, .int .i64 0] 36)).drew w6) => hS0 w6 (kd.drew.up h)
  have hS5 := fun w6 (h : HeadS w6 g A n c i ∧ Below wz.heap.size wz w6) => hS0 _ (h.2.up (Below.one w6 (.cells #[.int .i64 0, .int .i64 0, .int .i64 0] 36)))
  have hS6 := fun w6 (h : HeadS w6 g A n c i ∧ Below wz.heap.size wz w6) => hS0 _ (h.2.up (Below.one w6 (.cells #[.int .i64 mj, .int .i64 m, .int .i64 wd] 36)))
  have hS7 := fun w6 (h : HeadS w6 g A n c i ∧ Below wz.heap.size wz w6) => hS0 _ (((h.2.setCell (p := ⟨wz.heap.size, 0, none⟩) (Nat.le_refl _) (.int .i64 mj)).setCell (p := ⟨wz.heap.size, 1, none⟩) (Nat.le_refl _) (.int .i64 m)).setCell (p := ⟨wz.heap.size, 2, none⟩) (Nat.le_refl _) (.int .i64 wd))
  clear hS0 HC
  go_cut [3, 4, 5] from 6 (fun s5 s6 s7 w' => ∃ gf, s5 = .pointer (some ⟨gf, 0, none⟩) ∧ s6 = .int .i64 q ∧ s7 = .int .i64 cd ∧ HeadM w w' g A n c b i mj m wd gf)
  case first =>
    go_region_held3 (fun w' => HeadS w' g A n c i ∧ Below wz.heap.size wz w')
      (with_reducible first | exact hS1 | exact hS2 | exact hS3 _ hb6 | exact hS4 _ hb6 | exact hS5 _ hk6 | exact hS6 _ hk6 | exact hS7 _ hk6)
      (first
        | (go_at_call 111; with_reducible refine hC1.mono ?_; rintro r w6 ⟨rfl, hb6⟩; have hk6 := hS3 _ hb6)
        | (go_at_call 111; with_reducible refine hC2.mono ?_; rintro r w6 ⟨rfl, hb6⟩; have hk6 := hS4 _ hb6; obtain ⟨x0, x1, x2, ⟨s0, t0⟩, ⟨s1, t1⟩, s2, t2⟩ := hFV _ hb6))
    all_goals
      go_wp2_with fail
      go_meet
      case rel =>
        first
        | exact ⟨_, rfl, rfl, rfl, head_meet1 h1 hZ hfr hb6 zd zg⟩
        | exact ⟨_, rfl, rfl, rfl, head_meet2 h1 hZ hfr hb6 zd zg⟩
  case rest =>
    obtain ⟨gf, rfl, rfl, rfl, hT6, Z6, M6, fr6, hgf⟩ := hcut
    clear hS1 hS2 hS3 hS4 hS5 hS6 hS7 hC1 hC2 hFV kd h1 hZ hfr zd zg h k1
    have HF := i_tfail g A n c b i cd wc hT6
    unfold FailQ at HF
    obtain ⟨u, hu⟩ : ∃ u, zeroT = u := ⟨_, rfl⟩
    rw [hu] at HF
    clear hu
    have hTz := Z6.lt
    go_wp2_with (go_at_call 75; refine HF.mono ?_; rintro r w2 ⟨rfl, h2, hf2⟩; have BZ := Blk.ofFr Z6 hf2 (by omega); obtain ⟨x0, x1, x2, ⟨s0, t0⟩, ⟨s1, t1⟩, s2, t2⟩ := BZ.three_ (.int .i64 0) (.int .i64 0))
    have hblk : Blk (((w2.setCell ⟨w.heap.size, 0, none⟩ (.int .i64 0)).setCell ⟨w.heap.size, 1, none⟩ (.int .i64 0)).setCell ⟨w.heap.size, 2, none⟩ (.int .i64 0)) w.heap.size 36 #[.int .i64 0, .int .i64 0, .int .i64 0] := by simpa using ((BZ.set_ 0 (.int .i64 0)).set_ 1 (.int .i64 0)).set_ 2 (.int .i64 0)
    have hTR3 : QR (((w2.setCell ⟨w.heap.size, 0, none⟩ (.int .i64 0)).setCell ⟨w.heap.size, 1, none⟩ (.int .i64 0)).setCell ⟨w.heap.size, 2, none⟩ (.int .i64 0)) g A n c b i cd := h2.set3_ hgl
    have hfr3 := fr_new (q := ⟨w.heap.size, 2, none⟩) (fr_new (q := ⟨w.heap.size, 1, none⟩) (fr_new (q := ⟨w.heap.size, 0, none⟩) (fr6.trans hf2) (Nat.le_refl _) (.int .i64 0)) (Nat.le_refl _) (.int .i64 0)) (Nat.le_refl _) (.int .i64 0)
    have hres := fun (tm : Array Value) (hp : tm.getD 2 undef = .pointer (some ⟨w.heap.size, 0, none⟩)) => results_blk (P := Tryz.prog) (tmps := tm) Tryz.results76 Tryz.isAgg36 (by exact Tryz.sizeOf36) hp hblk
    refine bodyPost_ret (hres _ rfl) rfl ?_
    exact ⟨rfl, hTR3, hfr3⟩
set_option maxHeartbeats 8000000 in
theorem i_thead_good (g : Nat) (A : Option Addr) (n c : Nat) (b : List UInt8) (i : Int) (w : World) (h : QR w g A n c b i 0) (hi : -9223372036854775808 ≤ i ∧ i ≤ 9223372036854775807) (mj m wd q cd : Int) (hG : getHead b i = (mj, m, wd, q, cd)) (hcd : cd = 0) :
    Calls Tryz.prog 76 #[.pointer (some ⟨g, 0, none⟩)] w fun r w' => HeadP w w' g A n c b mj m wd q 0 r := by
  have k1 := Below.one w (.cells #[.int .i64 0, .int .i64 0, .int .i64 0] 36)
  have h1 := h.below k1 h.blk.lt
  have hZ := Blk.new w 36 #[.int .i64 0, .int .i64 0, .int .i64 0]
  have hgl := h.blk.lt
  have hbd := h.bd
  have hfr := Fr.of_below (fp := [g]) k1
  subst hcd
  unfold HeadP
  go_enter Tryz.func76, Tryz.ntmps76
  go_upto_region 1 with fail
  generalize w.alloc (.cells #[.int .i64 0, .int .i64 0, .int .i64 0] 36) = wz at h1 hZ hfr ⊢
  have zd := hZ.lt
  have zg : g < wz.heap.size := Nat.lt_trans hgl zd
  have HC := fun w1 (hb : Below wz.heap.size wz w1) => i_GetHead A n c b i w1 g ((h1.sl).below (hb.mono (Nat.le_of_lt zg))) (Nat.le_trans (Nat.le_of_lt zg) hb.size) hbd hi
  rw [hG] at HC
  unfold ret5 headRet at HC
  simp only at HC
  have kd := Below.one wz (.cells #[.int .i64 0, .int .i64 0, .int .i64 0] 36)
  have hFV := fun w6 (hb6 : Below (wz.alloc (.cells #[.int .i64 0, .int .i64 0, .int .i64 0] 36)).drew.heap.size (wz.alloc (.cells #[.int .i64 0, .int .i64 0, .int .i64 0] 36)).drew w6) => (((Blk.new wz 36 #[.int .i64 0, .int .i64 0, .int .i64 0]).drew).below hb6 (by simp)).three_ (.int .i64 mj) (.int .i64 m)
  have hC1 := HC _ (Below.refl _ _).drew
  have hC2 := HC _ kd.drew
  have hS0 : ∀ w', Below wz.heap.size wz w' → HeadS w' g A n c i ∧ Below wz.heap.size wz w' := fun w' hb => ⟨⟨((h1.below hb zg).cells).1, ((h1.below hb zg).cells).2.1⟩, hb⟩
  have hS1 := hS0 _ (Below.refl wz.heap.size wz).drew
  have hS2 := hS0 _ kd.drew
  have hS3 := fun w6 (h : Below wz.drew.heap.size wz.drew w6) => hS0 w6 ((Below.refl wz.heap.size wz).drew.up h)
  have hS4 := fun w6 (h : Below (wz.alloc (.cells #[.int .i64 0, .int .i64 0, .int .i64 0] 36)).drew.heap.size (wz.alloc (.cells #[.int .i64 0, .int .i64 0, .int .i64 0] 36)).drew w6) => hS0 w6 (kd.drew.up h)
  have hS5 := fun w6 (h : HeadS w6 g A n c i ∧ Below wz.heap.size wz w6) => hS0 _ (h.2.up (Below.one w6 (.cells #[.int .i64 0, .int .i64 0, .int .i64 0] 36)))
  have hS6 := fun w6 (h : HeadS w6 g A n c i ∧ Below wz.heap.size wz w6) => hS0 _ (h.2.up (Below.one w6 (.cells #[.int .i64 mj, .int .i64 m, .int .i64 wd] 36)))
  have hS7 := fun w6 (h : HeadS w6 g A n c i ∧ Below wz.heap.size wz w6) => hS0 _ (((h.2.setCell (p := ⟨wz.heap.size, 0, none⟩) (Nat.le_refl _) (.int .i64 mj)).setCell (p := ⟨wz.heap.size, 1, none⟩) (Nat.le_refl _) (.int .i64 m)).setCell (p := ⟨wz.heap.size, 2, none⟩) (Nat.le_refl _) (.int .i64 wd))
  clear hS0 HC
  go_cut [3, 4, 5] from 6 (fun s5 s6 s7 w' => ∃ gf, s5 = .pointer (some ⟨gf, 0, none⟩) ∧ s6 = .int .i64 q ∧ s7 = .int .i64 0 ∧ HeadM w w' g A n c b i mj m wd gf)
  case first =>
    go_region_held3 (fun w' => HeadS w' g A n c i ∧ Below wz.heap.size wz w')
      (with_reducible first | exact hS1 | exact hS2 | exact hS3 _ hb6 | exact hS4 _ hb6 | exact hS5 _ hk6 | exact hS6 _ hk6 | exact hS7 _ hk6)
      (first
        | (go_at_call 111; with_reducible refine hC1.mono ?_; rintro r w6 ⟨rfl, hb6⟩; have hk6 := hS3 _ hb6)
        | (go_at_call 111; with_reducible refine hC2.mono ?_; rintro r w6 ⟨rfl, hb6⟩; have hk6 := hS4 _ hb6; obtain ⟨x0, x1, x2, ⟨s0, t0⟩, ⟨s1, t1⟩, s2, t2⟩ := hFV _ hb6))
    all_goals
      go_wp2_with fail
      go_meet
      case rel =>
        first
        | exact ⟨_, rfl, rfl, rfl, head_meet1 h1 hZ hfr hb6 zd zg⟩
        | exact ⟨_, rfl, rfl, rfl, head_meet2 h1 hZ hfr hb6 zd zg⟩
  case rest =>
    obtain ⟨gf, rfl, rfl, rfl, hT6, Z6, M6, fr6, hgf⟩ := hcut
    clear hS1 hS2 hS3 hS4 hS5 hS6 hS7 hC1 hC2 hFV kd h1 hZ hfr zd zg h k1
    have hTz := Z6.lt
    have hgf2 : g ≠ gf := by omega
    obtain ⟨c0, c1, c2⟩ := hT6.cells
    have f1 := hT6.blk.frozen 1
    have h2 := hT6.setAt q
    have Z7 := Z6.far (p := ⟨g, 1, none⟩) (by show w.heap.size ≠ g; omega) (.int .i64 q)
    have M7 := M6.far (p := ⟨g, 1, none⟩) (by show gf ≠ g; omega) (.int .i64 q)
    have fr7 : Fr [g] w (wc.setCell ⟨g, 1, none⟩ (.int .i64 q)) := fr6.setCell (by simp) _
    go_upto_region 6 with fail
    generalize wc.setCell ⟨g, 1, none⟩ (.int .i64 q) = w7 at h2 Z7 M7 fr7 ⊢
    clear c0 c1 c2 f1 hT6 Z6 M6 fr6
    have e0 := M7.cell 0
    have e1 := M7.cell 1
    have e2 := M7.cell 2
    simp only [List.getElem?_toArray, List.getElem?_cons_succ, List.getElem?_cons_zero] at e0 e1 e2
    obtain ⟨x0, x1, x2, ⟨s0, t0⟩, ⟨s1, t1⟩, s2, t2⟩ := Z7.three_ (.int .i64 mj) (.int .i64 m)
    go_wp2_with fail
    have hblk : Blk (((w7.setCell ⟨w.heap.size, 0, none⟩ (.int .i64 mj)).setCell ⟨w.heap.size, 1, none⟩ (.int .i64 m)).setCell ⟨w.heap.size, 2, none⟩ (.int .i64 wd)) w.heap.size 36 #[.int .i64 mj, .int .i64 m, .int .i64 wd] := by simpa using ((Z7.set_ 0 (.int .i64 mj)).set_ 1 (.int .i64 m)).set_ 2 (.int .i64 wd)
    have hTR3 : QR (((w7.setCell ⟨w.heap.size, 0, none⟩ (.int .i64 mj)).setCell ⟨w.heap.size, 1, none⟩ (.int .i64 m)).setCell ⟨w.heap.size, 2, none⟩ (.int .i64 wd)) g A n c b q 0 := h2.set3_ hgl
    have hfr3 := fr_new (q := ⟨w.heap.size, 2, none⟩) (fr_new (q := ⟨w.heap.size, 1, none⟩) (fr_new (q := ⟨w.heap.size, 0, none⟩) fr7 (Nat.le_refl _) (.int .i64 mj)) (Nat.le_refl _) (.int .i64 m)) (Nat.le_refl _) (.int .i64 wd)
    have hres := fun (tm : Array Value) (hp : tm.getD 2 undef = .pointer (some ⟨w.heap.size, 0, none⟩)) => results_blk (P := Tryz.prog) (tmps := tm) Tryz.results76 Tryz.isAgg36 (by exact Tryz.sizeOf36) hp hblk
    refine bodyPost_ret (hres _ rfl) rfl ?_
    exact ⟨rfl, hTR3, hfr3⟩
end Go.Proofs.YtmelnaidjgpclaaGreatDoor

namespace Go.Proofs.YtmelnaidjgpclaaGreatDoor
open Go.RowKit

def StrP (w w' : World) (g : Nat) (A : Option Addr) (n c : Nat) (b : List UInt8) (R : RdS) (r : Ending) : Prop := match R with
  | .good s q => r = .returned (.string ⟨s.toArray⟩) ∧ QR w' g A n c b q 0 ∧ Fr [g] w w'
  | .bad cd => ∃ p, r = .returned (.string ⟨#[]⟩) ∧ QR w' g A n c b p cd ∧ Fr [g] w w'
/-- TextOk, wherever only the reader has changed. -/
def TXs (w : World) (g : Nat) : Prop := ∀ (s : ByteArray) (w1 : World), s.size ≤ 1048576 → Fr [g] w w1 → Calls Tryz.prog 104 #[.string s] w1 fun r w' => r = .returned (.bool (Lib.validD s.data.toList)) ∧ Below w1.heap.size w1 w'
theorem TXs.fr {w w' : World} {g : Nat} (h : TXs w g) (hf : Fr [g] w w') : TXs w' g := fun s w1 hs hf1 => h s w1 hs (hf.trans hf1)
set_option maxHeartbeats 8000000 in
theorem i_tbytes (g : Nat) (A : Option Addr) (n c : Nat) (b : List UInt8) (q mm : Nat) (mj wd : Int) (w : World) (h : QR w g A n c b q 0) (hq : q ≤ n) (hmm : mm ≤ 1000000000000000) (hX : TXs w g) :
    Calls Tryz.prog 112 #[.pointer (some ⟨g, 0, none⟩), .agg #[.int .i64 mj, .int .i64 mm, .int .i64 wd]] w fun r w' => StrP w w' g A n c b (strR b mj mm q) r := by
  have hbl := h.sl.blen
  have hbd := h.bd
  have hgl := h.blk.lt
  have k1 := Below.one w (.cells #[.int .i64 mj, .int .i64 mm, .int .i64 wd] 36)
  have T8 := h.below k1 h.blk.lt
  have M8 := Blk.new w 36 #[.int .i64 mj, .int .i64 mm, .int .i64 wd]
  have fr8 := Fr.of_below (fp := [g]) k1
  have hws : IntKind.i64.wrap ((n : Int) - (q : Int)) = (n : Int) - (q : Int) := by rw [IntKind.wrap_i64]; omega
  obtain ⟨R, hR⟩ : ∃ R, strR b mj mm q = R := ⟨_, rfl⟩
  rw [hR]
  unfold strR at hR
  rw [Int.toNat_natCast] at hR
  go_enter Tryz.func112, Tryz.ntmps112
  go_upto_region 1 with fail
  generalize w.alloc (.cells #[.int .i64 mj, .int .i64 mm, .int .i64 wd] 36) = wb at T8 M8 fr8 ⊢
  obtain ⟨d0, d1, d2⟩ := T8.cells
  have e1 := M8.cell 1
  simp only [List.getElem?_toArray, List.getElem?_cons_succ, List.getElem?_cons_zero] at e1
  by_cases hsh : b.length < q + mm
  · rw [if_pos hsh] at hR
    have HR := Lib.hid hR
    clear hR
    have hgt : (n : Int) - (q : Int) < (mm : Int) := by omega
    have hgtd : decide ((n : Int) - (q : Int) < (mm : Int)) = true := by simpa using hgt
    go_quiet (fail)
    have T9 := T8.below (Below.drewN_ wb nq) T8.blk.lt
    have fr9 := fr8.drewN nq
    generalize wb.drewN nq = wf at T9 fr9 ⊢
    clear T8 M8 fr8 e1 d0 d1 d2
    have HF := i_tfail g A n c b q 1 wf T9
    unfold FailQ at HF
    go_wp2_with (go_at_call 75; refine HF.mono ?_; rintro r w2 ⟨rfl, h2, hf2⟩)
    go_ret
    rw [← HR.out]
    exact ⟨q, rfl, h2, fr9.trans hf2⟩
  · rw [if_neg hsh] at hR
    have hgt : ¬ (n : Int) - (q : Int) < (mm : Int) := by omega
    have hgtd : decide ((n : Int) - (q : Int) < (mm : Int)) = false := by simpa using hgt
    go_quiet (fail)
    have T9 := T8.below (Below.drewN_ wb nq) T8.blk.lt
    have M9 := M8.drewN nq
    have fr9 := fr8.drewN nq
    generalize wb.drewN nq = wf at T9 M9 fr9 ⊢
    clear T8 M8 fr8 e1 d0 d1 d2
    have hwq : IntKind.i64.wrap ((q : Int) + (mm : Int)) = (q : Int) + (mm : Int) := by rw [IntKind.wrap_i64]; omega
    have hcap := T9.sl.cap
    go_upto_region 4 with fail
    obtain ⟨d0, d1, d2⟩ := T9.cells
    have e1 := M9.cell 1
    simp only [List.getElem?_toArray, List.getElem?_cons_succ, List.getElem?_cons_zero] at e1
    have hcv := conv_cut (q := q) (m := mm) T9.sl (by omega)
    have hcvd := conv_cut (q := q) (m := mm) T9.sl.drew (by omega)
    obtain ⟨ss, hss⟩ : ∃ ss, cutS b q mm = ss := ⟨_, rfl⟩
    rw [hss] at hcv hcvd
    have hcv2 := hcv
    have hcvd2 := hcvd
    rw [show q + mm - q = mm by omega] at hcv2 hcvd2
    have hsz : ss.size ≤ 1048576 := by rw [← hss]; show (part b q mm).toArray.size ≤ _; rw [List.size_toArray]; unfold part; rw [List.length_take]; omega
    have hsd : ss.data.toList = part b q mm := by rw [← hss]; unfold cutS; simp
    have HSS := Lib.hid hss
    clear hss
    go_region
    generalize (if c = q then A else Option.map (fun x => x.add q) A) = A9
    have T10 : QR wf.drew g A n c b q 0 := ⟨T9.blk, T9.sl.drew, T9.bd⟩
    have M10 := M9.drew
    have fr10 : Fr [g] w wf.drew := fr9.drew
    generalize wf.drew = wg at T10 M10 fr10 ⊢
    clear T9 M9 fr9 d0 d1 d2 e1 hcv hcvd hcv2 hcvd2
    have e0 := M10.cell 0
    have e1 := M10.cell 1
    simp only [List.getElem?_toArray, List.getElem?_cons_succ, List.getElem?_cons_zero] at e0 e1
    have HX := hX ss wg hsz fr10
    rw [hsd] at HX
    obtain ⟨v, hv⟩ : ∃ v, Lib.validD (part b q mm) = v := ⟨_, rfl⟩
    rw [hv] at HX hR
    clear hsd hv hX
    have hG : R = .good (part b q mm) (q + mm) → ∀ w', QR w' g A n c b ((q : Int) + (mm : Int)) 0 → Fr [g] w w' → StrP w w' g A n c b R (.returned (.string ss)) := by
      intro e w' h1 h2
      rw [e]
      refine ⟨by rw [← HSS.out]; rfl, ?_, h2⟩
      rw [show ((q + mm : Nat) : Int) = (q : Int) + (mm : Int) by omega]
      exact h1
    by_cases h3 : mj = 3
    · subst h3
      cases v with
      | false =>
        rw [if_pos ⟨rfl, rfl⟩] at hR
        have HR := Lib.hid hR
        clear hR hG
        have HF := fun w2 (hb : Below wg.heap.size wg w2) => i_tfail g A n c b q 1 w2 (T10.below hb T10.blk.lt)
        unfold FailQ at HF
        go_wp2_with (first
          | (go_at_call 104; refine HX.mono ?_; rintro r w5 ⟨rfl, hb5⟩; have HF5 := HF _ hb5)
          | (go_at_call 75; refine HF5.mono ?_; rintro r w2 ⟨rfl, h2, hf2⟩))
        go_ret
        rw [← HR.out]
        exact ⟨q, rfl, h2, (fr10.trans (Fr.of_below hb5)).trans hf2⟩
      | true =>
        rw [if_neg (by simp)] at hR
        have HG := hG hR.symm
        clear hR hG
        go_upto_region 8 with (go_at_call 104; refine HX.mono ?_; rintro r w5 ⟨rfl, hb5⟩)
        have T11 := T10.below hb5 T10.blk.lt
        have M11 := M10.below hb5 M10.lt
        have fr11 := fr10.trans (Fr.of_below hb5)
        clear T10 M10 fr10 hb5 e0 e1
        obtain ⟨d0, d1, d2⟩ := T11.cells
        have f1 := T11.blk.frozen 1
        have e1 := M11.cell 1
        simp only [List.getElem?_toArray, List.getElem?_cons_succ, List.getElem?_cons_zero] at e1
        go_region
        have T12 := T11.setAt ((q : Int) + (mm : Int))
        have T13 : QR (w5.setCell ⟨g, 1, none⟩ (.int .i64 ((q : Int) + (mm : Int)))).drew g A n c b ((q : Int) + (mm : Int)) 0 := ⟨T12.blk, T12.sl.drew, T12.bd⟩
        have fr12 := (fr11.setCell (p := ⟨g, 1, none⟩) (by simp) (.int .i64 ((q : Int) + (mm : Int)))).drew
        generalize (w5.setCell ⟨g, 1, none⟩ (.int .i64 ((q : Int) + (mm : Int)))).drew = wh at T13 fr12 ⊢
        clear T11 T12 M11 fr11 d0 d1 d2 f1 e1
        go_wp2_with fail
        go_ret
        exact HG wh T13 fr12
    · have h3b : (mj == 3) = false := by simpa using h3
      rw [if_neg (fun hx => h3 hx.1)] at hR
      have HG := hG hR.symm
      clear hR hG
      go_upto_region 8 with fail
      have T11 := T10
      have M11 := M10
      have fr11 := fr10
      clear T10 M10 fr10 e0 e1
      obtain ⟨d0, d1, d2⟩ := T11.cells
      have f1 := T11.blk.frozen 1
      have e1 := M11.cell 1
      simp only [List.getElem?_toArray, List.getElem?_cons_succ, List.getElem?_cons_zero] at e1
      go_region
      have T12 := T11.setAt ((q : Int) + (mm : Int))
      have T13 : QR (wg.setCell ⟨g, 1, none⟩ (.int .i64 ((q : Int) + (mm : Int)))).drew g A n c b ((q : Int) + (mm : Int)) 0 := ⟨T12.blk, T12.sl.drew, T12.bd⟩
      have fr12 := (fr11.setCell (p := ⟨g, 1, none⟩) (by simp) (.int .i64 ((q : Int) + (mm : Int)))).drew
      generalize (wg.setCell ⟨g, 1, none⟩ (.int .i64 ((q : Int) + (mm : Int)))).drew = wh at T13 fr12 ⊢
      clear T11 T12 M11 fr11 d0 d1 d2 f1 e1
      go_wp2_with fail
      go_ret
      exact HG wh T13 fr12
end Go.Proofs.YtmelnaidjgpclaaGreatDoor

namespace Go.Proofs.YtmelnaidjgpclaaGreatDoor
open Go.RowKit

def ReadQ (w w' : World) (g : Nat) (A : Option Addr) (n c : Nat) (b : List UInt8) (R : Rd) (r : Ending) : Prop :=
  ∃ t u p' k', r = .returned (trV t u) ∧ LsAt w' t.l u ∧ Own w' w.heap.size u.fp ∧ QR w' g A n c b p' k' ∧ Fr [g] w w' ∧ RokI R t p' k'
set_option maxHeartbeats 4000000 in
theorem i_tsimple (g : Nat) (A : Option Addr) (n c : Nat) (b : List UInt8) (q : Nat) (mj m wd : Int) (w : World) (h : QR w g A n c b q 0) (hm : 0 ≤ m ∧ m ≤ 1000000000000000) :
    Calls Tryz.prog 80 #[.pointer (some ⟨g, 0, none⟩), .agg #[.int .i64 mj, .int .i64 m, .int .i64 wd]] w fun r w' => ReadQ w w' g A n c b (simpR m wd q) r := by
  have hgl := h.blk.lt
  have k2 := Below.two w (.cells #[.int .i64 mj, .int .i64 m, .int .i64 wd] 36) (.cells #[.int .i64 0, .int .i64 0, .int .i64 0, .string ⟨#[]⟩, .slice none 0 0] 28)
  have T8 := h.below k2 h.blk.lt
  have hH : Blk ((w.alloc (.cells #[.int .i64 mj, .int .i64 m, .int .i64 wd] 36)).alloc (.cells #[.int .i64 0, .int .i64 0, .int .i64 0, .string ⟨#[]⟩, .slice none 0 0] 28)) w.heap.size 36 #[.int .i64 mj, .int .i64 m, .int .i64 wd] := Blk.alloc (Blk.new w _ _) _
  have hR : Blk ((w.alloc (.cells #[.int .i64 mj, .int .i64 m, .int .i64 wd] 36)).alloc (.cells #[.int .i64 0, .int .i64 0, .int .i64 0, .string ⟨#[]⟩, .slice none 0 0] 28)) (w.heap.size + 1) 28 #[.int .i64 0, .int .i64 0, .int .i64 0, .string ⟨#[]⟩, .slice none 0 0] := by
    simpa using Blk.new (w.alloc (.cells #[.int .i64 mj, .int .i64 m, .int .i64 wd] 36)) 28 #[.int .i64 0, .int .i64 0, .int .i64 0, .string ⟨#[]⟩, .slice none 0 0]
  have fr8 := Fr.of_below (fp := [g]) k2
  obtain ⟨R, hR0⟩ : ∃ R, simpR m wd q = R := ⟨_, rfl⟩
  rw [hR0]
  unfold simpR at hR0
  go_enter Tryz.func80, Tryz.ntmps80
  go_upto_region 1 with fail
  generalize (w.alloc (.cells #[.int .i64 mj, .int .i64 m, .int .i64 wd] 36)).alloc (.cells #[.int .i64 0, .int .i64 0, .int .i64 0, .string ⟨#[]⟩, .slice none 0 0] 28) = wa at k2 T8 hH hR fr8 ⊢
  have e1 := hH.cell 1
  have e2 := hH.cell 2
  simp only [List.getElem?_toArray, List.getElem?_cons_succ, List.getElem?_cons_zero] at e1 e2
  have fin : ∀ (t : Tr) (p k : Int) (wX : World) (tm : Array Value), Blk wX (w.heap.size + 1) 28 #[.int .i64 0, .int .i64 0, .int .i64 0, .string ⟨#[]⟩, .slice none 0 0] → QR wX g A n c b p k → Fr [g] w wX → tm.getD 4 undef = .pointer (some ⟨w.heap.size + 1, 0, none⟩) → t.l = [] → RokI R t p k →
      bodyPost Tryz.prog Tryz.f80 (fun r w' => ReadQ w w' g A n c b R r) .ret ⟨tm, []⟩ (set5 wX (w.heap.size + 1) 0 t ⟨none, 0, 0, []⟩) := by
    intro t p k wX tm hB hT hf hp hl hRR
    have hblk : Blk (set5 wX (w.heap.size + 1) 0 t ⟨none, 0, 0, []⟩) (w.heap.size + 1) 28 _ := Blk.five_ hB t ⟨none, 0, 0, []⟩
    have hres := results_blk (P := Tryz.prog) (tmps := tm) Tryz.results80 Tryz.isAgg28 (by exact Tryz.sizeOf28) hp hblk
    refine bodyPost_ret hres rfl ?_
    exact ⟨t, ⟨none, 0, 0, []⟩, p, k, rfl, by rw [hl]; exact LsAt.nil_ _ _, Own.nil_ _ _, hT.set5_ (by omega), fr_new5 hf (Nat.le_succ _), hRR⟩
  by_cases w0 : wd = 0
  · subst w0
    by_cases n20 : m = 20
    · subst n20
      have HR0 := Lib.hid hR0
      clear hR0
      obtain ⟨x0, x1, x2, x3, x4, ⟨s0, t0⟩, ⟨s1, t1⟩, ⟨s2, t2⟩, ⟨s3, t3⟩, s4, t4⟩ := hR.five (o := 0) (by simp) (.int .i64 (leafTr 2 0 0 ⟨#[]⟩).k) (.int .i64 (leafTr 2 0 0 ⟨#[]⟩).n) (.int .i64 (leafTr 2 0 0 ⟨#[]⟩).x) (.string (leafTr 2 0 0 ⟨#[]⟩).s)
      simp only [leafTr, zeroT] at s0 s1 s2 s3 s4 t0 t1 t2 t3 t4
      go_wp2_with fail
      exact fin (leafTr 2 0 0 ⟨#[]⟩) _ _ wa _ hR T8 fr8 rfl rfl (by rw [← HR0.out]; exact ⟨rfl, rfl, rfl⟩)
    by_cases n21 : m = 21
    · subst n21
      have HR0 := Lib.hid hR0
      clear hR0
      obtain ⟨x0, x1, x2, x3, x4, ⟨s0, t0⟩, ⟨s1, t1⟩, ⟨s2, t2⟩, ⟨s3, t3⟩, s4, t4⟩ := hR.five (o := 0) (by simp) (.int .i64 (leafTr 2 1 0 ⟨#[]⟩).k) (.int .i64 (leafTr 2 1 0 ⟨#[]⟩).n) (.int .i64 (leafTr 2 1 0 ⟨#[]⟩).x) (.string (leafTr 2 1 0 ⟨#[]⟩).s)
      simp only [leafTr, zeroT] at s0 s1 s2 s3 s4 t0 t1 t2 t3 t4
      go_wp2_with fail
      exact fin (leafTr 2 1 0 ⟨#[]⟩) _ _ wa _ hR T8 fr8 rfl rfl (by rw [← HR0.out]; exact ⟨rfl, rfl, rfl⟩)
    by_cases n22 : m = 22
    · subst n22
      have HR0 := Lib.hid hR0
      clear hR0
      obtain ⟨x0, x1, x2, x3, x4, ⟨s0, t0⟩, ⟨s1, t1⟩, ⟨s2, t2⟩, ⟨s3, t3⟩, s4, t4⟩ := hR.five (o := 0) (by simp) (.int .i64 (leafTr 1 0 0 ⟨#[]⟩).k) (.int .i64 (leafTr 1 0 0 ⟨#[]⟩).n) (.int .i64 (leafTr 1 0 0 ⟨#[]⟩).x) (.string (leafTr 1 0 0 ⟨#[]⟩).s)
      simp only [leafTr, zeroT] at s0 s1 s2 s3 s4 t0 t1 t2 t3 t4
      go_wp2_with fail
      exact fin (leafTr 1 0 0 ⟨#[]⟩) _ _ wa _ hR T8 fr8 rfl rfl (by rw [← HR0.out]; exact ⟨rfl, rfl, rfl⟩)
    have p0 : (m == 20) = false := by simpa using n20
    have p1 : (m == 21) = false := by simpa using n21
    have p2 : (m == 22) = false := by simpa using n22
    rw [if_neg (by omega), if_neg (by omega), if_neg (by omega), if_neg (by omega)] at hR0
    have HR0 := Lib.hid hR0
    clear hR0
    have HF := i_tfail g A n c b q 1 wa T8
    unfold FailQ at HF
    obtain ⟨Zt, hZt⟩ : ∃ Zt, zeroT = Zt := ⟨_, rfl⟩
    rw [hZt] at HF
    have HZt := Lib.hid hZt
    clear hZt
    go_wp2_with (go_at_call 75; refine HF.mono ?_; rintro r w2 ⟨rfl, h2, hf2⟩; have BZ := Blk.ofFr hR hf2 (by omega); obtain ⟨x0, x1, x2, x3, x4, ⟨s0, t0⟩, ⟨s1, t1⟩, ⟨s2, t2⟩, ⟨s3, t3⟩, s4, t4⟩ := BZ.five (o := 0) (by simp) (.int .i64 (Zt).k) (.int .i64 (Zt).n) (.int .i64 (Zt).x) (.string (Zt).s))
    exact fin Zt _ _ w2 _ BZ h2 (fr8.trans hf2) rfl (by rw [← HZt.out]; rfl) (by rw [← HR0.out]; exact ⟨rfl, by decide⟩)
  have q0 : (wd == 0) = false := by simpa using w0
  rw [if_neg (by omega), if_neg (by omega)] at hR0
  by_cases w1 : wd = 1
  · subst w1
    have HL := fun w1 => i_within m 32 34 w1
    by_cases hr : 32 ≤ m ∧ m ≤ 34
    · rw [inR_yes hr.1 hr.2] at HL
      rw [if_pos ⟨rfl, hr.1, hr.2⟩] at hR0
      have hwn : IntKind.i64.wrap (m - 32) = m - 32 := by rw [IntKind.wrap_i64]; omega
      have HR0 := Lib.hid hR0
      clear hR0
      obtain ⟨x0, x1, x2, x3, x4, ⟨s0, t0⟩, ⟨s1, t1⟩, ⟨s2, t2⟩, ⟨s3, t3⟩, s4, t4⟩ := hR.five (o := 0) (by simp) (.int .i64 (leafTr 5 (m - 32) 0 ⟨#[]⟩).k) (.int .i64 (leafTr 5 (m - 32) 0 ⟨#[]⟩).n) (.int .i64 (leafTr 5 (m - 32) 0 ⟨#[]⟩).x) (.string (leafTr 5 (m - 32) 0 ⟨#[]⟩).s)
      simp only [leafTr, zeroT] at s0 s1 s2 s3 s4 t0 t1 t2 t3 t4
      go_wp2_with (go_at_call 85; refine (HL _).mono ?_; rintro r w5 ⟨rfl, rfl⟩)
      exact fin (leafTr 5 (m - 32) 0 ⟨#[]⟩) _ _ _ _ hR T8 fr8 rfl rfl (by rw [← HR0.out]; exact ⟨rfl, rfl, rfl⟩)
    · rw [inR_no (by omega)] at HL
      rw [if_neg (by omega), if_neg (by omega)] at hR0
      have HR0 := Lib.hid hR0
      clear hR0
      have HF := i_tfail g A n c b q 1 wa T8
      unfold FailQ at HF
      obtain ⟨Zt, hZt⟩ : ∃ Zt, zeroT = Zt := ⟨_, rfl⟩
      rw [hZt] at HF
      have HZt := Lib.hid hZt
      clear hZt
      go_wp2_with (first | (go_at_call 85; refine (HL _).mono ?_; rintro r w5 ⟨rfl, rfl⟩) | (go_at_call 75; refine HF.mono ?_; rintro r w2 ⟨rfl, h2, hf2⟩; have BZ := Blk.ofFr hR hf2 (by omega); obtain ⟨x0, x1, x2, x3, x4, ⟨s0, t0⟩, ⟨s1, t1⟩, ⟨s2, t2⟩, ⟨s3, t3⟩, s4, t4⟩ := BZ.five (o := 0) (by simp) (.int .i64 (Zt).k) (.int .i64 (Zt).n) (.int .i64 (Zt).x) (.string (Zt).s)))
      exact fin Zt _ _ w2 _ BZ h2 (fr8.trans hf2) rfl (by rw [← HZt.out]; rfl) (by rw [← HR0.out]; exact ⟨rfl, by decide⟩)
  have q1 : (wd == 1) = false := by simpa using w1
  rw [if_neg (by omega)] at hR0
  by_cases w4 : wd = 4
  · subst w4
    obtain ⟨a, e, ok, hf⟩ := bitsFltV_shape m
    rw [hf, fltOf_fltV] at hR0
    have HB := i_BitsFlt m wa
    rw [hf] at HB
    unfold fltV at HB
    clear hf
    cases ok with
    | true =>
      have HR0 := Lib.hid hR0
      clear hR0
      go_wp2_with (go_at_call 103; refine HB.mono ?_; rintro r w5 ⟨rfl, hb5⟩; have kf := hb5.up (Below.one w5 (.cells #[.int .i64 a, .int .i64 e] 51)); have V6 := hR.below kf hR.lt; have c0 := (Blk.new w5 51 #[.int .i64 a, .int .i64 e]).cell 0; have c1 := (Blk.new w5 51 #[.int .i64 a, .int .i64 e]).cell 1; simp only [List.getElem?_toArray, List.getElem?_cons_succ, List.getElem?_cons_zero] at c0 c1; obtain ⟨x0, x1, x2, x3, x4, ⟨s0, t0⟩, ⟨s1, t1⟩, ⟨s2, t2⟩, ⟨s3, t3⟩, s4, t4⟩ := V6.five (o := 0) (by simp) (.int .i64 4) (.int .i64 a) (.int .i64 e) (.string ⟨#[]⟩))
      exact fin (leafTr 4 a e ⟨#[]⟩) _ _ _ _ V6 (T8.below kf T8.blk.lt) (fr8.trans (Fr.of_below kf)) rfl rfl (by rw [← HR0.out]; exact ⟨rfl, rfl, rfl⟩)
    | false =>
      have HR0 := Lib.hid hR0
      clear hR0
      have HF := fun w1 (hb : Below wa.heap.size wa w1) => i_tfail g A n c b q 1 w1 (T8.below hb T8.blk.lt)
      unfold FailQ at HF
      obtain ⟨Zt, hZt⟩ : ∃ Zt, zeroT = Zt := ⟨_, rfl⟩
      rw [hZt] at HF
      have HZt := Lib.hid hZt
      clear hZt
      go_wp2_with (first
        | (go_at_call 103; refine HB.mono ?_; rintro r w5 ⟨rfl, hb5⟩; have kf := hb5.up (Below.one w5 (.cells #[.int .i64 a, .int .i64 e] 51)); have V6 := hR.below kf hR.lt; have HF6 := HF _ kf)
        | (go_at_call 75; refine HF6.mono ?_; rintro r w2 ⟨rfl, h2, hf2⟩; have BZ := Blk.ofFr V6 hf2 (by omega); obtain ⟨x0, x1, x2, x3, x4, ⟨s0, t0⟩, ⟨s1, t1⟩, ⟨s2, t2⟩, ⟨s3, t3⟩, s4, t4⟩ := BZ.five (o := 0) (by simp) (.int .i64 (Zt).k) (.int .i64 (Zt).n) (.int .i64 (Zt).x) (.string (Zt).s)))
      exact fin Zt _ _ w2 _ BZ h2 ((fr8.trans (Fr.of_below kf)).trans hf2) rfl (by rw [← HZt.out]; rfl) (by rw [← HR0.out]; exact ⟨rfl, by decide⟩)
  have q4 : (wd == 4) = false := by simpa using w4
  rw [if_neg (by omega)] at hR0
  have HR0 := Lib.hid hR0
  clear hR0
  have HF := i_tfail g A n c b q 1 wa T8
  unfold FailQ at HF
  obtain ⟨Zt, hZt⟩ : ∃ Zt, zeroT = Zt := ⟨_, rfl⟩
  rw [hZt] at HF
  have HZt := Lib.hid hZt
  clear hZt
  go_wp2_with (go_at_call 75; refine HF.mono ?_; rintro r w2 ⟨rfl, h2, hf2⟩; have BZ := Blk.ofFr hR hf2 (by omega); obtain ⟨x0, x1, x2, x3, x4, ⟨s0, t0⟩, ⟨s1, t1⟩, ⟨s2, t2⟩, ⟨s3, t3⟩, s4, t4⟩ := BZ.five (o := 0) (by simp) (.int .i64 (Zt).k) (.int .i64 (Zt).n) (.int .i64 (Zt).x) (.string (Zt).s))
  exact fin Zt _ _ w2 _ BZ h2 (fr8.trans hf2) rfl (by rw [← HZt.out]; rfl) (by rw [← HR0.out]; exact ⟨rfl, by decide⟩)
end Go.Proofs.YtmelnaidjgpclaaGreatDoor

namespace Go.Proofs.YtmelnaidjgpclaaGreatDoor
open Go.RowKit

set_option maxHeartbeats 8000000 in
theorem i_ttext2 (g : Nat) (A : Option Addr) (n c : Nat) (b : List UInt8) (q : Nat) (mm : Nat) (wd : Int) (w : World) (h : QR w g A n c b q 0) (hq : q ≤ n) (hmm : mm ≤ 1000000000000000) (hw : wd ≠ -1) (hX : TXs w g) :
    Calls Tryz.prog 78 #[.pointer (some ⟨g, 0, none⟩), .agg #[.int .i64 2, .int .i64 mm, .int .i64 wd]] w fun r w' => ReadQ w w' g A n c b (closeS 2 (anyS b 2 mm wd q)) r := by
  have hgl := h.blk.lt
  have hbl := h.sl.blen
  have hbd := h.bd
  have k3 := Below.three w (.cells #[.int .i64 2, .int .i64 mm, .int .i64 wd] 36) (.cells #[.int .i64 0, .int .i64 0, .int .i64 0, .string ⟨#[]⟩, .slice none 0 0] 28) (.cells #[.int .i64 8, .int .i64 0, .int .i64 0, .string ⟨#[]⟩, .slice none 0 0] 28)
  have T4 := h.below k3 h.blk.lt
  have H4 : Blk (((w.alloc (.cells #[.int .i64 2, .int .i64 mm, .int .i64 wd] 36)).alloc (.cells #[.int .i64 0, .int .i64 0, .int .i64 0, .string ⟨#[]⟩, .slice none 0 0] 28)).alloc (.cells #[.int .i64 8, .int .i64 0, .int .i64 0, .string ⟨#[]⟩, .slice none 0 0] 28)) w.heap.size 36 #[.int .i64 2, .int .i64 mm, .int .i64 wd] := Blk.alloc (Blk.alloc (Blk.new w _ _) _) _
  have R4 : Blk (((w.alloc (.cells #[.int .i64 2, .int .i64 mm, .int .i64 wd] 36)).alloc (.cells #[.int .i64 0, .int .i64 0, .int .i64 0, .string ⟨#[]⟩, .slice none 0 0] 28)).alloc (.cells #[.int .i64 8, .int .i64 0, .int .i64 0, .string ⟨#[]⟩, .slice none 0 0] 28)) (w.heap.size + 1) 28 #[.int .i64 0, .int .i64 0, .int .i64 0, .string ⟨#[]⟩, .slice none 0 0] := by
    simpa using Blk.alloc (Blk.new (w.alloc (.cells #[.int .i64 2, .int .i64 mm, .int .i64 wd] 36)) 28 #[.int .i64 0, .int .i64 0, .int .i64 0, .string ⟨#[]⟩, .slice none 0 0]) (.cells #[.int .i64 8, .int .i64 0, .int .i64 0, .string ⟨#[]⟩, .slice none 0 0] 28)
  have V4 : Blk (((w.alloc (.cells #[.int .i64 2, .int .i64 mm, .int .i64 wd] 36)).alloc (.cells #[.int .i64 0, .int .i64 0, .int .i64 0, .string ⟨#[]⟩, .slice none 0 0] 28)).alloc (.cells #[.int .i64 8, .int .i64 0, .int .i64 0, .string ⟨#[]⟩, .slice none 0 0] 28)) (w.heap.size + 2) 28 #[.int .i64 8, .int .i64 0, .int .i64 0, .string ⟨#[]⟩, .slice none 0 0] := by
    simpa using Blk.new ((w.alloc (.cells #[.int .i64 2, .int .i64 mm, .int .i64 wd] 36)).alloc (.cells #[.int .i64 0, .int .i64 0, .int .i64 0, .string ⟨#[]⟩, .slice none 0 0] 28)) 28 #[.int .i64 8, .int .i64 0, .int .i64 0, .string ⟨#[]⟩, .slice none 0 0]
  have fr4 := Fr.of_below (fp := [g]) k3
  rw [show anyS b 2 mm wd q = strR b 2 mm q by unfold anyS; rw [if_neg hw]]
  have hwn : (wd != -1) = true := by simpa using hw
  have hwn2 : (wd == -1) = false := by simpa using hw
  have hb0 : ∀ c0, strR b 2 mm q = .bad c0 → c0 ≠ 0 := fun c0 hx => strR_bad hx
  have HB := fun w1 hh hx => i_tbytes g A n c b q mm 2 wd w1 hh hq hmm hx
  obtain ⟨X, hX0⟩ : ∃ X, strR b 2 mm q = X := ⟨_, rfl⟩
  rw [hX0] at HB hb0 ⊢
  clear hX0
  obtain ⟨RR, hRR⟩ : ∃ RR, closeS 2 X = RR := ⟨_, rfl⟩
  rw [hRR]
  have HRR := Lib.hid hRR
  clear hRR
  go_enter Tryz.func78, Tryz.ntmps78
  go_upto_region 2 with fail
  generalize ((w.alloc (.cells #[.int .i64 2, .int .i64 mm, .int .i64 wd] 36)).alloc (.cells #[.int .i64 0, .int .i64 0, .int .i64 0, .string ⟨#[]⟩, .slice none 0 0] 28)).alloc (.cells #[.int .i64 8, .int .i64 0, .int .i64 0, .string ⟨#[]⟩, .slice none 0 0] 28) = wa at T4 H4 R4 V4 fr4 ⊢
  have fin : ∀ (t : Tr) (p k : Int) (wX : World) (tm : Array Value), Blk wX (w.heap.size + 1) 28 #[.int .i64 0, .int .i64 0, .int .i64 0, .string ⟨#[]⟩, .slice none 0 0] → QR wX g A n c b p k → Fr [g] w wX → tm.getD 4 undef = .pointer (some ⟨w.heap.size + 1, 0, none⟩) → t.l = [] → RokI RR t p k →
      bodyPost Tryz.prog Tryz.f78 (fun r w' => ReadQ w w' g A n c b RR r) .ret ⟨tm, []⟩ (set5 wX (w.heap.size + 1) 0 t ⟨none, 0, 0, []⟩) := by
    intro t p k wX tm hB hT hf hp hl hRR
    have hblk : Blk (set5 wX (w.heap.size + 1) 0 t ⟨none, 0, 0, []⟩) (w.heap.size + 1) 28 _ := Blk.five_ hB t ⟨none, 0, 0, []⟩
    have hres := results_blk (P := Tryz.prog) (tmps := tm) Tryz.results78 Tryz.isAgg28 (by exact Tryz.sizeOf28) hp hblk
    refine bodyPost_ret hres rfl ?_
    exact ⟨t, ⟨none, 0, 0, []⟩, p, k, rfl, by rw [hl]; exact LsAt.nil_ _ _, Own.nil_ _ _, hT.set5_ (by omega), fr_new5 hf (Nat.le_succ _), hRR⟩
  have h0 := H4.cell 0
  simp only [List.getElem?_toArray, List.getElem?_cons_succ, List.getElem?_cons_zero] at h0
  go_upto_region 4 with fail
  have T5 := T4
  have H5 := H4
  have R5 := R4
  have V5 := V4
  have fr5 := fr4
  clear T4 H4 R4 V4 fr4 h0
  have h0 := H5.cell 0
  have h1 := H5.cell 1
  have h2 := H5.cell 2
  simp only [List.getElem?_toArray, List.getElem?_cons_succ, List.getElem?_cons_zero] at h0 h1 h2
  have HB1 := HB wa T5 (hX.fr fr5)
  clear HB
  cases X with
  | bad c0 =>
    have hc0 := hb0 c0 rfl
    unfold StrP at HB1
    simp only at HB1
    go_upto_region 6 with (go_at_call 112; refine HB1.mono ?_; rintro r w5 ⟨p, rfl, T6, hf5⟩; have V6 := Blk.ofFr V5 hf5 (by omega); have p3 := V6.cell 3; have f3 := V6.frozen 3; simp only [List.getElem?_toArray, List.getElem?_cons_succ, List.getElem?_cons_zero] at p3)
    have R6 := Blk.ofFr R5 hf5 (by omega)
    have fr6 := fr5.trans hf5
    have T9 : QR (w5.setCell ⟨w.heap.size + 2, 3, none⟩ (.string ⟨#[]⟩)) g A n c b _ _ := ⟨T6.blk.far (p := ⟨w.heap.size + 2, 3, none⟩) (by show g ≠ w.heap.size + 2; omega) _, T6.sl.setCell (p := ⟨w.heap.size + 2, 3, none⟩) (by show g ≤ w.heap.size + 2; omega) _, T6.bd⟩
    have R9 := R6.far (p := ⟨w.heap.size + 2, 3, none⟩) (by show w.heap.size + 1 ≠ w.heap.size + 2; omega) (.string ⟨#[]⟩)
    have V9 : Blk (w5.setCell ⟨w.heap.size + 2, 3, none⟩ (.string ⟨#[]⟩)) (w.heap.size + 2) 28 #[.int .i64 8, .int .i64 0, .int .i64 0, .string ⟨#[]⟩, .slice none 0 0] := by simpa using V6.set_ 3 (.string ⟨#[]⟩)
    have fr9 : Fr [g] w (w5.setCell ⟨w.heap.size + 2, 3, none⟩ (.string ⟨#[]⟩)) := fr_new (q := ⟨w.heap.size + 2, 3, none⟩) fr6 (by show w.heap.size ≤ w.heap.size + 2; omega) _
    generalize w5.setCell ⟨w.heap.size + 2, 3, none⟩ (.string ⟨#[]⟩) = w9 at T9 R9 V9 fr9 ⊢
    obtain ⟨v0, v1, v2, v3, v4⟩ := (show Blk w9 (w.heap.size + 2) 28 (valCells (leafTr 8 0 0 ⟨#[]⟩) ⟨none, 0, 0, []⟩) from V9).boxV
    obtain ⟨x0, x1, x2, x3, x4, ⟨s0, t0⟩, ⟨s1, t1⟩, ⟨s2, t2⟩, ⟨s3, t3⟩, s4, t4⟩ := R9.five (o := 0) (by simp) (.int .i64 (leafTr 8 0 0 ⟨#[]⟩).k) (.int .i64 (leafTr 8 0 0 ⟨#[]⟩).n) (.int .i64 (leafTr 8 0 0 ⟨#[]⟩).x) (.string (leafTr 8 0 0 ⟨#[]⟩).s)
    go_wp2_with fail
    exact fin (leafTr 8 0 0 ⟨#[]⟩) _ _ w9 _ R9 T9 fr9 rfl rfl (by rw [← HRR.out]; exact ⟨rfl, hc0⟩)
  | good s q' =>
    unfold StrP at HB1
    simp only at HB1
    obtain ⟨SS, hSS⟩ : ∃ SS, (⟨s.toArray⟩ : ByteArray) = SS := ⟨_, rfl⟩
    rw [hSS] at HB1
    have HSS := Lib.hid hSS
    clear hSS
    go_upto_region 6 with (go_at_call 112; refine HB1.mono ?_; rintro r w5 ⟨rfl, T6, hf5⟩; have V6 := Blk.ofFr V5 hf5 (by omega); have p3 := V6.cell 3; have f3 := V6.frozen 3; simp only [List.getElem?_toArray, List.getElem?_cons_succ, List.getElem?_cons_zero] at p3)
    have R6 := Blk.ofFr R5 hf5 (by omega)
    have fr6 := fr5.trans hf5
    have T9 : QR (w5.setCell ⟨w.heap.size + 2, 3, none⟩ (.string SS)) g A n c b _ _ := ⟨T6.blk.far (p := ⟨w.heap.size + 2, 3, none⟩) (by show g ≠ w.heap.size + 2; omega) _, T6.sl.setCell (p := ⟨w.heap.size + 2, 3, none⟩) (by show g ≤ w.heap.size + 2; omega) _, T6.bd⟩
    have R9 := R6.far (p := ⟨w.heap.size + 2, 3, none⟩) (by show w.heap.size + 1 ≠ w.heap.size + 2; omega) (.string SS)
    have V9 : Blk (w5.setCell ⟨w.heap.size + 2, 3, none⟩ (.string SS)) (w.heap.size + 2) 28 #[.int .i64 8, .int .i64 0, .int .i64 0, .string SS, .slice none 0 0] := by simpa using V6.set_ 3 (.string SS)
    have fr9 : Fr [g] w (w5.setCell ⟨w.heap.size + 2, 3, none⟩ (.string SS)) := fr_new (q := ⟨w.heap.size + 2, 3, none⟩) fr6 (by show w.heap.size ≤ w.heap.size + 2; omega) _
    generalize w5.setCell ⟨w.heap.size + 2, 3, none⟩ (.string SS) = w9 at T9 R9 V9 fr9 ⊢
    obtain ⟨v0, v1, v2, v3, v4⟩ := (show Blk w9 (w.heap.size + 2) 28 (valCells (leafTr 8 0 0 SS) ⟨none, 0, 0, []⟩) from V9).boxV
    obtain ⟨x0, x1, x2, x3, x4, ⟨s0, t0⟩, ⟨s1, t1⟩, ⟨s2, t2⟩, ⟨s3, t3⟩, s4, t4⟩ := R9.five (o := 0) (by simp) (.int .i64 (leafTr 8 0 0 SS).k) (.int .i64 (leafTr 8 0 0 SS).n) (.int .i64 (leafTr 8 0 0 SS).x) (.string (leafTr 8 0 0 SS).s)
    go_wp2_with fail
    exact fin (leafTr 8 0 0 SS) _ _ w9 _ R9 T9 fr9 rfl rfl (by rw [← HRR.out, ← HSS.out]; exact ⟨rfl, rfl, rfl⟩)
set_option maxHeartbeats 8000000 in
theorem i_ttext3 (g : Nat) (A : Option Addr) (n c : Nat) (b : List UInt8) (q : Nat) (mm : Nat) (wd : Int) (w : World) (h : QR w g A n c b q 0) (hq : q ≤ n) (hmm : mm ≤ 1000000000000000) (hw : wd ≠ -1) (hX : TXs w g) :
    Calls Tryz.prog 78 #[.pointer (some ⟨g, 0, none⟩), .agg #[.int .i64 3, .int .i64 mm, .int .i64 wd]] w fun r w' => ReadQ w w' g A n c b (closeS 3 (anyS b 3 mm wd q)) r := by
  have hgl := h.blk.lt
  have hbl := h.sl.blen
  have hbd := h.bd
  have k3 := Below.three w (.cells #[.int .i64 3, .int .i64 mm, .int .i64 wd] 36) (.cells #[.int .i64 0, .int .i64 0, .int .i64 0, .string ⟨#[]⟩, .slice none 0 0] 28) (.cells #[.int .i64 8, .int .i64 0, .int .i64 0, .string ⟨#[]⟩, .slice none 0 0] 28)
  have T4 := h.below k3 h.blk.lt
  have H4 : Blk (((w.alloc (.cells #[.int .i64 3, .int .i64 mm, .int .i64 wd] 36)).alloc (.cells #[.int .i64 0, .int .i64 0, .int .i64 0, .string ⟨#[]⟩, .slice none 0 0] 28)).alloc (.cells #[.int .i64 8, .int .i64 0, .int .i64 0, .string ⟨#[]⟩, .slice none 0 0] 28)) w.heap.size 36 #[.int .i64 3, .int .i64 mm, .int .i64 wd] := Blk.alloc (Blk.alloc (Blk.new w _ _) _) _
  have R4 : Blk (((w.alloc (.cells #[.int .i64 3, .int .i64 mm, .int .i64 wd] 36)).alloc (.cells #[.int .i64 0, .int .i64 0, .int .i64 0, .string ⟨#[]⟩, .slice none 0 0] 28)).alloc (.cells #[.int .i64 8, .int .i64 0, .int .i64 0, .string ⟨#[]⟩, .slice none 0 0] 28)) (w.heap.size + 1) 28 #[.int .i64 0, .int .i64 0, .int .i64 0, .string ⟨#[]⟩, .slice none 0 0] := by
    simpa using Blk.alloc (Blk.new (w.alloc (.cells #[.int .i64 3, .int .i64 mm, .int .i64 wd] 36)) 28 #[.int .i64 0, .int .i64 0, .int .i64 0, .string ⟨#[]⟩, .slice none 0 0]) (.cells #[.int .i64 8, .int .i64 0, .int .i64 0, .string ⟨#[]⟩, .slice none 0 0] 28)
  have V4 : Blk (((w.alloc (.cells #[.int .i64 3, .int .i64 mm, .int .i64 wd] 36)).alloc (.cells #[.int .i64 0, .int .i64 0, .int .i64 0, .string ⟨#[]⟩, .slice none 0 0] 28)).alloc (.cells #[.int .i64 8, .int .i64 0, .int .i64 0, .string ⟨#[]⟩, .slice none 0 0] 28)) (w.heap.size + 2) 28 #[.int .i64 8, .int .i64 0, .int .i64 0, .string ⟨#[]⟩, .slice none 0 0] := by
    simpa using Blk.new ((w.alloc (.cells #[.int .i64 3, .int .i64 mm, .int .i64 wd] 36)).alloc (.cells #[.int .i64 0, .int .i64 0, .int .i64 0, .string ⟨#[]⟩, .slice none 0 0] 28)) 28 #[.int .i64 8, .int .i64 0, .int .i64 0, .string ⟨#[]⟩, .slice none 0 0]
  have fr4 := Fr.of_below (fp := [g]) k3
  rw [show anyS b 3 mm wd q = strR b 3 mm q by unfold anyS; rw [if_neg hw]]
  have hwn : (wd != -1) = true := by simpa using hw
  have hwn2 : (wd == -1) = false := by simpa using hw
  have hb0 : ∀ c0, strR b 3 mm q = .bad c0 → c0 ≠ 0 := fun c0 hx => strR_bad hx
  have HB := fun w1 hh hx => i_tbytes g A n c b q mm 3 wd w1 hh hq hmm hx
  obtain ⟨X, hX0⟩ : ∃ X, strR b 3 mm q = X := ⟨_, rfl⟩
  rw [hX0] at HB hb0 ⊢
  clear hX0
  obtain ⟨RR, hRR⟩ : ∃ RR, closeS 3 X = RR := ⟨_, rfl⟩
  rw [hRR]
  have HRR := Lib.hid hRR
  clear hRR
  go_enter Tryz.func78, Tryz.ntmps78
  go_upto_region 2 with fail
  generalize ((w.alloc (.cells #[.int .i64 3, .int .i64 mm, .int .i64 wd] 36)).alloc (.cells #[.int .i64 0, .int .i64 0, .int .i64 0, .string ⟨#[]⟩, .slice none 0 0] 28)).alloc (.cells #[.int .i64 8, .int .i64 0, .int .i64 0, .string ⟨#[]⟩, .slice none 0 0] 28) = wa at T4 H4 R4 V4 fr4 ⊢
  have fin : ∀ (t : Tr) (p k : Int) (wX : World) (tm : Array Value), Blk wX (w.heap.size + 1) 28 #[.int .i64 0, .int .i64 0, .int .i64 0, .string ⟨#[]⟩, .slice none 0 0] → QR wX g A n c b p k → Fr [g] w wX → tm.getD 4 undef = .pointer (some ⟨w.heap.size + 1, 0, none⟩) → t.l = [] → RokI RR t p k →
      bodyPost Tryz.prog Tryz.f78 (fun r w' => ReadQ w w' g A n c b RR r) .ret ⟨tm, []⟩ (set5 wX (w.heap.size + 1) 0 t ⟨none, 0, 0, []⟩) := by
    intro t p k wX tm hB hT hf hp hl hRR
    have hblk : Blk (set5 wX (w.heap.size + 1) 0 t ⟨none, 0, 0, []⟩) (w.heap.size + 1) 28 _ := Blk.five_ hB t ⟨none, 0, 0, []⟩
    have hres := results_blk (P := Tryz.prog) (tmps := tm) Tryz.results78 Tryz.isAgg28 (by exact Tryz.sizeOf28) hp hblk
    refine bodyPost_ret hres rfl ?_
    exact ⟨t, ⟨none, 0, 0, []⟩, p, k, rfl, by rw [hl]; exact LsAt.nil_ _ _, Own.nil_ _ _, hT.set5_ (by omega), fr_new5 hf (Nat.le_succ _), hRR⟩
  have h0 := H4.cell 0
  simp only [List.getElem?_toArray, List.getElem?_cons_succ, List.getElem?_cons_zero] at h0
  have p0 := V4.cell 0
  have f0 := V4.frozen 0
  simp only [List.getElem?_toArray, List.getElem?_cons_succ, List.getElem?_cons_zero] at p0
  go_upto_region 4 with fail
  have T5 : QR (wa.setCell ⟨w.heap.size + 2, 0, none⟩ (.int .i64 7)) g A n c b q 0 := ⟨T4.blk.far (p := ⟨w.heap.size + 2, 0, none⟩) (by show g ≠ w.heap.size + 2; omega) _, T4.sl.setCell (p := ⟨w.heap.size + 2, 0, none⟩) (by show g ≤ w.heap.size + 2; omega) _, T4.bd⟩
  have H5 := H4.far (p := ⟨w.heap.size + 2, 0, none⟩) (by show w.heap.size ≠ w.heap.size + 2; omega) (.int .i64 7)
  have R5 := R4.far (p := ⟨w.heap.size + 2, 0, none⟩) (by show w.heap.size + 1 ≠ w.heap.size + 2; omega) (.int .i64 7)
  have V5 : Blk (wa.setCell ⟨w.heap.size + 2, 0, none⟩ (.int .i64 7)) (w.heap.size + 2) 28 #[.int .i64 7, .int .i64 0, .int .i64 0, .string ⟨#[]⟩, .slice none 0 0] := by simpa using V4.set_ 0 (.int .i64 7)
  have fr5 : Fr [g] w (wa.setCell ⟨w.heap.size + 2, 0, none⟩ (.int .i64 7)) := fr_new (q := ⟨w.heap.size + 2, 0, none⟩) fr4 (by show w.heap.size ≤ w.heap.size + 2; omega) _
  generalize wa.setCell ⟨w.heap.size + 2, 0, none⟩ (.int .i64 7) = wb at T5 H5 R5 V5 fr5 ⊢
  clear T4 H4 R4 V4 fr4 p0 f0 h0
  have h0 := H5.cell 0
  have h1 := H5.cell 1
  have h2 := H5.cell 2
  simp only [List.getElem?_toArray, List.getElem?_cons_succ, List.getElem?_cons_zero] at h0 h1 h2
  have HB1 := HB wb T5 (hX.fr fr5)
  clear HB
  cases X with
  | bad c0 =>
    have hc0 := hb0 c0 rfl
    unfold StrP at HB1
    simp only at HB1
    go_upto_region 6 with (go_at_call 112; refine HB1.mono ?_; rintro r w5 ⟨p, rfl, T6, hf5⟩; have V6 := Blk.ofFr V5 hf5 (by omega); have p3 := V6.cell 3; have f3 := V6.frozen 3; simp only [List.getElem?_toArray, List.getElem?_cons_succ, List.getElem?_cons_zero] at p3)
    have R6 := Blk.ofFr R5 hf5 (by omega)
    have fr6 := fr5.trans hf5
    have T9 : QR (w5.setCell ⟨w.heap.size + 2, 3, none⟩ (.string ⟨#[]⟩)) g A n c b _ _ := ⟨T6.blk.far (p := ⟨w.heap.size + 2, 3, none⟩) (by show g ≠ w.heap.size + 2; omega) _, T6.sl.setCell (p := ⟨w.heap.size + 2, 3, none⟩) (by show g ≤ w.heap.size + 2; omega) _, T6.bd⟩
    have R9 := R6.far (p := ⟨w.heap.size + 2, 3, none⟩) (by show w.heap.size + 1 ≠ w.heap.size + 2; omega) (.string ⟨#[]⟩)
    have V9 : Blk (w5.setCell ⟨w.heap.size + 2, 3, none⟩ (.string ⟨#[]⟩)) (w.heap.size + 2) 28 #[.int .i64 7, .int .i64 0, .int .i64 0, .string ⟨#[]⟩, .slice none 0 0] := by simpa using V6.set_ 3 (.string ⟨#[]⟩)
    have fr9 : Fr [g] w (w5.setCell ⟨w.heap.size + 2, 3, none⟩ (.string ⟨#[]⟩)) := fr_new (q := ⟨w.heap.size + 2, 3, none⟩) fr6 (by show w.heap.size ≤ w.heap.size + 2; omega) _
    generalize w5.setCell ⟨w.heap.size + 2, 3, none⟩ (.string ⟨#[]⟩) = w9 at T9 R9 V9 fr9 ⊢
    obtain ⟨v0, v1, v2, v3, v4⟩ := (show Blk w9 (w.heap.size + 2) 28 (valCells (leafTr 7 0 0 ⟨#[]⟩) ⟨none, 0, 0, []⟩) from V9).boxV
    obtain ⟨x0, x1, x2, x3, x4, ⟨s0, t0⟩, ⟨s1, t1⟩, ⟨s2, t2⟩, ⟨s3, t3⟩, s4, t4⟩ := R9.five (o := 0) (by simp) (.int .i64 (leafTr 7 0 0 ⟨#[]⟩).k) (.int .i64 (leafTr 7 0 0 ⟨#[]⟩).n) (.int .i64 (leafTr 7 0 0 ⟨#[]⟩).x) (.string (leafTr 7 0 0 ⟨#[]⟩).s)
    go_wp2_with fail
    exact fin (leafTr 7 0 0 ⟨#[]⟩) _ _ w9 _ R9 T9 fr9 rfl rfl (by rw [← HRR.out]; exact ⟨rfl, hc0⟩)
  | good s q' =>
    unfold StrP at HB1
    simp only at HB1
    obtain ⟨SS, hSS⟩ : ∃ SS, (⟨s.toArray⟩ : ByteArray) = SS := ⟨_, rfl⟩
    rw [hSS] at HB1
    have HSS := Lib.hid hSS
    clear hSS
    go_upto_region 6 with (go_at_call 112; refine HB1.mono ?_; rintro r w5 ⟨rfl, T6, hf5⟩; have V6 := Blk.ofFr V5 hf5 (by omega); have p3 := V6.cell 3; have f3 := V6.frozen 3; simp only [List.getElem?_toArray, List.getElem?_cons_succ, List.getElem?_cons_zero] at p3)
    have R6 := Blk.ofFr R5 hf5 (by omega)
    have fr6 := fr5.trans hf5
    have T9 : QR (w5.setCell ⟨w.heap.size + 2, 3, none⟩ (.string SS)) g A n c b _ _ := ⟨T6.blk.far (p := ⟨w.heap.size + 2, 3, none⟩) (by show g ≠ w.heap.size + 2; omega) _, T6.sl.setCell (p := ⟨w.heap.size + 2, 3, none⟩) (by show g ≤ w.heap.size + 2; omega) _, T6.bd⟩
    have R9 := R6.far (p := ⟨w.heap.size + 2, 3, none⟩) (by show w.heap.size + 1 ≠ w.heap.size + 2; omega) (.string SS)
    have V9 : Blk (w5.setCell ⟨w.heap.size + 2, 3, none⟩ (.string SS)) (w.heap.size + 2) 28 #[.int .i64 7, .int .i64 0, .int .i64 0, .string SS, .slice none 0 0] := by simpa using V6.set_ 3 (.string SS)
    have fr9 : Fr [g] w (w5.setCell ⟨w.heap.size + 2, 3, none⟩ (.string SS)) := fr_new (q := ⟨w.heap.size + 2, 3, none⟩) fr6 (by show w.heap.size ≤ w.heap.size + 2; omega) _
    generalize w5.setCell ⟨w.heap.size + 2, 3, none⟩ (.string SS) = w9 at T9 R9 V9 fr9 ⊢
    obtain ⟨v0, v1, v2, v3, v4⟩ := (show Blk w9 (w.heap.size + 2) 28 (valCells (leafTr 7 0 0 SS) ⟨none, 0, 0, []⟩) from V9).boxV
    obtain ⟨x0, x1, x2, x3, x4, ⟨s0, t0⟩, ⟨s1, t1⟩, ⟨s2, t2⟩, ⟨s3, t3⟩, s4, t4⟩ := R9.five (o := 0) (by simp) (.int .i64 (leafTr 7 0 0 SS).k) (.int .i64 (leafTr 7 0 0 SS).n) (.int .i64 (leafTr 7 0 0 SS).x) (.string (leafTr 7 0 0 SS).s)
    go_wp2_with fail
    exact fin (leafTr 7 0 0 SS) _ _ w9 _ R9 T9 fr9 rfl rfl (by rw [← HRR.out, ← HSS.out]; exact ⟨rfl, rfl, rfl⟩)
end Go.Proofs.YtmelnaidjgpclaaGreatDoor

namespace Go.Proofs.YtmelnaidjgpclaaGreatDoor
open Go.RowKit

set_option maxHeartbeats 8000000 in
theorem i_ttext2i (g : Nat) (A : Option Addr) (n c : Nat) (b : List UInt8) (q : Nat) (w : World) (h : QR w g A n c b q 0) (hq : q ≤ n) (hX : TXs w g) :
    Calls Tryz.prog 78 #[.pointer (some ⟨g, 0, none⟩), .agg #[.int .i64 2, .int .i64 0, .int .i64 (-1)]] w fun r w' => ReadQ w w' g A n c b (closeS 2 (anyS b 2 0 (-1) q)) r := by
  have hgl := h.blk.lt
  have hbl := h.sl.blen
  have hbd := h.bd
  have k3 := Below.three w (.cells #[.int .i64 2, .int .i64 0, .int .i64 (-1)] 36) (.cells #[.int .i64 0, .int .i64 0, .int .i64 0, .string ⟨#[]⟩, .slice none 0 0] 28) (.cells #[.int .i64 8, .int .i64 0, .int .i64 0, .string ⟨#[]⟩, .slice none 0 0] 28)
  have T4 := h.below k3 h.blk.lt
  have H4 : Blk (((w.alloc (.cells #[.int .i64 2, .int .i64 0, .int .i64 (-1)] 36)).alloc (.cells #[.int .i64 0, .int .i64 0, .int .i64 0, .string ⟨#[]⟩, .slice none 0 0] 28)).alloc (.cells #[.int .i64 8, .int .i64 0, .int .i64 0, .string ⟨#[]⟩, .slice none 0 0] 28)) w.heap.size 36 #[.int .i64 2, .int .i64 0, .int .i64 (-1)] := Blk.alloc (Blk.alloc (Blk.new w _ _) _) _
  have R4 : Blk (((w.alloc (.cells #[.int .i64 2, .int .i64 0, .int .i64 (-1)] 36)).alloc (.cells #[.int .i64 0, .int .i64 0, .int .i64 0, .string ⟨#[]⟩, .slice none 0 0] 28)).alloc (.cells #[.int .i64 8, .int .i64 0, .int .i64 0, .string ⟨#[]⟩, .slice none 0 0] 28)) (w.heap.size + 1) 28 #[.int .i64 0, .int .i64 0, .int .i64 0, .string ⟨#[]⟩, .slice none 0 0] := by
    simpa using Blk.alloc (Blk.new (w.alloc (.cells #[.int .i64 2, .int .i64 0, .int .i64 (-1)] 36)) 28 #[.int .i64 0, .int .i64 0, .int .i64 0, .string ⟨#[]⟩, .slice none 0 0]) (.cells #[.int .i64 8, .int .i64 0, .int .i64 0, .string ⟨#[]⟩, .slice none 0 0] 28)
  have V4 : Blk (((w.alloc (.cells #[.int .i64 2, .int .i64 0, .int .i64 (-1)] 36)).alloc (.cells #[.int .i64 0, .int .i64 0, .int .i64 0, .string ⟨#[]⟩, .slice none 0 0] 28)).alloc (.cells #[.int .i64 8, .int .i64 0, .int .i64 0, .string ⟨#[]⟩, .slice none 0 0] 28)) (w.heap.size + 2) 28 #[.int .i64 8, .int .i64 0, .int .i64 0, .string ⟨#[]⟩, .slice none 0 0] := by
    simpa using Blk.new ((w.alloc (.cells #[.int .i64 2, .int .i64 0, .int .i64 (-1)] 36)).alloc (.cells #[.int .i64 0, .int .i64 0, .int .i64 0, .string ⟨#[]⟩, .slice none 0 0] 28)) 28 #[.int .i64 8, .int .i64 0, .int .i64 0, .string ⟨#[]⟩, .slice none 0 0]
  have fr4 := Fr.of_below (fp := [g]) k3
  rw [show anyS b 2 0 (-1) q = partsR b 2 (b.length + 1) q [] by unfold anyS; rw [if_pos rfl]]
  obtain ⟨R, hR0⟩ : ∃ R, partsR b 2 (b.length + 1) q [] = R := ⟨_, rfl⟩
  rw [hR0]
  have HR0 := Lib.hid hR0
  clear hR0
  obtain ⟨RR, hRR⟩ : ∃ RR, closeS 2 R = RR := ⟨_, rfl⟩
  rw [hRR]
  have HRR := Lib.hid hRR
  clear hRR
  go_enter Tryz.func78, Tryz.ntmps78
  go_upto_region 2 with fail
  generalize ((w.alloc (.cells #[.int .i64 2, .int .i64 0, .int .i64 (-1)] 36)).alloc (.cells #[.int .i64 0, .int .i64 0, .int .i64 0, .string ⟨#[]⟩, .slice none 0 0] 28)).alloc (.cells #[.int .i64 8, .int .i64 0, .int .i64 0, .string ⟨#[]⟩, .slice none 0 0] 28) = wa at T4 H4 R4 V4 fr4 ⊢
  have fin : ∀ (t : Tr) (p k : Int) (wX : World) (tm : Array Value), Blk wX (w.heap.size + 1) 28 #[.int .i64 0, .int .i64 0, .int .i64 0, .string ⟨#[]⟩, .slice none 0 0] → QR wX g A n c b p k → Fr [g] w wX → tm.getD 4 undef = .pointer (some ⟨w.heap.size + 1, 0, none⟩) → t.l = [] → RokI RR t p k →
      bodyPost Tryz.prog Tryz.f78 (fun r w' => ReadQ w w' g A n c b RR r) .ret ⟨tm, []⟩ (set5 wX (w.heap.size + 1) 0 t ⟨none, 0, 0, []⟩) := by
    intro t p k wX tm hB hT hf hp hl hRR
    have hblk : Blk (set5 wX (w.heap.size + 1) 0 t ⟨none, 0, 0, []⟩) (w.heap.size + 1) 28 _ := Blk.five_ hB t ⟨none, 0, 0, []⟩
    have hres := results_blk (P := Tryz.prog) (tmps := tm) Tryz.results78 Tryz.isAgg28 (by exact Tryz.sizeOf28) hp hblk
    refine bodyPost_ret hres rfl ?_
    exact ⟨t, ⟨none, 0, 0, []⟩, p, k, rfl, by rw [hl]; exact LsAt.nil_ _ _, Own.nil_ _ _, hT.set5_ (by omega), fr_new5 hf (Nat.le_succ _), hRR⟩
  have h0 := H4.cell 0
  simp only [List.getElem?_toArray, List.getElem?_cons_succ, List.getElem?_cons_zero] at h0
  go_upto_region 4 with fail
  have T5 := T4
  have H5 := H4
  have R5 := R4
  have V5 := V4
  have fr5 := fr4
  clear T4 H4 R4 V4 fr4 h0
  have h0 := H5.cell 0
  have h1 := H5.cell 1
  have h2 := H5.cell 2
  simp only [List.getElem?_toArray, List.getElem?_cons_succ, List.getElem?_cons_zero] at h0 h1 h2
  have hwn : ((-1 : Int) != -1) = false := rfl
  have k6 := Below.one wa (.cells #[] 5)
  have zbl : w.heap.size + 2 < wa.heap.size := V5.lt
  have T6 := T5.below k6 T5.blk.lt
  have H6 := H5.below k6 H5.lt
  have R6 := R5.below k6 R5.lt
  have V6 := V5.below k6 V5.lt
  have fr6 := fr5.trans (Fr.of_below k6)
  have B6 := BS.new wa
  have zz0 := k6.size
  go_upto_region 8 with fail
  generalize wa.heap.size = bl at zbl B6 zz0 ⊢
  generalize wa.alloc (.cells #[] 5) = wc at T6 H6 R6 V6 fr6 B6 zz0 ⊢
  clear T5 H5 R5 V5 fr5 k6 h0 h1 h2
  go_loopg [6, 7] n (fun f' v6 v7 wr => ∃ (q0 fq c' : Nat) (A' : Option Addr) (acc : List UInt8), v6 = .slice A' acc.length c' ∧ n ≤ q0 + f' ∧ q0 ≤ n ∧ n + 1 ≤ fq + q0 ∧ acc.length ≤ q0 ∧ Hid (partsR b 2 fq q0 acc = R) ∧ QR wr g A n c b q0 0 ∧ Blk wr w.heap.size 36 #[.int .i64 2, .int .i64 0, .int .i64 (-1)] ∧ Blk wr (w.heap.size + 1) 28 #[.int .i64 0, .int .i64 0, .int .i64 0, .string ⟨#[]⟩, .slice none 0 0] ∧ Blk wr (w.heap.size + 2) 28 #[.int .i64 8, .int .i64 0, .int .i64 0, .string ⟨#[]⟩, .slice none 0 0] ∧ BS wr bl A' acc.length c' acc ∧ bl ≤ wr.heap.size ∧ Fr [g] w wr)
  case atStart => exact ⟨q, b.length + 1, _, _, [], rfl, by omega, hq, by omega, by simp, HR0, T6, H6, R6, V6, B6, zz0, fr6⟩
  case round =>
    obtain ⟨q0, fq, c', A', acc, rfl, hf1, hq0, hfq, hac, hP, hT, hH, hRb, hVb, hBs, hzr, hfr⟩ := hrel
    clear HR0 T6 H6 R6 V6 B6 fr6
    obtain ⟨f0, rfl⟩ : ∃ z, fq = z + 1 := ⟨fq - 1, by omega⟩
    have hP2 := hP.out
    unfold partsR at hP2
    clear hP
    have hzr2 : w.heap.size + 2 < wr.heap.size := hVb.lt
    obtain ⟨N, hN⟩ : ∃ N, acc.length = N := ⟨_, rfl⟩
    rw [hN] at hBs hac ⊢
    have HN := Lib.hid hN
    clear hN
    have HE := i_tends g A n c b q0 wr hT
    by_cases hst : b[q0]? = some 255
    · rw [if_pos hst] at hP2
      rw [decide_eq_true hst] at HE
      have HP := Lib.hid hP2
      clear hP2
      have hwq : IntKind.i64.wrap ((q0 : Int) + 1) = (q0 : Int) + 1 := by rw [IntKind.wrap_i64]; omega
      go_upto_region 17 with (go_at_call 113; refine HE.mono ?_; rintro r w2 ⟨rfl, hb2⟩)
      have T7 := hT.below hb2 hT.blk.lt
      have R7 := hRb.below hb2 hRb.lt
      have V7 := hVb.below hb2 hVb.lt
      have B7 := hBs.below hb2
      have fr7 := hfr.trans (Fr.of_below hb2)
      clear hT hH hRb hVb hBs hfr HE hb2
      obtain ⟨c0, c1, c2⟩ := T7.cells
      have f1 := T7.blk.frozen 1
      go_upto_region 18 with fail
      have T8 := T7.setAt ((q0 : Int) + 1)
      have R8 := R7.far (p := ⟨g, 1, none⟩) (by show w.heap.size + 1 ≠ g; omega) (.int .i64 ((q0 : Int) + 1))
      have V8 := V7.far (p := ⟨g, 1, none⟩) (by show w.heap.size + 2 ≠ g; omega) (.int .i64 ((q0 : Int) + 1))
      have ff8 := (Fr.refl [g] w2).setCell (p := ⟨g, 1, none⟩) (by simp) (.int .i64 ((q0 : Int) + 1))
      have B8 := B7.fr ff8 (fun x hx => by have := B7.from_ x hx; simp; omega)
      have fr8 := fr7.trans ff8
      generalize w2.setCell ⟨g, 1, none⟩ (.int .i64 ((q0 : Int) + 1)) = w8 at T8 R8 V8 B8 fr8 ⊢
      clear T7 R7 V7 B7 fr7 c0 c1 c2 f1 ff8
      have hcv := run_str_sl (P := Tryz.prog) 22 5 Tryz.underlying22 Tryz.underlying5 B8.sl 9 Tryz.underlying9
      obtain ⟨SS, hSS⟩ : ∃ SS, (⟨acc.toArray⟩ : ByteArray) = SS := ⟨_, rfl⟩
      change (convert 22 9 (.slice A' N c')).run Tryz.prog w8 = .ok (.string ⟨acc.toArray⟩) w8 at hcv
      rw [hSS] at hcv
      have HSS := Lib.hid hSS
      clear hSS
      have V6 := V8
      have p3 := V6.cell 3
      have f3 := V6.frozen 3
      simp only [List.getElem?_toArray, List.getElem?_cons_succ, List.getElem?_cons_zero] at p3
      go_upto_region 19 with fail
      have T9 : QR (w8.setCell ⟨w.heap.size + 2, 3, none⟩ (.string SS)) g A n c b _ _ := ⟨T8.blk.far (p := ⟨w.heap.size + 2, 3, none⟩) (by show g ≠ w.heap.size + 2; omega) _, T8.sl.setCell (p := ⟨w.heap.size + 2, 3, none⟩) (by show g ≤ w.heap.size + 2; omega) _, T8.bd⟩
      have R9 := R8.far (p := ⟨w.heap.size + 2, 3, none⟩) (by show w.heap.size + 1 ≠ w.heap.size + 2; omega) (.string SS)
      have V9 : Blk (w8.setCell ⟨w.heap.size + 2, 3, none⟩ (.string SS)) (w.heap.size + 2) 28 #[.int .i64 8, .int .i64 0, .int .i64 0, .string SS, .slice none 0 0] := by simpa using V6.set_ 3 (.string SS)
      have fr9 : Fr [g] w (w8.setCell ⟨w.heap.size + 2, 3, none⟩ (.string SS)) := fr_new (q := ⟨w.heap.size + 2, 3, none⟩) fr8 (by show w.heap.size ≤ w.heap.size + 2; omega) _
      generalize w8.setCell ⟨w.heap.size + 2, 3, none⟩ (.string SS) = w9 at T9 R9 V9 fr9 ⊢
      obtain ⟨v0, v1, v2, v3, v4⟩ := (show Blk w9 (w.heap.size + 2) 28 (valCells (leafTr 8 0 0 SS) ⟨none, 0, 0, []⟩) from V9).boxV
      obtain ⟨x0, x1, x2, x3, x4, ⟨s0, t0⟩, ⟨s1, t1⟩, ⟨s2, t2⟩, ⟨s3, t3⟩, s4, t4⟩ := R9.five (o := 0) (by simp) (.int .i64 (leafTr 8 0 0 SS).k) (.int .i64 (leafTr 8 0 0 SS).n) (.int .i64 (leafTr 8 0 0 SS).x) (.string (leafTr 8 0 0 SS).s)
      go_wp2_with fail
      exact fin (leafTr 8 0 0 SS) _ _ w9 _ R9 T9 fr9 rfl rfl (by rw [← HRR.out, ← HP.out, ← HSS.out]; exact ⟨rfl, by omega, rfl⟩)
    rw [if_neg hst] at hP2
    rw [decide_eq_false hst] at HE
    obtain ⟨⟨m2, n2, w2, nx, cd⟩, hG⟩ : ∃ x, getHead b q0 = x := ⟨_, rfl⟩
    rw [hG] at hP2
    simp only at hP2
    have hHD := fun w1 (hb : Below wr.heap.size wr w1) => hT.below hb hT.blk.lt
    by_cases hcd : cd = 0
    rotate_left
    · rw [if_pos hcd] at hP2
      have HP := Lib.hid hP2
      have hcb : (cd != 0) = true := by simpa using hcd
      have hcb2 : (cd == 0) = false := by simpa using hcd
      have HH := fun w1 h1 => i_thead_bad g A n c b q0 w1 h1 (by omega) m2 n2 w2 nx cd hG hcd
      unfold HeadP at HH
      clear hP2
      go_upto_region 10 with (first
        | (go_at_call 113; refine HE.mono ?_; rintro r w3 ⟨rfl, hb3⟩; have HH3 := HH _ (hHD _ hb3))
        | (go_at_call 76; refine HH3.mono ?_; rintro r w5 ⟨rfl, T5, hf5⟩))
      have kx := Below.one w5 (.cells #[.int .i64 0, .int .i64 0, .int .i64 0] 36)
      have T6 := T5.below kx T5.blk.lt
      have R6 := (Blk.ofFr (hRb.below hb3 hRb.lt) hf5 (by omega)).below kx (Blk.ofFr (hRb.below hb3 hRb.lt) hf5 (by omega)).lt
      have fr6 := ((hfr.trans (Fr.of_below hb3)).trans hf5).trans (Fr.of_below kx)
      generalize w5.alloc (.cells #[.int .i64 0, .int .i64 0, .int .i64 0] 36) = w6 at T6 R6 fr6 ⊢
      clear hT hH hRb hVb hBs hfr HE HH HH3 hHD hb3 T5 hf5 kx
      obtain ⟨c0, c1, c2⟩ := T6.cells
      obtain ⟨x0, x1, x2, x3, x4, ⟨s0, t0⟩, ⟨s1, t1⟩, ⟨s2, t2⟩, ⟨s3, t3⟩, s4, t4⟩ := R6.five (o := 0) (by simp) (.int .i64 (zeroT).k) (.int .i64 (zeroT).n) (.int .i64 (zeroT).x) (.string (zeroT).s)
      simp only [leafTr, zeroT] at s0 s1 s2 s3 s4 t0 t1 t2 t3 t4
      go_wp2_with fail
      exact fin zeroT _ _ w6 _ R6 T6 fr6 rfl rfl (by rw [← HRR.out, ← HP.out]; exact ⟨rfl, hcd⟩)
    subst hcd
    rw [if_neg (by simp)] at hP2
    have hF := head_facts hG
    rw [Int.toNat_natCast] at hF
    obtain ⟨nn, rfl⟩ := Int.eq_ofNat_of_zero_le hF.2.2.2.2.1.1
    obtain ⟨xn, rfl⟩ := Int.eq_ofNat_of_zero_le (show 0 ≤ nx by omega)
    simp only [Int.toNat_natCast] at hP2
    have HH := fun w1 h1 => i_thead_good g A n c b q0 w1 h1 (by omega) m2 nn w2 xn 0 hG rfl
    unfold HeadP at HH
    go_upto_region 10 with (first
      | (go_at_call 113; refine HE.mono ?_; rintro r w3 ⟨rfl, hb3⟩; have HH3 := HH _ (hHD _ hb3))
      | (go_at_call 76; refine HH3.mono ?_; rintro r w5 ⟨rfl, T5, hf5⟩))
    have kx := Below.one w5 (.cells #[.int .i64 m2, .int .i64 nn, .int .i64 w2] 36)
    have T6 := T5.below kx T5.blk.lt
    have H6 := (Blk.ofFr (hH.below hb3 hH.lt) hf5 (by omega)).below kx (Blk.ofFr (hH.below hb3 hH.lt) hf5 (by omega)).lt
    have R6 := (Blk.ofFr (hRb.below hb3 hRb.lt) hf5 (by omega)).below kx (Blk.ofFr (hRb.below hb3 hRb.lt) hf5 (by omega)).lt
    have V6 := (Blk.ofFr (hVb.below hb3 hVb.lt) hf5 (by omega)).below kx (Blk.ofFr (hVb.below hb3 hVb.lt) hf5 (by omega)).lt
    have M6 := Blk.new w5 36 #[.int .i64 m2, .int .i64 nn, .int .i64 w2]
    have B5 := (hBs.below hb3).fr hf5 (fun x hx => by have := (hBs.below hb3).from_ x hx; simp; omega)
    have B6 := B5.below kx
    have fr6 := ((hfr.trans (Fr.of_below hb3)).trans hf5).trans (Fr.of_below kx)
    have zz5 : wr.heap.size ≤ w5.heap.size := Nat.le_trans hb3.size hf5.size
    have zz6 : bl ≤ (w5.alloc (.cells #[.int .i64 m2, .int .i64 nn, .int .i64 w2] 36)).heap.size := Nat.le_trans (by omega) kx.size
    have zbm : w.heap.size + 2 < w5.heap.size ∧ g < w5.heap.size := by omega
    generalize w5.heap.size = bm at M6 zz5 zbm ⊢
    generalize w5.alloc (.cells #[.int .i64 m2, .int .i64 nn, .int .i64 w2] 36) = w6 at T6 H6 R6 V6 M6 B6 fr6 zz6 ⊢
    clear hT hH hRb hVb hBs hfr HE HH HH3 hHD hb3 T5 hf5 kx B5 hG
    obtain ⟨c0, c1, c2⟩ := T6.cells
    have e0 := M6.cell 0
    have e1 := M6.cell 1
    have e2 := M6.cell 2
    have h0 := H6.cell 0
    simp only [List.getElem?_toArray, List.getElem?_cons_succ, List.getElem?_cons_zero] at e0 e1 e2 h0
    by_cases hbad : m2 ≠ 2 ∨ w2 = -1
    · rw [if_pos hbad] at hP2
      have HP := Lib.hid hP2
      clear hP2
      have HF := i_tfail g A n c b xn 1 w6 T6
      unfold FailQ at HF
      have key : ∀ w7, QR w7 g A n c b xn 1 → Fr [g] w6 w7 → True := fun _ _ _ => trivial
      by_cases hm2 : m2 = 2
      · have hw1 : w2 = -1 := by omega
        subst hm2 hw1
        go_upto_region 12 with (go_at_call 75; refine HF.mono ?_; rintro r w7 ⟨rfl, T7, hf7⟩)
        have R7 := Blk.ofFr R6 hf7 (by omega)
        have fr7 := fr6.trans hf7
        obtain ⟨d0, d1, d2⟩ := T7.cells
        obtain ⟨x0, x1, x2, x3, x4, ⟨s0, t0⟩, ⟨s1, t1⟩, ⟨s2, t2⟩, ⟨s3, t3⟩, s4, t4⟩ := R7.five (o := 0) (by simp) (.int .i64 (zeroT).k) (.int .i64 (zeroT).n) (.int .i64 (zeroT).x) (.string (zeroT).s)
        simp only [leafTr, zeroT] at s0 s1 s2 s3 s4 t0 t1 t2 t3 t4
        go_wp2_with fail
        exact fin zeroT _ _ w7 _ R7 T7 fr7 rfl rfl (by rw [← HRR.out, ← HP.out]; exact ⟨rfl, by decide⟩)
      · have hmm : (m2 != 2) = true := by simpa using hm2
        go_upto_region 12 with (go_at_call 75; refine HF.mono ?_; rintro r w7 ⟨rfl, T7, hf7⟩)
        have R7 := Blk.ofFr R6 hf7 (by omega)
        have fr7 := fr6.trans hf7
        obtain ⟨d0, d1, d2⟩ := T7.cells
        obtain ⟨x0, x1, x2, x3, x4, ⟨s0, t0⟩, ⟨s1, t1⟩, ⟨s2, t2⟩, ⟨s3, t3⟩, s4, t4⟩ := R7.five (o := 0) (by simp) (.int .i64 (zeroT).k) (.int .i64 (zeroT).n) (.int .i64 (zeroT).x) (.string (zeroT).s)
        simp only [leafTr, zeroT] at s0 s1 s2 s3 s4 t0 t1 t2 t3 t4
        go_wp2_with fail
        exact fin zeroT _ _ w7 _ R7 T7 fr7 rfl rfl (by rw [← HRR.out, ← HP.out]; exact ⟨rfl, by decide⟩)
    rw [if_neg hbad] at hP2
    have hme : m2 = 2 := by omega
    subst hme
    have hw0 : (w2 == -1) = false := by simp; omega
    have HB := i_tbytes g A n c b xn nn 2 w2 w6 T6 (by omega) (by omega) (hX.fr fr6)
    obtain ⟨X, hX0⟩ : ∃ X, strR b 2 (nn : Int) xn = X := ⟨_, rfl⟩
    rw [hX0] at hP2 HB
    have hXb : ∀ c0, X = .bad c0 → c0 ≠ 0 := fun c0 he => strR_bad (hX0.trans he)
    have hXg : ∀ s q', X = .good s q' → xn ≤ q' ∧ q' ≤ b.length ∧ s.length + xn = q' := fun s q' he => strR_good (hX0.trans he)
    clear hX0
    cases X with
    | bad c9 =>
      have hc0 := hXb c9 rfl
      have hcb : (c9 != 0) = true := by simpa using hc0
      have HP := Lib.hid hP2
      clear hP2 hXb hXg
      unfold StrP at HB
      simp only at HB
      go_upto_region 15 with (first
        | (go_at_call 112; refine HB.mono ?_; rintro r w7 ⟨p, rfl, T7, hf7⟩; have B7 := B6.fr hf7 (fun x hx => by have := B6.from_ x hx; simp; omega); have R7 := Blk.ofFr R6 hf7 (by omega); have zz7 := Nat.le_trans zz6 hf7.size)
        | (at_builtin; refine app_strg rfl _ _ rfl B7 rfl rfl (by show N + 0 ≤ _; omega) zz7 ?_; intro A8 c8 w8 h8 hg8))
      have kb := hg8.below B7 zz7
      have T8 := T7.below kb (by omega)
      have R8 := R7.below kb (by omega)
      have fr8 := fr_bel (fr6.trans hf7) kb (by omega)
      clear T6 H6 R6 V6 M6 B6 fr6 zz6 HB T7 hf7 B7 R7 zz7 h8 hg8 kb c0 c1 c2 e0 e1 e2 h0
      obtain ⟨c0, c1, c2⟩ := T8.cells
      obtain ⟨x0, x1, x2, x3, x4, ⟨s0, t0⟩, ⟨s1, t1⟩, ⟨s2, t2⟩, ⟨s3, t3⟩, s4, t4⟩ := R8.five (o := 0) (by simp) (.int .i64 (zeroT).k) (.int .i64 (zeroT).n) (.int .i64 (zeroT).x) (.string (zeroT).s)
      simp only [leafTr, zeroT] at s0 s1 s2 s3 s4 t0 t1 t2 t3 t4
      go_wp2_with fail
      exact fin zeroT _ _ w8 _ R8 T8 fr8 rfl rfl (by rw [← HRR.out, ← HP.out]; exact ⟨rfl, hc0⟩)
    | good s q' =>
      obtain ⟨hq1, hq2, hq3⟩ := hXg s q' rfl
      have HP : Hid (partsR b 2 f0 q' (acc ++ s) = R) := Lib.hid hP2
      clear hP2 hXb hXg
      obtain ⟨f1, rfl⟩ : ∃ z, gk = z + 1 := ⟨gk - 1, by omega⟩
      unfold StrP at HB
      simp only at HB
      obtain ⟨SS, hSS⟩ : ∃ SS, (⟨s.toArray⟩ : ByteArray) = SS := ⟨_, rfl⟩
      rw [hSS] at HB
      have hz2 : SS.size = s.length := by rw [← hSS]; show s.toArray.size = _; simp
      have hd2 : SS.data.toList = s := by rw [← hSS]
      have HZ2 := Lib.hid hz2
      have HD2 := Lib.hid hd2
      have hNS : N + SS.size ≤ 70368744177664 := by rw [hz2]; omega
      clear hSS hz2 hd2
      go_upto_region 15 with (first
        | (go_at_call 112; refine HB.mono ?_; rintro r w7 ⟨rfl, T7, hf7⟩; have B7 := B6.fr hf7 (fun x hx => by have := B6.from_ x hx; simp; omega); have R7 := Blk.ofFr R6 hf7 (by omega); have H7 := Blk.ofFr H6 hf7 (by omega); have V7 := Blk.ofFr V6 hf7 (by omega); have zz7 := Nat.le_trans zz6 hf7.size)
        | (at_builtin; refine app_strg rfl _ _ rfl B7 rfl rfl hNS zz7 ?_; intro A8 c8 w8 h8 hg8))
      have kb := hg8.below B7 zz7
      have T8 := T7.below kb (by omega)
      have R8 := R7.below kb (by omega)
      have H8 := H7.below kb (by omega)
      have V8 := V7.below kb (by omega)
      have fr8 := fr_bel (fr6.trans hf7) kb (by omega)
      have e9 : N + SS.size = (acc ++ s).length := by rw [HZ2.out, List.length_append, HN.out]
      rw [HD2.out, e9] at h8
      rw [e9]
      clear T6 H6 R6 V6 M6 B6 fr6 zz6 HB T7 hf7 B7 R7 H7 V7 hg8 c0 c1 c2 e0 e1 e2 h0 e9 hNS
      obtain ⟨c0, c1, c2⟩ := T8.cells
      go_wp2_with fail
      go_roundg f1
      case measure => omega
      case rel => exact ⟨q', f0, c8, A8, acc ++ s, rfl, by omega, by omega, by omega, by have := HN.out; rw [List.length_append]; omega, HP, T8, H8, R8, V8, h8, Nat.le_trans zz7 kb.size, fr8⟩
set_option maxHeartbeats 8000000 in
theorem i_ttext3i (g : Nat) (A : Option Addr) (n c : Nat) (b : List UInt8) (q : Nat) (w : World) (h : QR w g A n c b q 0) (hq : q ≤ n) (hX : TXs w g) :
    Calls Tryz.prog 78 #[.pointer (some ⟨g, 0, none⟩), .agg #[.int .i64 3, .int .i64 0, .int .i64 (-1)]] w fun r w' => ReadQ w w' g A n c b (closeS 3 (anyS b 3 0 (-1) q)) r := by
  have hgl := h.blk.lt
  have hbl := h.sl.blen
  have hbd := h.bd
  have k3 := Below.three w (.cells #[.int .i64 3, .int .i64 0, .int .i64 (-1)] 36) (.cells #[.int .i64 0, .int .i64 0, .int .i64 0, .string ⟨#[]⟩, .slice none 0 0] 28) (.cells #[.int .i64 8, .int .i64 0, .int .i64 0, .string ⟨#[]⟩, .slice none 0 0] 28)
  have T4 := h.below k3 h.blk.lt
  have H4 : Blk (((w.alloc (.cells #[.int .i64 3, .int .i64 0, .int .i64 (-1)] 36)).alloc (.cells #[.int .i64 0, .int .i64 0, .int .i64 0, .string ⟨#[]⟩, .slice none 0 0] 28)).alloc (.cells #[.int .i64 8, .int .i64 0, .int .i64 0, .string ⟨#[]⟩, .slice none 0 0] 28)) w.heap.size 36 #[.int .i64 3, .int .i64 0, .int .i64 (-1)] := Blk.alloc (Blk.alloc (Blk.new w _ _) _) _
  have R4 : Blk (((w.alloc (.cells #[.int .i64 3, .int .i64 0, .int .i64 (-1)] 36)).alloc (.cells #[.int .i64 0, .int .i64 0, .int .i64 0, .string ⟨#[]⟩, .slice none 0 0] 28)).alloc (.cells #[.int .i64 8, .int .i64 0, .int .i64 0, .string ⟨#[]⟩, .slice none 0 0] 28)) (w.heap.size + 1) 28 #[.int .i64 0, .int .i64 0, .int .i64 0, .string ⟨#[]⟩, .slice none 0 0] := by
    simpa using Blk.alloc (Blk.new (w.alloc (.cells #[.int .i64 3, .int .i64 0, .int .i64 (-1)] 36)) 28 #[.int .i64 0, .int .i64 0, .int .i64 0, .string ⟨#[]⟩, .slice none 0 0]) (.cells #[.int .i64 8, .int .i64 0, .int .i64 0, .string ⟨#[]⟩, .slice none 0 0] 28)
  have V4 : Blk (((w.alloc (.cells #[.int .i64 3, .int .i64 0, .int .i64 (-1)] 36)).alloc (.cells #[.int .i64 0, .int .i64 0, .int .i64 0, .string ⟨#[]⟩, .slice none 0 0] 28)).alloc (.cells #[.int .i64 8, .int .i64 0, .int .i64 0, .string ⟨#[]⟩, .slice none 0 0] 28)) (w.heap.size + 2) 28 #[.int .i64 8, .int .i64 0, .int .i64 0, .string ⟨#[]⟩, .slice none 0 0] := by
    simpa using Blk.new ((w.alloc (.cells #[.int .i64 3, .int .i64 0, .int .i64 (-1)] 36)).alloc (.cells #[.int .i64 0, .int .i64 0, .int .i64 0, .string ⟨#[]⟩, .slice none 0 0] 28)) 28 #[.int .i64 8, .int .i64 0, .int .i64 0, .string ⟨#[]⟩, .slice none 0 0]
  have fr4 := Fr.of_below (fp := [g]) k3
  rw [show anyS b 3 0 (-1) q = partsR b 3 (b.length + 1) q [] by unfold anyS; rw [if_pos rfl]]
  obtain ⟨R, hR0⟩ : ∃ R, partsR b 3 (b.length + 1) q [] = R := ⟨_, rfl⟩
  rw [hR0]
  have HR0 := Lib.hid hR0
  clear hR0
  obtain ⟨RR, hRR⟩ : ∃ RR, closeS 3 R = RR := ⟨_, rfl⟩
  rw [hRR]
  have HRR := Lib.hid hRR
  clear hRR
  go_enter Tryz.func78, Tryz.ntmps78
  go_upto_region 2 with fail
  generalize ((w.alloc (.cells #[.int .i64 3, .int .i64 0, .int .i64 (-1)] 36)).alloc (.cells #[.int .i64 0, .int .i64 0, .int .i64 0, .string ⟨#[]⟩, .slice none 0 0] 28)).alloc (.cells #[.int .i64 8, .int .i64 0, .int .i64 0, .string ⟨#[]⟩, .slice none 0 0] 28) = wa at T4 H4 R4 V4 fr4 ⊢
  have fin : ∀ (t : Tr) (p k : Int) (wX : World) (tm : Array Value), Blk wX (w.heap.size + 1) 28 #[.int .i64 0, .int .i64 0, .int .i64 0, .string ⟨#[]⟩, .slice none 0 0] → QR wX g A n c b p k → Fr [g] w wX → tm.getD 4 undef = .pointer (some ⟨w.heap.size + 1, 0, none⟩) → t.l = [] → RokI RR t p k →
      bodyPost Tryz.prog Tryz.f78 (fun r w' => ReadQ w w' g A n c b RR r) .ret ⟨tm, []⟩ (set5 wX (w.heap.size + 1) 0 t ⟨none, 0, 0, []⟩) := by
    intro t p k wX tm hB hT hf hp hl hRR
    have hblk : Blk (set5 wX (w.heap.size + 1) 0 t ⟨none, 0, 0, []⟩) (w.heap.size + 1) 28 _ := Blk.five_ hB t ⟨none, 0, 0, []⟩
    have hres := results_blk (P := Tryz.prog) (tmps := tm) Tryz.results78 Tryz.isAgg28 (by exact Tryz.sizeOf28) hp hblk
    refine bodyPost_ret hres rfl ?_
    exact ⟨t, ⟨none, 0, 0, []⟩, p, k, rfl, by rw [hl]; exact LsAt.nil_ _ _, Own.nil_ _ _, hT.set5_ (by omega), fr_new5 hf (Nat.le_succ _), hRR⟩
  have h0 := H4.cell 0
  simp only [List.getElem?_toArray, List.getElem?_cons_succ, List.getElem?_cons_zero] at h0
  have p0 := V4.cell 0
  have f0 := V4.frozen 0
  simp only [List.getElem?_toArray, List.getElem?_cons_succ, List.getElem?_cons_zero] at p0
  go_upto_region 4 with fail
  have T5 : QR (wa.setCell ⟨w.heap.size + 2, 0, none⟩ (.int .i64 7)) g A n c b q 0 := ⟨T4.blk.far (p := ⟨w.heap.size + 2, 0, none⟩) (by show g ≠ w.heap.size + 2; omega) _, T4.sl.setCell (p := ⟨w.heap.size + 2, 0, none⟩) (by show g ≤ w.heap.size + 2; omega) _, T4.bd⟩
  have H5 := H4.far (p := ⟨w.heap.size + 2, 0, none⟩) (by show w.heap.size ≠ w.heap.size + 2; omega) (.int .i64 7)
  have R5 := R4.far (p := ⟨w.heap.size + 2, 0, none⟩) (by show w.heap.size + 1 ≠ w.heap.size + 2; omega) (.int .i64 7)
  have V5 : Blk (wa.setCell ⟨w.heap.size + 2, 0, none⟩ (.int .i64 7)) (w.heap.size + 2) 28 #[.int .i64 7, .int .i64 0, .int .i64 0, .string ⟨#[]⟩, .slice none 0 0] := by simpa using V4.set_ 0 (.int .i64 7)
  have fr5 : Fr [g] w (wa.setCell ⟨w.heap.size + 2, 0, none⟩ (.int .i64 7)) := fr_new (q := ⟨w.heap.size + 2, 0, none⟩) fr4 (by show w.heap.size ≤ w.heap.size + 2; omega) _
  generalize wa.setCell ⟨w.heap.size + 2, 0, none⟩ (.int .i64 7) = wb at T5 H5 R5 V5 fr5 ⊢
  clear T4 H4 R4 V4 fr4 p0 f0 h0
  have h0 := H5.cell 0
  have h1 := H5.cell 1
  have h2 := H5.cell 2
  simp only [List.getElem?_toArray, List.getElem?_cons_succ, List.getElem?_cons_zero] at h0 h1 h2
  have hwn : ((-1 : Int) != -1) = false := rfl
  have k6 := Below.one wb (.cells #[] 5)
  have zbl : w.heap.size + 2 < wb.heap.size := V5.lt
  have T6 := T5.below k6 T5.blk.lt
  have H6 := H5.below k6 H5.lt
  have R6 := R5.below k6 R5.lt
  have V6 := V5.below k6 V5.lt
  have fr6 := fr5.trans (Fr.of_below k6)
  have B6 := BS.new wb
  have zz0 := k6.size
  go_upto_region 8 with fail
  generalize wb.heap.size = bl at zbl B6 zz0 ⊢
  generalize wb.alloc (.cells #[] 5) = wc at T6 H6 R6 V6 fr6 B6 zz0 ⊢
  clear T5 H5 R5 V5 fr5 k6 h0 h1 h2
  go_loopg [6, 7] n (fun f' v6 v7 wr => ∃ (q0 fq c' : Nat) (A' : Option Addr) (acc : List UInt8), v6 = .slice A' acc.length c' ∧ n ≤ q0 + f' ∧ q0 ≤ n ∧ n + 1 ≤ fq + q0 ∧ acc.length ≤ q0 ∧ Hid (partsR b 3 fq q0 acc = R) ∧ QR wr g A n c b q0 0 ∧ Blk wr w.heap.size 36 #[.int .i64 3, .int .i64 0, .int .i64 (-1)] ∧ Blk wr (w.heap.size + 1) 28 #[.int .i64 0, .int .i64 0, .int .i64 0, .string ⟨#[]⟩, .slice none 0 0] ∧ Blk wr (w.heap.size + 2) 28 #[.int .i64 7, .int .i64 0, .int .i64 0, .string ⟨#[]⟩, .slice none 0 0] ∧ BS wr bl A' acc.length c' acc ∧ bl ≤ wr.heap.size ∧ Fr [g] w wr)
  case atStart => exact ⟨q, b.length + 1, _, _, [], rfl, by omega, hq, by omega, by simp, HR0, T6, H6, R6, V6, B6, zz0, fr6⟩
  case round =>
    obtain ⟨q0, fq, c', A', acc, rfl, hf1, hq0, hfq, hac, hP, hT, hH, hRb, hVb, hBs, hzr, hfr⟩ := hrel
    clear HR0 T6 H6 R6 V6 B6 fr6
    obtain ⟨f0, rfl⟩ : ∃ z, fq = z + 1 := ⟨fq - 1, by omega⟩
    have hP2 := hP.out
    unfold partsR at hP2
    clear hP
    have hzr2 : w.heap.size + 2 < wr.heap.size := hVb.lt
    obtain ⟨N, hN⟩ : ∃ N, acc.length = N := ⟨_, rfl⟩
    rw [hN] at hBs hac ⊢
    have HN := Lib.hid hN
    clear hN
    have HE := i_tends g A n c b q0 wr hT
    by_cases hst : b[q0]? = some 255
    · rw [if_pos hst] at hP2
      rw [decide_eq_true hst] at HE
      have HP := Lib.hid hP2
      clear hP2
      have hwq : IntKind.i64.wrap ((q0 : Int) + 1) = (q0 : Int) + 1 := by rw [IntKind.wrap_i64]; omega
      go_upto_region 17 with (go_at_call 113; refine HE.mono ?_; rintro r w2 ⟨rfl, hb2⟩)
      have T7 := hT.below hb2 hT.blk.lt
      have R7 := hRb.below hb2 hRb.lt
      have V7 := hVb.below hb2 hVb.lt
      have B7 := hBs.below hb2
      have fr7 := hfr.trans (Fr.of_below hb2)
      clear hT hH hRb hVb hBs hfr HE hb2
      obtain ⟨c0, c1, c2⟩ := T7.cells
      have f1 := T7.blk.frozen 1
      go_upto_region 18 with fail
      have T8 := T7.setAt ((q0 : Int) + 1)
      have R8 := R7.far (p := ⟨g, 1, none⟩) (by show w.heap.size + 1 ≠ g; omega) (.int .i64 ((q0 : Int) + 1))
      have V8 := V7.far (p := ⟨g, 1, none⟩) (by show w.heap.size + 2 ≠ g; omega) (.int .i64 ((q0 : Int) + 1))
      have ff8 := (Fr.refl [g] w2).setCell (p := ⟨g, 1, none⟩) (by simp) (.int .i64 ((q0 : Int) + 1))
      have B8 := B7.fr ff8 (fun x hx => by have := B7.from_ x hx; simp; omega)
      have fr8 := fr7.trans ff8
      generalize w2.setCell ⟨g, 1, none⟩ (.int .i64 ((q0 : Int) + 1)) = w8 at T8 R8 V8 B8 fr8 ⊢
      clear T7 R7 V7 B7 fr7 c0 c1 c2 f1 ff8
      have hcv := run_str_sl (P := Tryz.prog) 22 5 Tryz.underlying22 Tryz.underlying5 B8.sl 9 Tryz.underlying9
      obtain ⟨SS, hSS⟩ : ∃ SS, (⟨acc.toArray⟩ : ByteArray) = SS := ⟨_, rfl⟩
      change (convert 22 9 (.slice A' N c')).run Tryz.prog w8 = .ok (.string ⟨acc.toArray⟩) w8 at hcv
      rw [hSS] at hcv
      have HSS := Lib.hid hSS
      clear hSS
      have V6 := V8
      have p3 := V6.cell 3
      have f3 := V6.frozen 3
      simp only [List.getElem?_toArray, List.getElem?_cons_succ, List.getElem?_cons_zero] at p3
      go_upto_region 19 with fail
      have T9 : QR (w8.setCell ⟨w.heap.size + 2, 3, none⟩ (.string SS)) g A n c b _ _ := ⟨T8.blk.far (p := ⟨w.heap.size + 2, 3, none⟩) (by show g ≠ w.heap.size + 2; omega) _, T8.sl.setCell (p := ⟨w.heap.size + 2, 3, none⟩) (by show g ≤ w.heap.size + 2; omega) _, T8.bd⟩
      have R9 := R8.far (p := ⟨w.heap.size + 2, 3, none⟩) (by show w.heap.size + 1 ≠ w.heap.size + 2; omega) (.string SS)
      have V9 : Blk (w8.setCell ⟨w.heap.size + 2, 3, none⟩ (.string SS)) (w.heap.size + 2) 28 #[.int .i64 7, .int .i64 0, .int .i64 0, .string SS, .slice none 0 0] := by simpa using V6.set_ 3 (.string SS)
      have fr9 : Fr [g] w (w8.setCell ⟨w.heap.size + 2, 3, none⟩ (.string SS)) := fr_new (q := ⟨w.heap.size + 2, 3, none⟩) fr8 (by show w.heap.size ≤ w.heap.size + 2; omega) _
      generalize w8.setCell ⟨w.heap.size + 2, 3, none⟩ (.string SS) = w9 at T9 R9 V9 fr9 ⊢
      obtain ⟨v0, v1, v2, v3, v4⟩ := (show Blk w9 (w.heap.size + 2) 28 (valCells (leafTr 7 0 0 SS) ⟨none, 0, 0, []⟩) from V9).boxV
      obtain ⟨x0, x1, x2, x3, x4, ⟨s0, t0⟩, ⟨s1, t1⟩, ⟨s2, t2⟩, ⟨s3, t3⟩, s4, t4⟩ := R9.five (o := 0) (by simp) (.int .i64 (leafTr 7 0 0 SS).k) (.int .i64 (leafTr 7 0 0 SS).n) (.int .i64 (leafTr 7 0 0 SS).x) (.string (leafTr 7 0 0 SS).s)
      go_wp2_with fail
      exact fin (leafTr 7 0 0 SS) _ _ w9 _ R9 T9 fr9 rfl rfl (by rw [← HRR.out, ← HP.out, ← HSS.out]; exact ⟨rfl, by omega, rfl⟩)
    rw [if_neg hst] at hP2
    rw [decide_eq_false hst] at HE
    obtain ⟨⟨m2, n2, w2, nx, cd⟩, hG⟩ : ∃ x, getHead b q0 = x := ⟨_, rfl⟩
    rw [hG] at hP2
    simp only at hP2
    have hHD := fun w1 (hb : Below wr.heap.size wr w1) => hT.below hb hT.blk.lt
    by_cases hcd : cd = 0
    rotate_left
    · rw [if_pos hcd] at hP2
      have HP := Lib.hid hP2
      have hcb : (cd != 0) = true := by simpa using hcd
      have hcb2 : (cd == 0) = false := by simpa using hcd
      have HH := fun w1 h1 => i_thead_bad g A n c b q0 w1 h1 (by omega) m2 n2 w2 nx cd hG hcd
      unfold HeadP at HH
      clear hP2
      go_upto_region 10 with (first
        | (go_at_call 113; refine HE.mono ?_; rintro r w3 ⟨rfl, hb3⟩; have HH3 := HH _ (hHD _ hb3))
        | (go_at_call 76; refine HH3.mono ?_; rintro r w5 ⟨rfl, T5, hf5⟩))
      have kx := Below.one w5 (.cells #[.int .i64 0, .int .i64 0, .int .i64 0] 36)
      have T6 := T5.below kx T5.blk.lt
      have R6 := (Blk.ofFr (hRb.below hb3 hRb.lt) hf5 (by omega)).below kx (Blk.ofFr (hRb.below hb3 hRb.lt) hf5 (by omega)).lt
      have fr6 := ((hfr.trans (Fr.of_below hb3)).trans hf5).trans (Fr.of_below kx)
      generalize w5.alloc (.cells #[.int .i64 0, .int .i64 0, .int .i64 0] 36) = w6 at T6 R6 fr6 ⊢
      clear hT hH hRb hVb hBs hfr HE HH HH3 hHD hb3 T5 hf5 kx
      obtain ⟨c0, c1, c2⟩ := T6.cells
      obtain ⟨x0, x1, x2, x3, x4, ⟨s0, t0⟩, ⟨s1, t1⟩, ⟨s2, t2⟩, ⟨s3, t3⟩, s4, t4⟩ := R6.five (o := 0) (by simp) (.int .i64 (zeroT).k) (.int .i64 (zeroT).n) (.int .i64 (zeroT).x) (.string (zeroT).s)
      simp only [leafTr, zeroT] at s0 s1 s2 s3 s4 t0 t1 t2 t3 t4
      go_wp2_with fail
      exact fin zeroT _ _ w6 _ R6 T6 fr6 rfl rfl (by rw [← HRR.out, ← HP.out]; exact ⟨rfl, hcd⟩)
    subst hcd
    rw [if_neg (by simp)] at hP2
    have hF := head_facts hG
    rw [Int.toNat_natCast] at hF
    obtain ⟨nn, rfl⟩ := Int.eq_ofNat_of_zero_le hF.2.2.2.2.1.1
    obtain ⟨xn, rfl⟩ := Int.eq_ofNat_of_zero_le (show 0 ≤ nx by omega)
    simp only [Int.toNat_natCast] at hP2
    have HH := fun w1 h1 => i_thead_good g A n c b q0 w1 h1 (by omega) m2 nn w2 xn 0 hG rfl
    unfold HeadP at HH
    go_upto_region 10 with (first
      | (go_at_call 113; refine HE.mono ?_; rintro r w3 ⟨rfl, hb3⟩; have HH3 := HH _ (hHD _ hb3))
      | (go_at_call 76; refine HH3.mono ?_; rintro r w5 ⟨rfl, T5, hf5⟩))
    have kx := Below.one w5 (.cells #[.int .i64 m2, .int .i64 nn, .int .i64 w2] 36)
    have T6 := T5.below kx T5.blk.lt
    have H6 := (Blk.ofFr (hH.below hb3 hH.lt) hf5 (by omega)).below kx (Blk.ofFr (hH.below hb3 hH.lt) hf5 (by omega)).lt
    have R6 := (Blk.ofFr (hRb.below hb3 hRb.lt) hf5 (by omega)).below kx (Blk.ofFr (hRb.below hb3 hRb.lt) hf5 (by omega)).lt
    have V6 := (Blk.ofFr (hVb.below hb3 hVb.lt) hf5 (by omega)).below kx (Blk.ofFr (hVb.below hb3 hVb.lt) hf5 (by omega)).lt
    have M6 := Blk.new w5 36 #[.int .i64 m2, .int .i64 nn, .int .i64 w2]
    have B5 := (hBs.below hb3).fr hf5 (fun x hx => by have := (hBs.below hb3).from_ x hx; simp; omega)
    have B6 := B5.below kx
    have fr6 := ((hfr.trans (Fr.of_below hb3)).trans hf5).trans (Fr.of_below kx)
    have zz5 : wr.heap.size ≤ w5.heap.size := Nat.le_trans hb3.size hf5.size
    have zz6 : bl ≤ (w5.alloc (.cells #[.int .i64 m2, .int .i64 nn, .int .i64 w2] 36)).heap.size := Nat.le_trans (by omega) kx.size
    have zbm : w.heap.size + 2 < w5.heap.size ∧ g < w5.heap.size := by omega
    generalize w5.heap.size = bm at M6 zz5 zbm ⊢
    generalize w5.alloc (.cells #[.int .i64 m2, .int .i64 nn, .int .i64 w2] 36) = w6 at T6 H6 R6 V6 M6 B6 fr6 zz6 ⊢
    clear hT hH hRb hVb hBs hfr HE HH HH3 hHD hb3 T5 hf5 kx B5 hG
    obtain ⟨c0, c1, c2⟩ := T6.cells
    have e0 := M6.cell 0
    have e1 := M6.cell 1
    have e2 := M6.cell 2
    have h0 := H6.cell 0
    simp only [List.getElem?_toArray, List.getElem?_cons_succ, List.getElem?_cons_zero] at e0 e1 e2 h0
    by_cases hbad : m2 ≠ 3 ∨ w2 = -1
    · rw [if_pos hbad] at hP2
      have HP := Lib.hid hP2
      clear hP2
      have HF := i_tfail g A n c b xn 1 w6 T6
      unfold FailQ at HF
      have key : ∀ w7, QR w7 g A n c b xn 1 → Fr [g] w6 w7 → True := fun _ _ _ => trivial
      by_cases hm2 : m2 = 3
      · have hw1 : w2 = -1 := by omega
        subst hm2 hw1
        go_upto_region 12 with (go_at_call 75; refine HF.mono ?_; rintro r w7 ⟨rfl, T7, hf7⟩)
        have R7 := Blk.ofFr R6 hf7 (by omega)
        have fr7 := fr6.trans hf7
        obtain ⟨d0, d1, d2⟩ := T7.cells
        obtain ⟨x0, x1, x2, x3, x4, ⟨s0, t0⟩, ⟨s1, t1⟩, ⟨s2, t2⟩, ⟨s3, t3⟩, s4, t4⟩ := R7.five (o := 0) (by simp) (.int .i64 (zeroT).k) (.int .i64 (zeroT).n) (.int .i64 (zeroT).x) (.string (zeroT).s)
        simp only [leafTr, zeroT] at s0 s1 s2 s3 s4 t0 t1 t2 t3 t4
        go_wp2_with fail
        exact fin zeroT _ _ w7 _ R7 T7 fr7 rfl rfl (by rw [← HRR.out, ← HP.out]; exact ⟨rfl, by decide⟩)
      · have hmm : (m2 != 3) = true := by simpa using hm2
        go_upto_region 12 with (go_at_call 75; refine HF.mono ?_; rintro r w7 ⟨rfl, T7, hf7⟩)
        have R7 := Blk.ofFr R6 hf7 (by omega)
        have fr7 := fr6.trans hf7
        obtain ⟨d0, d1, d2⟩ := T7.cells
        obtain ⟨x0, x1, x2, x3, x4, ⟨s0, t0⟩, ⟨s1, t1⟩, ⟨s2, t2⟩, ⟨s3, t3⟩, s4, t4⟩ := R7.five (o := 0) (by simp) (.int .i64 (zeroT).k) (.int .i64 (zeroT).n) (.int .i64 (zeroT).x) (.string (zeroT).s)
        simp only [leafTr, zeroT] at s0 s1 s2 s3 s4 t0 t1 t2 t3 t4
        go_wp2_with fail
        exact fin zeroT _ _ w7 _ R7 T7 fr7 rfl rfl (by rw [← HRR.out, ← HP.out]; exact ⟨rfl, by decide⟩)
    rw [if_neg hbad] at hP2
    have hme : m2 = 3 := by omega
    subst hme
    have hw0 : (w2 == -1) = false := by simp; omega
    have HB := i_tbytes g A n c b xn nn 3 w2 w6 T6 (by omega) (by omega) (hX.fr fr6)
    obtain ⟨X, hX0⟩ : ∃ X, strR b 3 (nn : Int) xn = X := ⟨_, rfl⟩
    rw [hX0] at hP2 HB
    have hXb : ∀ c0, X = .bad c0 → c0 ≠ 0 := fun c0 he => strR_bad (hX0.trans he)
    have hXg : ∀ s q', X = .good s q' → xn ≤ q' ∧ q' ≤ b.length ∧ s.length + xn = q' := fun s q' he => strR_good (hX0.trans he)
    clear hX0
    cases X with
    | bad c9 =>
      have hc0 := hXb c9 rfl
      have hcb : (c9 != 0) = true := by simpa using hc0
      have HP := Lib.hid hP2
      clear hP2 hXb hXg
      unfold StrP at HB
      simp only at HB
      go_upto_region 15 with (first
        | (go_at_call 112; refine HB.mono ?_; rintro r w7 ⟨p, rfl, T7, hf7⟩; have B7 := B6.fr hf7 (fun x hx => by have := B6.from_ x hx; simp; omega); have R7 := Blk.ofFr R6 hf7 (by omega); have zz7 := Nat.le_trans zz6 hf7.size)
        | (at_builtin; refine app_strg rfl _ _ rfl B7 rfl rfl (by show N + 0 ≤ _; omega) zz7 ?_; intro A8 c8 w8 h8 hg8))
      have kb := hg8.below B7 zz7
      have T8 := T7.below kb (by omega)
      have R8 := R7.below kb (by omega)
      have fr8 := fr_bel (fr6.trans hf7) kb (by omega)
      clear T6 H6 R6 V6 M6 B6 fr6 zz6 HB T7 hf7 B7 R7 zz7 h8 hg8 kb c0 c1 c2 e0 e1 e2 h0
      obtain ⟨c0, c1, c2⟩ := T8.cells
      obtain ⟨x0, x1, x2, x3, x4, ⟨s0, t0⟩, ⟨s1, t1⟩, ⟨s2, t2⟩, ⟨s3, t3⟩, s4, t4⟩ := R8.five (o := 0) (by simp) (.int .i64 (zeroT).k) (.int .i64 (zeroT).n) (.int .i64 (zeroT).x) (.string (zeroT).s)
      simp only [leafTr, zeroT] at s0 s1 s2 s3 s4 t0 t1 t2 t3 t4
      go_wp2_with fail
      exact fin zeroT _ _ w8 _ R8 T8 fr8 rfl rfl (by rw [← HRR.out, ← HP.out]; exact ⟨rfl, hc0⟩)
    | good s q' =>
      obtain ⟨hq1, hq2, hq3⟩ := hXg s q' rfl
      have HP : Hid (partsR b 3 f0 q' (acc ++ s) = R) := Lib.hid hP2
      clear hP2 hXb hXg
      obtain ⟨f1, rfl⟩ : ∃ z, gk = z + 1 := ⟨gk - 1, by omega⟩
      unfold StrP at HB
      simp only at HB
      obtain ⟨SS, hSS⟩ : ∃ SS, (⟨s.toArray⟩ : ByteArray) = SS := ⟨_, rfl⟩
      rw [hSS] at HB
      have hz2 : SS.size = s.length := by rw [← hSS]; show s.toArray.size = _; simp
      have hd2 : SS.data.toList = s := by rw [← hSS]
      have HZ2 := Lib.hid hz2
      have HD2 := Lib.hid hd2
      have hNS : N + SS.size ≤ 70368744177664 := by rw [hz2]; omega
      clear hSS hz2 hd2
      go_upto_region 15 with (first
        | (go_at_call 112; refine HB.mono ?_; rintro r w7 ⟨rfl, T7, hf7⟩; have B7 := B6.fr hf7 (fun x hx => by have := B6.from_ x hx; simp; omega); have R7 := Blk.ofFr R6 hf7 (by omega); have H7 := Blk.ofFr H6 hf7 (by omega); have V7 := Blk.ofFr V6 hf7 (by omega); have zz7 := Nat.le_trans zz6 hf7.size)
        | (at_builtin; refine app_strg rfl _ _ rfl B7 rfl rfl hNS zz7 ?_; intro A8 c8 w8 h8 hg8))
      have kb := hg8.below B7 zz7
      have T8 := T7.below kb (by omega)
      have R8 := R7.below kb (by omega)
      have H8 := H7.below kb (by omega)
      have V8 := V7.below kb (by omega)
      have fr8 := fr_bel (fr6.trans hf7) kb (by omega)
      have e9 : N + SS.size = (acc ++ s).length := by rw [HZ2.out, List.length_append, HN.out]
      rw [HD2.out, e9] at h8
      rw [e9]
      clear T6 H6 R6 V6 M6 B6 fr6 zz6 HB T7 hf7 B7 R7 H7 V7 hg8 c0 c1 c2 e0 e1 e2 h0 e9 hNS
      obtain ⟨c0, c1, c2⟩ := T8.cells
      go_wp2_with fail
      go_roundg f1
      case measure => omega
      case rel => exact ⟨q', f0, c8, A8, acc ++ s, rfl, by omega, by omega, by omega, by have := HN.out; rw [List.length_append]; omega, HP, T8, H8, R8, V8, h8, Nat.le_trans zz7 kb.size, fr8⟩
end Go.Proofs.YtmelnaidjgpclaaGreatDoor
