/- The program's reader of the packed format: fail; value up to its mark. The program's reader of the packed format: value behind its mark. -/
import Derived.Test.YtmelnaidjgpclaaGreatDoorPkG0
import Derived.Test.YtmelnaidjgpclaaGreatDoorFltNew
import Derived.Deep.Cut
import Derived.Deep.CutBlock
import Derived.Deep.DeepCutAuto
import Derived.Deep.RegionLaw
import Derived.Deep.RegionHeld3
import Derived.BigRegion
import Derived.Deep.QuietTactic
import Derived.BigQuiet
set_option linter.unusedVariables false
set_option maxRecDepth 100000
set_option linter.unusedSimpArgs false
namespace Go.Proofs.YtmelnaidjgpclaaGreatDoor
open Go.RowKit

theorem fr_new {fp : List Nat} {w w' : World} (h : Fr fp w w') {q : Addr} (hq : w.heap.size ≤ q.block) (u : Value) : Fr fp w (w'.setCell q u) :=
  ⟨h.os, h.tape, h.output, by rw [size_setCell]; exact h.size, fun k hk hn => (Below.heap_setCell _ _ _ _ (by omega)).trans (h.block k hk hn)⟩
theorem fr_new5 {fp : List Nat} {w w' : World} {g0 o : Nat} {t : Tr} {e : El} (h : Fr fp w w') (hg : w.heap.size ≤ g0) : Fr fp w (set5 w' g0 o t e) :=
  fr_new (q := ⟨g0, o + 4, none⟩) (fr_new (q := ⟨g0, o + 3, none⟩) (fr_new (q := ⟨g0, o + 2, none⟩) (fr_new (q := ⟨g0, o + 1, none⟩) (fr_new (q := ⟨g0, o, none⟩) h hg _) hg _) hg _) hg _) hg _
theorem Blk.ofFr {w w' : World} {g g2 : Nat} {T : TypeId} {cs : Array Value} (h : Blk w g2 T cs) (hf : Fr [g] w w') (hn : g2 ≠ g) : Blk w' g2 T cs := (hf.block g2 h.lt (by simp; exact hn)).trans h
/-- The reader in block g: its bytes, its place, its code. -/
structure PR (w : World) (g : Nat) (A : Option Addr) (n c : Nat) (b : List UInt8) (i code : Int) : Prop where
  blk : Blk w g 76 #[.slice A n c, .int .i64 i, .int .i64 code]
  sl : Sl w g 1 A n c (u8s b)
  bd : n ≤ 1048576
section
variable {w w' : World} {g n c B : Nat} {A : Option Addr} {b : List UInt8} {i code : Int}
theorem PR.below (h : PR w g A n c b i code) (hb : Below B w w') (hg : g < B) : PR w' g A n c b i code := ⟨h.blk.below hb hg, h.sl.below (hb.mono (Nat.le_of_lt hg)), h.bd⟩
theorem PR.setAt (h : PR w g A n c b i code) (q : Int) : PR (w.setCell ⟨g, 1, none⟩ (.int .i64 q)) g A n c b q code := ⟨by simpa using h.blk.set_ 1 (.int .i64 q), h.sl.setCell (Nat.le_refl _) _, h.bd⟩
theorem PR.setCode (h : PR w g A n c b i code) (k : Int) : PR (w.setCell ⟨g, 2, none⟩ (.int .i64 k)) g A n c b i k := ⟨by simpa using h.blk.set_ 2 (.int .i64 k), h.sl.setCell (Nat.le_refl _) _, h.bd⟩
theorem PR.cells (h : PR w g A n c b i code) : w.cell? ⟨g, 0, none⟩ = some (.slice A n c) ∧ w.cell? ⟨g, 1, none⟩ = some (.int .i64 i) ∧ w.cell? ⟨g, 2, none⟩ = some (.int .i64 code) := ⟨h.blk.cell 0, h.blk.cell 1, h.blk.cell 2⟩
theorem PR.set5_ {g2 o : Nat} {t : Tr} {e : El} (h : PR w g A n c b i code) (hg : g < g2) : PR (set5 w g2 o t e) g A n c b i code :=
  ⟨h.blk.far5 (by omega), ((((h.sl.setCell (p := ⟨g2, o, none⟩) (Nat.le_of_lt hg) _).setCell (p := ⟨g2, o + 1, none⟩) (Nat.le_of_lt hg) _).setCell (p := ⟨g2, o + 2, none⟩) (Nat.le_of_lt hg) _).setCell (p := ⟨g2, o + 3, none⟩) (Nat.le_of_lt hg) _).setCell (p := ⟨g2, o + 4, none⟩) (Nat.le_of_lt hg) _, h.bd⟩
end
def FailP (w w' : World) (g : Nat) (A : Option Addr) (n c : Nat) (b : List UInt8) (i k : Int) (r : Ending) : Prop := r = .returned (trV zeroT ⟨none, 0, 0, []⟩) ∧ PR w' g A n c b i k ∧ Fr [g] w w'
theorem i_fail (g : Nat) (A : Option Addr) (n c : Nat) (b : List UInt8) (i code k : Int) (w : World) (h : PR w g A n c b i code) :
    Calls Tryz.prog 101 #[.pointer (some ⟨g, 0, none⟩), .int .i64 k] w fun r w' => FailP w w' g A n c b i k r := by
  have k1 := Below.one w (.cells #[.int .i64 0, .int .i64 0, .int .i64 0, .string ⟨#[]⟩, .slice none 0 0] 28)
  have h1 := h.below k1 h.blk.lt
  obtain ⟨c0, c1, c2⟩ := h1.cells
  have f2 := h1.blk.frozen 2
  have hgl := h.blk.lt
  have h2 := (h.setCode k).below (Below.one _ (.cells #[.int .i64 0, .int .i64 0, .int .i64 0, .string ⟨#[]⟩, .slice none 0 0] 28)) (h.setCode k).blk.lt
  have hZ2 : Blk ((w.setCell ⟨g, 2, none⟩ (.int .i64 k)).alloc (.cells #[.int .i64 0, .int .i64 0, .int .i64 0, .string ⟨#[]⟩, .slice none 0 0] 28)) w.heap.size 28 #[.int .i64 0, .int .i64 0, .int .i64 0, .string ⟨#[]⟩, .slice none 0 0] := by
    have := Blk.new (w.setCell ⟨g, 2, none⟩ (.int .i64 k)) 28 #[.int .i64 0, .int .i64 0, .int .i64 0, .string ⟨#[]⟩, .slice none 0 0]
    rwa [size_setCell] at this
  have hfr : Fr [g] w ((w.setCell ⟨g, 2, none⟩ (.int .i64 k)).alloc (.cells #[.int .i64 0, .int .i64 0, .int .i64 0, .string ⟨#[]⟩, .slice none 0 0] 28)) := ((Fr.refl _ _).setCell (by simp) _).trans (Fr.of_below (Below.one _ _))
  go_enter Tryz.func101, Tryz.ntmps101
  go_wp2_with fail
  exact bodyPost_ret (results_blk Tryz.results101 Tryz.isAgg28 (by exact Tryz.sizeOf28) rfl hZ2) rfl ⟨rfl, h2, hfr⟩
set_option maxHeartbeats 2000000 in
theorem i_value_deep (g : Nat) (A : Option Addr) (n c : Nat) (b : List UInt8) (i d : Int) (w : World) (h : PR w g A n c b i 0) (hd : d < 1) :
    Calls Tryz.prog 60 #[.pointer (some ⟨g, 0, none⟩), .int .i64 d] w fun r w' => FailP w w' g A n c b i 2 r := by
  have k1 := Below.one w (.cells #[.int .i64 0, .int .i64 0, .int .i64 0, .string ⟨#[]⟩, .slice none 0 0] 28)
  have h1 := h.below k1 h.blk.lt
  have hZ := Blk.new w 28 #[.int .i64 0, .int .i64 0, .int .i64 0, .string ⟨#[]⟩, .slice none 0 0]
  have hgl := h.blk.lt
  have hdd : decide (d < 1) = true := by simpa using hd
  have hfl := i_fail g A n c b i 0 2 _ h1
  have hfr := Fr.of_below (fp := [g]) k1
  obtain ⟨u, hu⟩ : ∃ u, zeroT = u := ⟨_, rfl⟩
  unfold FailP at hfl ⊢
  rw [hu] at hfl ⊢
  clear hu h
  go_enter Tryz.func60, Tryz.ntmps60
  go_wp2_with (go_at_call 101; refine hfl.mono ?_; rintro r w2 ⟨rfl, h2, hf2⟩; have BZ := Blk.ofFr hZ hf2 (by omega); obtain ⟨x0, x1, x2, x3, x4, ⟨s0, t0⟩, ⟨s1, t1⟩, ⟨s2, t2⟩, ⟨s3, t3⟩, s4, t4⟩ := BZ.five (o := 0) (by simp) (.int .i64 u.k) (.int .i64 u.n) (.int .i64 u.x) (.string u.s))
  have hblk : Blk (set5 w2 w.heap.size 0 u ⟨none, 0, 0, []⟩) w.heap.size 28 _ := Blk.five_ BZ u ⟨none, 0, 0, []⟩
  have hTR3 := h2.set5_ (g2 := w.heap.size) (o := 0) (t := u) (e := ⟨none, 0, 0, []⟩) hgl
  have hfr3 : Fr [g] w (set5 w2 w.heap.size 0 u ⟨none, 0, 0, []⟩) := fr_new5 (hfr.trans hf2) (Nat.le_refl _)
  have hres := fun (tm : Array Value) (hp : tm.getD 4 undef = .pointer (some ⟨w.heap.size, 0, none⟩)) => results_blk (P := Tryz.prog) (tmps := tm) Tryz.results60 Tryz.isAgg28 (by exact Tryz.sizeOf28) hp hblk
  refine bodyPost_ret (hres _ rfl) rfl ?_
  exact ⟨rfl, hTR3, hfr3⟩
theorem Blk.two_ {w : World} {g : Nat} {T : TypeId} {a b : Value} (h : Blk w g T #[a, b]) (x : Value) :
    ∃ x0 x1, (w.cell? ⟨g, 0, none⟩ = some x0 ∧ w.frozen? ⟨g, 0, none⟩ = false) ∧ (w.setCell ⟨g, 0, none⟩ x).cell? ⟨g, 1, none⟩ = some x1 ∧ (w.setCell ⟨g, 0, none⟩ x).frozen? ⟨g, 1, none⟩ = false :=
  ⟨a, b, ⟨h.cell 0, h.frozen 0⟩, (show Blk _ g T #[x, b] by simpa using h.set_ 0 x).cell 1, (h.set_ 0 x).frozen 1⟩
abbrev MarkS (w : World) (g : Nat) (A : Option Addr) (n c : Nat) (i : Int) : Prop := w.cell? ⟨g, 0, none⟩ = some (.slice A n c) ∧ w.cell? ⟨g, 1, none⟩ = some (.int .i64 i)
/-- Where the mark has been read: the mark's block gf, the reader, the result's block. -/
abbrev MarkM (w w' : World) (g : Nat) (A : Option Addr) (n c : Nat) (b : List UInt8) (i k m : Int) (gf : Nat) : Prop := PR w' g A n c b i 0 ∧ Blk w' w.heap.size 28 #[.int .i64 0, .int .i64 0, .int .i64 0, .string ⟨#[]⟩, .slice none 0 0] ∧ Blk w' gf 63 #[.int .i64 k, .int .i64 m] ∧ Fr [g] w w' ∧ w.heap.size < gf
theorem mark_meet1 {w wd w6 : World} {g n c : Nat} {A : Option Addr} {b : List UInt8} {i k m : Int} (hT : PR wd g A n c b i 0) (hZ : Blk wd w.heap.size 28 #[.int .i64 0, .int .i64 0, .int .i64 0, .string ⟨#[]⟩, .slice none 0 0]) (hf : Fr [g] w wd) (hb : Below wd.drew.heap.size wd.drew w6) (hz : w.heap.size < wd.heap.size) (hg : g < wd.heap.size) :
    MarkM w (w6.alloc (.cells #[.int .i64 k, .int .i64 m] 63)) g A n c b i k m w6.heap.size := by
  have k6 : Below wd.heap.size wd w6 := (Below.refl wd.heap.size wd).drew.up hb
  have kk := k6.up (Below.one w6 (.cells #[.int .i64 k, .int .i64 m] 63))
  exact ⟨hT.below kk hg, hZ.below kk hz, Blk.new _ _ _, hf.trans (Fr.of_below kk), Nat.lt_of_lt_of_le hz k6.size⟩
theorem mark_meet2 {w wd w6 : World} {g n c : Nat} {A : Option Addr} {b : List UInt8} {i k m : Int} (hT : PR wd g A n c b i 0) (hZ : Blk wd w.heap.size 28 #[.int .i64 0, .int .i64 0, .int .i64 0, .string ⟨#[]⟩, .slice none 0 0]) (hf : Fr [g] w wd) (hb : Below (wd.alloc (.cells #[.int .i64 0, .int .i64 0] 63)).drew.heap.size (wd.alloc (.cells #[.int .i64 0, .int .i64 0] 63)).drew w6) (hz : w.heap.size < wd.heap.size) (hg : g < wd.heap.size) :
    MarkM w ((w6.setCell ⟨wd.heap.size, 0, none⟩ (.int .i64 k)).setCell ⟨wd.heap.size, 1, none⟩ (.int .i64 m)) g A n c b i k m wd.heap.size := by
  have k6 : Below wd.heap.size wd w6 := (Below.one wd _).drew.up hb
  have B6 := ((Blk.new wd 63 #[.int .i64 0, .int .i64 0]).drew).below hb (by simp)
  have kk := (k6.setCell (p := ⟨wd.heap.size, 0, none⟩) (Nat.le_refl _) (.int .i64 k)).setCell (p := ⟨wd.heap.size, 1, none⟩) (Nat.le_refl _) (.int .i64 m)
  exact ⟨hT.below kk hg, hZ.below kk hz, by simpa using (B6.set_ 0 (.int .i64 k)).set_ 1 (.int .i64 m), hf.trans (Fr.of_below kk), hz⟩
set_option maxHeartbeats 8000000 in
theorem i_value_mark (g : Nat) (A : Option Addr) (n c : Nat) (b : List UInt8) (i d : Int) (w : World) (h : PR w g A n c b i 0) (hi : -9223372036854775808 ≤ i ∧ i ≤ 9223372036854775807) (hd : 1 ≤ d) (k m q cd : Int) (hG : getMark b i = (k, m, q, cd)) (hcd : cd ≠ 0) :
    Calls Tryz.prog 60 #[.pointer (some ⟨g, 0, none⟩), .int .i64 d] w fun r w' => FailP w w' g A n c b i cd r := by
  have k1 := Below.one w (.cells #[.int .i64 0, .int .i64 0, .int .i64 0, .string ⟨#[]⟩, .slice none 0 0] 28)
  have h1 := h.below k1 h.blk.lt
  have hZ := Blk.new w 28 #[.int .i64 0, .int .i64 0, .int .i64 0, .string ⟨#[]⟩, .slice none 0 0]
  have hgl := h.blk.lt
  have hbd := h.bd
  have hdd : decide (d < 1) = false := by simp; omega
  have hfr := Fr.of_below (fp := [g]) k1
  obtain ⟨u, hu⟩ : ∃ u, zeroT = u := ⟨_, rfl⟩
  have HU := Lib.hid hu
  have hcb : (cd != 0) = true := by simpa using hcd
  unfold FailP
  rw [hu]
  clear hu
  go_enter Tryz.func60, Tryz.ntmps60
  go_upto_region 3 with fail
  generalize w.alloc (.cells #[.int .i64 0, .int .i64 0, .int .i64 0, .string ⟨#[]⟩, .slice none 0 0] 28) = wd at h1 hZ hfr ⊢
  have zd := hZ.lt
  have zg : g < wd.heap.size := Nat.lt_trans hgl zd
  have HC := fun w1 (hb : Below wd.heap.size wd w1) => i_GetMark A n c b i w1 g ((h1.sl).below (hb.mono (Nat.le_of_lt zg))) (Nat.le_trans (Nat.le_of_lt zg) hb.size) hbd hi
  rw [hG] at HC
  unfold ret4 markRet at HC
  simp only at HC
  have kd := Below.one wd (.cells #[.int .i64 0, .int .i64 0] 63)
  have hFV := fun w6 (hb6 : Below (wd.alloc (.cells #[.int .i64 0, .int .i64 0] 63)).drew.heap.size (wd.alloc (.cells #[.int .i64 0, .int .i64 0] 63)).drew w6) => (((Blk.new wd 63 #[.int .i64 0, .int .i64 0]).drew).below hb6 (by simp)).two_ (.int .i64 k)
  have hC1 := HC _ (Below.refl _ _).drew
  have hC2 := HC _ kd.drew
  have hS0 : ∀ w', Below wd.heap.size wd w' → MarkS w' g A n c i ∧ Below wd.heap.size wd w' := fun w' hb => ⟨⟨((h1.below hb zg).cells).1, ((h1.below hb zg).cells).2.1⟩, hb⟩
  have hS1 := hS0 _ (Below.refl wd.heap.size wd).drew
  have hS2 := hS0 _ kd.drew
  have hS3 := fun w6 (h : Below wd.drew.heap.size wd.drew w6) => hS0 w6 ((Below.refl wd.heap.size wd).drew.up h)
  have hS4 := fun w6 (h : Below (wd.alloc (.cells #[.int .i64 0, .int .i64 0] 63)).drew.heap.size (wd.alloc (.cells #[.int .i64 0, .int .i64 0] 63)).drew w6) => hS0 w6 (kd.drew.up h)
  have hS5 := fun w6 (h : MarkS w6 g A n c i ∧ Below wd.heap.size wd w6) => hS0 _ (h.2.up (Below.one w6 (.cells #[.int .i64 0, .int .i64 0] 63)))
  have hS6 := fun w6 (h : MarkS w6 g A n c i ∧ Below wd.heap.size wd w6) => hS0 _ (h.2.up (Below.one w6 (.cells #[.int .i64 k, .int .i64 m] 63)))
  have hS7 := fun w6 (h : MarkS w6 g A n c i ∧ Below wd.heap.size wd w6) => hS0 _ ((h.2.setCell (p := ⟨wd.heap.size, 0, none⟩) (Nat.le_refl _) (.int .i64 k)).setCell (p := ⟨wd.heap.size, 1, none⟩) (Nat.le_refl _) (.int .i64 m))
  clear hS0 HC
  go_cut [5, 6, 7] from 17 (fun s5 s6 s7 w' => ∃ gf, s5 = .pointer (some ⟨gf, 0, none⟩) ∧ s6 = .int .i64 q ∧ s7 = .int .i64 cd ∧ MarkM w w' g A n c b i k m gf)
  case first =>
    go_region_held3 (fun w' => MarkS w' g A n c i ∧ Below wd.heap.size wd w')
      (with_reducible first | exact hS1 | exact hS2 | exact hS3 _ hb6 | exact hS4 _ hb6 | exact hS5 _ hk6 | exact hS6 _ hk6 | exact hS7 _ hk6)
      (first
        | (go_at_call 102; with_reducible refine hC1.mono ?_; rintro r w6 ⟨rfl, hb6⟩; have hk6 := hS3 _ hb6)
        | (go_at_call 102; with_reducible refine hC2.mono ?_; rintro r w6 ⟨rfl, hb6⟩; have hk6 := hS4 _ hb6; obtain ⟨x0, x1, ⟨s0, t0⟩, s1, t1⟩ := hFV _ hb6))
    all_goals
      go_wp2_with fail
      go_meet
      case rel =>
        first
        | exact ⟨_, rfl, rfl, rfl, mark_meet1 h1 hZ hfr hb6 zd zg⟩
        | exact ⟨_, rfl, rfl, rfl, mark_meet2 h1 hZ hfr hb6 zd zg⟩
  case rest =>
    obtain ⟨gf, rfl, rfl, rfl, hT6, Z6, M6, fr6, hgf⟩ := hcut
    have HF := i_fail g A n c b i 0 cd wc hT6
    unfold FailP at HF
    rw [HU.out] at HF
    have hTz := Z6.lt
    go_wp2_with (go_at_call 101; refine HF.mono ?_; rintro r w2 ⟨rfl, h2, hf2⟩; have BZ := Blk.ofFr Z6 hf2 (by omega); obtain ⟨x0, x1, x2, x3, x4, ⟨s0, t0⟩, ⟨s1, t1⟩, ⟨s2, t2⟩, ⟨s3, t3⟩, s4, t4⟩ := BZ.five (o := 0) (by simp) (.int .i64 u.k) (.int .i64 u.n) (.int .i64 u.x) (.string u.s))
    have hblk : Blk (set5 w2 w.heap.size 0 u ⟨none, 0, 0, []⟩) w.heap.size 28 _ := Blk.five_ BZ u ⟨none, 0, 0, []⟩
    have hTR3 := h2.set5_ (g2 := w.heap.size) (o := 0) (t := u) (e := ⟨none, 0, 0, []⟩) hgl
    have hfr3 : Fr [g] w (set5 w2 w.heap.size 0 u ⟨none, 0, 0, []⟩) := fr_new5 (fr6.trans hf2) (Nat.le_refl _)
    have hres := fun (tm : Array Value) (hp : tm.getD 4 undef = .pointer (some ⟨w.heap.size, 0, none⟩)) => results_blk (P := Tryz.prog) (tmps := tm) Tryz.results60 Tryz.isAgg28 (by exact Tryz.sizeOf28) hp hblk
    refine bodyPost_ret (hres _ rfl) rfl ?_
    exact ⟨rfl, hTR3, hfr3⟩
end Go.Proofs.YtmelnaidjgpclaaGreatDoor

namespace Go.Proofs.YtmelnaidjgpclaaGreatDoor
open Go.RowKit

theorem Below.drewN_ (w : World) (k : Nat) : Below w.heap.size w (w.drewN k) := ⟨rfl, rfl, rfl, Nat.le_refl _, fun _ _ => rfl⟩
def RokI (R : Rd) (t : Tr) (p' k' : Int) : Prop := match R with
  | .good t0 q => t = t0 ∧ p' = (q : Int) ∧ k' = 0
  | .bad c => k' = c ∧ c ≠ 0
def ReadP (w w' : World) (g : Nat) (A : Option Addr) (n c : Nat) (b : List UInt8) (R : Rd) (r : Ending) : Prop :=
  ∃ t u p' k', r = .returned (trV t u) ∧ LsAt w' t.l u ∧ Own w' w.heap.size u.fp ∧ PR w' g A n c b p' k' ∧ Fr [g] w w' ∧ RokI R t p' k'
def LeafP (w w' : World) (g : Nat) (A : Option Addr) (n c : Nat) (b : List UInt8) (i : Int) (t : Tr) (r : Ending) : Prop := r = .returned (trV t ⟨none, 0, 0, []⟩) ∧ PR w' g A n c b i 0 ∧ Fr [g] w w'
set_option maxHeartbeats 8000000 in
theorem i_value_leaf (g : Nat) (A : Option Addr) (n c : Nat) (b : List UInt8) (i d : Int) (w : World) (h : PR w g A n c b i 0) (hi : -9223372036854775808 ≤ i ∧ i ≤ 9223372036854775807) (hd : 1 ≤ d) (k m q : Int) (hG : getMark b i = (k, m, q, 0)) (hk4 : (k == 4) = false) (hk7 : (k == 7) = false) (hk8 : (k == 8) = false) (hk9 : (k == 9) = false) (hk10 : (k == 10) = false) :
    Calls Tryz.prog 60 #[.pointer (some ⟨g, 0, none⟩), .int .i64 d] w fun r w' => LeafP w w' g A n c b q (leafTr k m 0 ⟨#[]⟩) r := by
  have hgood := getMark_good hG
  have k1 := Below.one w (.cells #[.int .i64 0, .int .i64 0, .int .i64 0, .string ⟨#[]⟩, .slice none 0 0] 28)
  have h1 := h.below k1 h.blk.lt
  have hZ := Blk.new w 28 #[.int .i64 0, .int .i64 0, .int .i64 0, .string ⟨#[]⟩, .slice none 0 0]
  have hgl := h.blk.lt
  have hbd := h.bd
  have hdd : decide (d < 1) = false := by simp; omega
  have hfr := Fr.of_below (fp := [g]) k1
  go_enter Tryz.func60, Tryz.ntmps60
  go_upto_region 3 with fail
  generalize w.alloc (.cells #[.int .i64 0, .int .i64 0, .int .i64 0, .string ⟨#[]⟩, .slice none 0 0] 28) = wd at h1 hZ hfr ⊢
  have zd := hZ.lt
  have zg : g < wd.heap.size := Nat.lt_trans hgl zd
  have HC := fun w1 (hb : Below wd.heap.size wd w1) => i_GetMark A n c b i w1 g ((h1.sl).below (hb.mono (Nat.le_of_lt zg))) (Nat.le_trans (Nat.le_of_lt zg) hb.size) hbd hi
  rw [hG] at HC
  unfold ret4 markRet at HC
  simp only at HC
  have kd := Below.one wd (.cells #[.int .i64 0, .int .i64 0] 63)
  have hFV := fun w6 (hb6 : Below (wd.alloc (.cells #[.int .i64 0, .int .i64 0] 63)).drew.heap.size (wd.alloc (.cells #[.int .i64 0, .int .i64 0] 63)).drew w6) => (((Blk.new wd 63 #[.int .i64 0, .int .i64 0]).drew).below hb6 (by simp)).two_ (.int .i64 k)
  have hC1 := HC _ (Below.refl _ _).drew
  have hC2 := HC _ kd.drew
  have hS0 : ∀ w', Below wd.heap.size wd w' → MarkS w' g A n c i ∧ Below wd.heap.size wd w' := fun w' hb => ⟨⟨((h1.below hb zg).cells).1, ((h1.below hb zg).cells).2.1⟩, hb⟩
  have hS1 := hS0 _ (Below.refl wd.heap.size wd).drew
  have hS2 := hS0 _ kd.drew
  have hS3 := fun w6 (h : Below wd.drew.heap.size wd.drew w6) => hS0 w6 ((Below.refl wd.heap.size wd).drew.up h)
  have hS4 := fun w6 (h : Below (wd.alloc (.cells #[.int .i64 0, .int .i64 0] 63)).drew.heap.size (wd.alloc (.cells #[.int .i64 0, .int .i64 0] 63)).drew w6) => hS0 w6 (kd.drew.up h)
  have hS5 := fun w6 (h : MarkS w6 g A n c i ∧ Below wd.heap.size wd w6) => hS0 _ (h.2.up (Below.one w6 (.cells #[.int .i64 0, .int .i64 0] 63)))
  have hS6 := fun w6 (h : MarkS w6 g A n c i ∧ Below wd.heap.size wd w6) => hS0 _ (h.2.up (Below.one w6 (.cells #[.int .i64 k, .int .i64 m] 63)))
  have hS7 := fun w6 (h : MarkS w6 g A n c i ∧ Below wd.heap.size wd w6) => hS0 _ ((h.2.setCell (p := ⟨wd.heap.size, 0, none⟩) (Nat.le_refl _) (.int .i64 k)).setCell (p := ⟨wd.heap.size, 1, none⟩) (Nat.le_refl _) (.int .i64 m))
  clear hS0 HC
  go_cut [5, 6, 7] from 17 (fun s5 s6 s7 w' => ∃ gf, s5 = .pointer (some ⟨gf, 0, none⟩) ∧ s6 = .int .i64 q ∧ s7 = .int .i64 0 ∧ MarkM w w' g A n c b i k m gf)
  case first =>
    go_region_held3 (fun w' => MarkS w' g A n c i ∧ Below wd.heap.size wd w')
      (with_reducible first | exact hS1 | exact hS2 | exact hS3 _ hb6 | exact hS4 _ hb6 | exact hS5 _ hk6 | exact hS6 _ hk6 | exact hS7 _ hk6)
      (first
        | (go_at_call 102; with_reducible refine hC1.mono ?_; rintro r w6 ⟨rfl, hb6⟩; have hk6 := hS3 _ hb6)
        | (go_at_call 102; with_reducible refine hC2.mono ?_; rintro r w6 ⟨rfl, hb6⟩; have hk6 := hS4 _ hb6; obtain ⟨x0, x1, ⟨s0, t0⟩, s1, t1⟩ := hFV _ hb6))
    all_goals
      go_wp2_with fail
      go_meet
      case rel =>
        first
        | exact ⟨_, rfl, rfl, rfl, mark_meet1 h1 hZ hfr hb6 zd zg⟩
        | exact ⟨_, rfl, rfl, rfl, mark_meet2 h1 hZ hfr hb6 zd zg⟩
  case rest =>
    obtain ⟨gm, rfl, rfl, rfl, hT6, Z6, M6, fr6, hgm⟩ := hcut
    clear h1 hZ hfr hFV hC1 hC2 hS1 hS2 hS3 hS4 hS5 hS6 hS7 kd zd zg h
    have gg : g < gm := by omega
    obtain ⟨c0, c1, c2⟩ := hT6.cells
    have f1 := hT6.blk.frozen 1
    have T7 := hT6.setAt q
    have Z7 := Z6.far (p := ⟨g, 1, none⟩) (by show w.heap.size ≠ g; omega) (.int .i64 q)
    have M7 := M6.far (p := ⟨g, 1, none⟩) (by show gm ≠ g; omega) (.int .i64 q)
    have fr7 := fr6.setCell (p := ⟨g, 1, none⟩) (by simp) (.int .i64 q)
    go_upto_region 7 with fail
    generalize wc.setCell ⟨g, 1, none⟩ (.int .i64 q) = wa at T7 Z7 M7 fr7 ⊢
    clear hT6 Z6 M6 fr6 c0 c1 c2 f1
    have e0 := M7.cell 0
    have e1 := M7.cell 1
    have a0 := (M7.alloc (.cells #[.int .i64 0, .int .i64 0, .int .i64 0, .string ⟨#[]⟩, .slice none 0 0] 28)).cell 0
    have a1 := (M7.alloc (.cells #[.int .i64 0, .int .i64 0, .int .i64 0, .string ⟨#[]⟩, .slice none 0 0] 28)).cell 1
    have v0 := (M7.alloc (.cells #[.int .i64 k, .int .i64 0, .int .i64 0, .string ⟨#[]⟩, .slice none 0 0] 28)).cell 0
    have v1 := (M7.alloc (.cells #[.int .i64 k, .int .i64 0, .int .i64 0, .string ⟨#[]⟩, .slice none 0 0] 28)).cell 1
    simp only [List.getElem?_toArray, List.getElem?_cons_succ, List.getElem?_cons_zero] at e0 e1 a0 a1 v0 v1
    go_region
    clear e0 e1 a0 a1 v0 v1
    have kv := (Below.one wa (.cells #[.int .i64 k, .int .i64 0, .int .i64 0, .string ⟨#[]⟩, .slice none 0 0] 28)).drew
    have T8 := T7.below kv T7.blk.lt
    have Z8 := Z7.below kv Z7.lt
    have M8 := M7.below kv M7.lt
    have V8 := (Blk.new wa 28 #[.int .i64 k, .int .i64 0, .int .i64 0, .string ⟨#[]⟩, .slice none 0 0]).drew
    have fr8 := fr7.trans (Fr.of_below kv)
    have zbv : gm < wa.heap.size := M7.lt
    clear T7 Z7 M7 fr7 kv
    generalize wa.heap.size = bv at V8 zbv ⊢
    generalize (wa.alloc (.cells #[.int .i64 k, .int .i64 0, .int .i64 0, .string ⟨#[]⟩, .slice none 0 0] 28)).drew = wb at T8 Z8 M8 V8 fr8 ⊢
    have e0 := M8.cell 0
    have e1 := M8.cell 1
    simp only [List.getElem?_toArray, List.getElem?_cons_succ, List.getElem?_cons_zero] at e0 e1
    have f1 := V8.frozen 1
    have p1 := V8.cell 1
    simp only [List.getElem?_toArray, List.getElem?_cons_succ, List.getElem?_cons_zero] at p1
    have T9 : PR (wb.setCell ⟨bv, 1, none⟩ (.int .i64 m)) g A n c b q 0 := ⟨T8.blk.far (p := ⟨bv, 1, none⟩) (by show g ≠ bv; omega) _, T8.sl.setCell (p := ⟨bv, 1, none⟩) (by show g ≤ bv; omega) _, T8.bd⟩
    have Z9 := Z8.far (p := ⟨bv, 1, none⟩) (by show w.heap.size ≠ bv; omega) (.int .i64 m)
    have V9 : Blk (wb.setCell ⟨bv, 1, none⟩ (.int .i64 m)) bv 28 #[.int .i64 k, .int .i64 m, .int .i64 0, .string ⟨#[]⟩, .slice none 0 0] := by simpa using V8.set_ 1 (.int .i64 m)
    have fr9 : Fr [g] w (wb.setCell ⟨bv, 1, none⟩ (.int .i64 m)) := fr_new (q := ⟨bv, 1, none⟩) fr8 (by show w.heap.size ≤ bv; omega) _
    go_upto_region 10 with fail
    generalize wb.setCell ⟨bv, 1, none⟩ (.int .i64 m) = wf at T9 Z9 V9 fr9 ⊢
    clear T8 Z8 M8 V8 fr8 e0 e1 f1 p1
    have b0 := V9.cell 0
    have b1 := V9.cell 1
    have b2 := V9.cell 2
    have b3 := V9.cell 3
    have b4 := V9.cell 4
    simp only [List.getElem?_toArray, List.getElem?_cons_succ, List.getElem?_cons_zero] at b0 b1 b2 b3 b4
    obtain ⟨x0, x1', x2, x3, x4, ⟨s0, t0⟩, ⟨s1, t1⟩, ⟨s2, t2⟩, ⟨s3, t3⟩, s4, t4⟩ := Z9.five (o := 0) (by simp) (.int .i64 k) (.int .i64 m) (.int .i64 0) (.string ⟨#[]⟩)
    go_wp2_with fail
    have hblk : Blk (set5 wf w.heap.size 0 (leafTr k m 0 ⟨#[]⟩) ⟨none, 0, 0, []⟩) w.heap.size 28 _ := Blk.five_ Z9 (leafTr k m 0 ⟨#[]⟩) ⟨none, 0, 0, []⟩
    have hTR3 := T9.set5_ (g2 := w.heap.size) (o := 0) (t := leafTr k m 0 ⟨#[]⟩) (e := ⟨none, 0, 0, []⟩) hgl
    have hfr3 : Fr [g] w (set5 wf w.heap.size 0 (leafTr k m 0 ⟨#[]⟩) ⟨none, 0, 0, []⟩) := fr_new5 fr9 (Nat.le_refl _)
    have hres := fun (tm : Array Value) (hp : tm.getD 4 undef = .pointer (some ⟨w.heap.size, 0, none⟩)) => results_blk (P := Tryz.prog) (tmps := tm) Tryz.results60 Tryz.isAgg28 (by exact Tryz.sizeOf28) hp hblk
    refine bodyPost_ret (hres _ rfl) rfl ?_
    exact ⟨rfl, hTR3, hfr3⟩
set_option maxHeartbeats 8000000 in
theorem i_value_flt (g : Nat) (A : Option Addr) (n c : Nat) (b : List UInt8) (i d : Int) (w : World) (h : PR w g A n c b i 0) (hi : -9223372036854775808 ≤ i ∧ i ≤ 9223372036854775807) (hd : 1 ≤ d) (k m q : Int) (hG : getMark b i = (k, m, q, 0)) (hk : k = 4) (a e : Int) (ok : Bool) (hf : bitsFltV m = fltV a e ok) :
    Calls Tryz.prog 60 #[.pointer (some ⟨g, 0, none⟩), .int .i64 d] w fun r w' => LeafP w w' g A n c b q (leafTr k a e ⟨#[]⟩) r := by
  have hgood := getMark_good hG
  have k1 := Below.one w (.cells #[.int .i64 0, .int .i64 0, .int .i64 0, .string ⟨#[]⟩, .slice none 0 0] 28)
  have h1 := h.below k1 h.blk.lt
  have hZ := Blk.new w 28 #[.int .i64 0, .int .i64 0, .int .i64 0, .string ⟨#[]⟩, .slice none 0 0]
  have hgl := h.blk.lt
  have hbd := h.bd
  have hdd : decide (d < 1) = false := by simp; omega
  have hfr := Fr.of_below (fp := [g]) k1
  have hk4 : (k == 4) = true := by simpa using hk
  clear hk
  go_enter Tryz.func60, Tryz.ntmps60
  go_upto_region 3 with fail
  generalize w.alloc (.cells #[.int .i64 0, .int .i64 0, .int .i64 0, .string ⟨#[]⟩, .slice none 0 0] 28) = wd at h1 hZ hfr ⊢
  have zd := hZ.lt
  have zg : g < wd.heap.size := Nat.lt_trans hgl zd
  have HC := fun w1 (hb : Below wd.heap.size wd w1) => i_GetMark A n c b i w1 g ((h1.sl).below (hb.mono (Nat.le_of_lt zg))) (Nat.le_trans (Nat.le_of_lt zg) hb.size) hbd hi
  rw [hG] at HC
  unfold ret4 markRet at HC
  simp only at HC
  have kd := Below.one wd (.cells #[.int .i64 0, .int .i64 0] 63)
  have hFV := fun w6 (hb6 : Below (wd.alloc (.cells #[.int .i64 0, .int .i64 0] 63)).drew.heap.size (wd.alloc (.cells #[.int .i64 0, .int .i64 0] 63)).drew w6) => (((Blk.new wd 63 #[.int .i64 0, .int .i64 0]).drew).below hb6 (by simp)).two_ (.int .i64 k)
  have hC1 := HC _ (Below.refl _ _).drew
  have hC2 := HC _ kd.drew
  have hS0 : ∀ w', Below wd.heap.size wd w' → MarkS w' g A n c i ∧ Below wd.heap.size wd w' := fun w' hb => ⟨⟨((h1.below hb zg).cells).1, ((h1.below hb zg).cells).2.1⟩, hb⟩
  have hS1 := hS0 _ (Below.refl wd.heap.size wd).drew
  have hS2 := hS0 _ kd.drew
  have hS3 := fun w6 (h : Below wd.drew.heap.size wd.drew w6) => hS0 w6 ((Below.refl wd.heap.size wd).drew.up h)
  have hS4 := fun w6 (h : Below (wd.alloc (.cells #[.int .i64 0, .int .i64 0] 63)).drew.heap.size (wd.alloc (.cells #[.int .i64 0, .int .i64 0] 63)).drew w6) => hS0 w6 (kd.drew.up h)
  have hS5 := fun w6 (h : MarkS w6 g A n c i ∧ Below wd.heap.size wd w6) => hS0 _ (h.2.up (Below.one w6 (.cells #[.int .i64 0, .int .i64 0] 63)))
  have hS6 := fun w6 (h : MarkS w6 g A n c i ∧ Below wd.heap.size wd w6) => hS0 _ (h.2.up (Below.one w6 (.cells #[.int .i64 k, .int .i64 m] 63)))
  have hS7 := fun w6 (h : MarkS w6 g A n c i ∧ Below wd.heap.size wd w6) => hS0 _ ((h.2.setCell (p := ⟨wd.heap.size, 0, none⟩) (Nat.le_refl _) (.int .i64 k)).setCell (p := ⟨wd.heap.size, 1, none⟩) (Nat.le_refl _) (.int .i64 m))
  clear hS0 HC
  go_cut [5, 6, 7] from 17 (fun s5 s6 s7 w' => ∃ gf, s5 = .pointer (some ⟨gf, 0, none⟩) ∧ s6 = .int .i64 q ∧ s7 = .int .i64 0 ∧ MarkM w w' g A n c b i k m gf)
  case first =>
    go_region_held3 (fun w' => MarkS w' g A n c i ∧ Below wd.heap.size wd w')
      (with_reducible first | exact hS1 | exact hS2 | exact hS3 _ hb6 | exact hS4 _ hb6 | exact hS5 _ hk6 | exact hS6 _ hk6 | exact hS7 _ hk6)
      (first
        | (go_at_call 102; with_reducible refine hC1.mono ?_; rintro r w6 ⟨rfl, hb6⟩; have hk6 := hS3 _ hb6)
        | (go_at_call 102; with_reducible refine hC2.mono ?_; rintro r w6 ⟨rfl, hb6⟩; have hk6 := hS4 _ hb6; obtain ⟨x0, x1, ⟨s0, t0⟩, s1, t1⟩ := hFV _ hb6))
    all_goals
      go_wp2_with fail
      go_meet
      case rel =>
        first
        | exact ⟨_, rfl, rfl, rfl, mark_meet1 h1 hZ hfr hb6 zd zg⟩
        | exact ⟨_, rfl, rfl, rfl, mark_meet2 h1 hZ hfr hb6 zd zg⟩
  case rest =>
    obtain ⟨gm, rfl, rfl, rfl, hT6, Z6, M6, fr6, hgm⟩ := hcut
    clear h1 hZ hfr hFV hC1 hC2 hS1 hS2 hS3 hS4 hS5 hS6 hS7 kd zd zg h
    have gg : g < gm := by omega
    obtain ⟨c0, c1, c2⟩ := hT6.cells
    have f1 := hT6.blk.frozen 1
    have T7 := hT6.setAt q
    have Z7 := Z6.far (p := ⟨g, 1, none⟩) (by show w.heap.size ≠ g; omega) (.int .i64 q)
    have M7 := M6.far (p := ⟨g, 1, none⟩) (by show gm ≠ g; omega) (.int .i64 q)
    have fr7 := fr6.setCell (p := ⟨g, 1, none⟩) (by simp) (.int .i64 q)
    go_upto_region 7 with fail
    generalize wc.setCell ⟨g, 1, none⟩ (.int .i64 q) = wa at T7 Z7 M7 fr7 ⊢
    clear hT6 Z6 M6 fr6 c0 c1 c2 f1
    have e0 := M7.cell 0
    have e1 := M7.cell 1
    have a0 := (M7.alloc (.cells #[.int .i64 0, .int .i64 0, .int .i64 0, .string ⟨#[]⟩, .slice none 0 0] 28)).cell 0
    have a1 := (M7.alloc (.cells #[.int .i64 0, .int .i64 0, .int .i64 0, .string ⟨#[]⟩, .slice none 0 0] 28)).cell 1
    have v0 := (M7.alloc (.cells #[.int .i64 k, .int .i64 0, .int .i64 0, .string ⟨#[]⟩, .slice none 0 0] 28)).cell 0
    have v1 := (M7.alloc (.cells #[.int .i64 k, .int .i64 0, .int .i64 0, .string ⟨#[]⟩, .slice none 0 0] 28)).cell 1
    simp only [List.getElem?_toArray, List.getElem?_cons_succ, List.getElem?_cons_zero] at e0 e1 a0 a1 v0 v1
    go_region
    clear e0 e1 a0 a1 v0 v1
    have kv := (Below.one wa (.cells #[.int .i64 k, .int .i64 0, .int .i64 0, .string ⟨#[]⟩, .slice none 0 0] 28)).drew
    have T8 := T7.below kv T7.blk.lt
    have Z8 := Z7.below kv Z7.lt
    have M8 := M7.below kv M7.lt
    have V8 := (Blk.new wa 28 #[.int .i64 k, .int .i64 0, .int .i64 0, .string ⟨#[]⟩, .slice none 0 0]).drew
    have fr8 := fr7.trans (Fr.of_below kv)
    have zbv : gm < wa.heap.size := M7.lt
    clear T7 Z7 M7 fr7 kv
    generalize wa.heap.size = bv at V8 zbv ⊢
    generalize (wa.alloc (.cells #[.int .i64 k, .int .i64 0, .int .i64 0, .string ⟨#[]⟩, .slice none 0 0] 28)).drew = wb at T8 Z8 M8 V8 fr8 ⊢
    have e0 := M8.cell 0
    have e1 := M8.cell 1
    simp only [List.getElem?_toArray, List.getElem?_cons_succ, List.getElem?_cons_zero] at e0 e1
    have HB := i_BitsFlt m wb
    rw [hf] at HB
    unfold fltV at HB
    go_upto_region 13 with (go_at_call 103; refine HB.mono ?_; rintro r w5 ⟨rfl, hb5⟩)
    have kf := hb5.up (Below.one w5 (.cells #[.int .i64 a, .int .i64 e] 51))
    have T9 := T8.below kf T8.blk.lt
    have Z9 := Z8.below kf Z8.lt
    have V9 := V8.below kf V8.lt
    have F9 := Blk.new w5 51 #[.int .i64 a, .int .i64 e]
    have fr9 := fr8.trans (Fr.of_below kf)
    have zf : bv < w5.heap.size := Nat.lt_of_lt_of_le V8.lt hb5.size
    generalize w5.heap.size = bf at F9 zf ⊢
    generalize w5.alloc (.cells #[.int .i64 a, .int .i64 e] 51) = wf at T9 Z9 V9 F9 fr9 ⊢
    clear T8 Z8 M8 V8 fr8 e0 e1 HB hb5 kf
    have V10 : Blk (wf.setCell ⟨bv, 1, none⟩ (.int .i64 a)) bv 28 #[.int .i64 k, .int .i64 a, .int .i64 0, .string ⟨#[]⟩, .slice none 0 0] := by simpa using V9.set_ 1 (.int .i64 a)
    have F10 := F9.far (p := ⟨bv, 1, none⟩) (by show bf ≠ bv; omega) (.int .i64 a)
    have q0 := F9.cell 0
    have q1 := F9.cell 1
    have q11 := F10.cell 1
    have p1 := V9.cell 1
    have f1 := V9.frozen 1
    have p2 := V10.cell 2
    have f2 := V10.frozen 2
    have p20 := V9.cell 2
    have f20 := V9.frozen 2
    simp only [List.getElem?_toArray, List.getElem?_cons_succ, List.getElem?_cons_zero] at q0 q1 q11 p1 p2 p20
    go_region
    have T11 : PR ((wf.setCell ⟨bv, 1, none⟩ (.int .i64 a)).setCell ⟨bv, 2, none⟩ (.int .i64 e)).drew g A n c b q 0 := ⟨(T9.blk.far (p := ⟨bv, 1, none⟩) (by show g ≠ bv; omega) _).far (p := ⟨bv, 2, none⟩) (by show g ≠ bv; omega) _, ((T9.sl.setCell (p := ⟨bv, 1, none⟩) (by show g ≤ bv; omega) _).setCell (p := ⟨bv, 2, none⟩) (by show g ≤ bv; omega) _).drew, T9.bd⟩
    have Z11 := ((Z9.far (p := ⟨bv, 1, none⟩) (by show w.heap.size ≠ bv; omega) (.int .i64 a)).far (p := ⟨bv, 2, none⟩) (by show w.heap.size ≠ bv; omega) (.int .i64 e)).drew
    have V11 : Blk ((wf.setCell ⟨bv, 1, none⟩ (.int .i64 a)).setCell ⟨bv, 2, none⟩ (.int .i64 e)).drew bv 28 #[.int .i64 k, .int .i64 a, .int .i64 e, .string ⟨#[]⟩, .slice none 0 0] := by simpa using (V10.set_ 2 (.int .i64 e)).drew
    have fr11 : Fr [g] w ((wf.setCell ⟨bv, 1, none⟩ (.int .i64 a)).setCell ⟨bv, 2, none⟩ (.int .i64 e)).drew := (fr_new (q := ⟨bv, 2, none⟩) (fr_new (q := ⟨bv, 1, none⟩) fr9 (by show w.heap.size ≤ bv; omega) _) (by show w.heap.size ≤ bv; omega) _).drew
    generalize ((wf.setCell ⟨bv, 1, none⟩ (.int .i64 a)).setCell ⟨bv, 2, none⟩ (.int .i64 e)).drew = wg at T11 Z11 V11 fr11 ⊢
    clear T9 Z9 V9 F9 fr9 V10 F10 q0 q1 q11 p1 f1 p2 f2 p20 f20
    have b0 := V11.cell 0
    have b1 := V11.cell 1
    have b2 := V11.cell 2
    have b3 := V11.cell 3
    have b4 := V11.cell 4
    simp only [List.getElem?_toArray, List.getElem?_cons_succ, List.getElem?_cons_zero] at b0 b1 b2 b3 b4
    obtain ⟨x0, x1', x2, x3, x4, ⟨s0, t0⟩, ⟨s1, t1⟩, ⟨s2, t2⟩, ⟨s3, t3⟩, s4, t4⟩ := Z11.five (o := 0) (by simp) (.int .i64 k) (.int .i64 a) (.int .i64 e) (.string ⟨#[]⟩)
    go_wp2_with fail
    have hblk : Blk (set5 wg w.heap.size 0 (leafTr k a e ⟨#[]⟩) ⟨none, 0, 0, []⟩) w.heap.size 28 _ := Blk.five_ Z11 (leafTr k a e ⟨#[]⟩) ⟨none, 0, 0, []⟩
    have hTR3 := T11.set5_ (g2 := w.heap.size) (o := 0) (t := leafTr k a e ⟨#[]⟩) (e := ⟨none, 0, 0, []⟩) hgl
    have hfr3 : Fr [g] w (set5 wg w.heap.size 0 (leafTr k a e ⟨#[]⟩) ⟨none, 0, 0, []⟩) := fr_new5 fr11 (Nat.le_refl _)
    have hres := fun (tm : Array Value) (hp : tm.getD 4 undef = .pointer (some ⟨w.heap.size, 0, none⟩)) => results_blk (P := Tryz.prog) (tmps := tm) Tryz.results60 Tryz.isAgg28 (by exact Tryz.sizeOf28) hp hblk
    refine bodyPost_ret (hres _ rfl) rfl ?_
    exact ⟨rfl, hTR3, hfr3⟩
set_option maxHeartbeats 8000000 in
theorem i_value_short7 (g : Nat) (A : Option Addr) (n c : Nat) (b : List UInt8) (i d : Int) (w : World) (h : PR w g A n c b i 0) (hi : -9223372036854775808 ≤ i ∧ i ≤ 9223372036854775807) (hd : 1 ≤ d) (k m q : Int) (hG : getMark b i = (k, m, q, 0)) (mm : Nat) (hm : Hid (m = (mm : Int))) (hk4 : (k == 4) = false) (hk7 : (k == 7) = true) (hk8 : (k == 8) = false) (hsh : n < q.toNat + mm) :
    Calls Tryz.prog 60 #[.pointer (some ⟨g, 0, none⟩), .int .i64 d] w fun r w' => FailP w w' g A n c b q 1 r := by
  have hgood := getMark_good hG
  have k1 := Below.one w (.cells #[.int .i64 0, .int .i64 0, .int .i64 0, .string ⟨#[]⟩, .slice none 0 0] 28)
  have h1 := h.below k1 h.blk.lt
  have hZ := Blk.new w 28 #[.int .i64 0, .int .i64 0, .int .i64 0, .string ⟨#[]⟩, .slice none 0 0]
  have hgl := h.blk.lt
  have hbd := h.bd
  have hdd : decide (d < 1) = false := by simp; omega
  have hfr := Fr.of_below (fp := [g]) k1
  obtain ⟨u, hu⟩ : ∃ u, zeroT = u := ⟨_, rfl⟩
  have HU := Lib.hid hu
  unfold FailP
  rw [hu]
  clear hu
  go_enter Tryz.func60, Tryz.ntmps60
  go_upto_region 3 with fail
  generalize w.alloc (.cells #[.int .i64 0, .int .i64 0, .int .i64 0, .string ⟨#[]⟩, .slice none 0 0] 28) = wd at h1 hZ hfr ⊢
  have zd := hZ.lt
  have zg : g < wd.heap.size := Nat.lt_trans hgl zd
  have HC := fun w1 (hb : Below wd.heap.size wd w1) => i_GetMark A n c b i w1 g ((h1.sl).below (hb.mono (Nat.le_of_lt zg))) (Nat.le_trans (Nat.le_of_lt zg) hb.size) hbd hi
  rw [hG] at HC
  unfold ret4 markRet at HC
  simp only at HC
  have kd := Below.one wd (.cells #[.int .i64 0, .int .i64 0] 63)
  have hFV := fun w6 (hb6 : Below (wd.alloc (.cells #[.int .i64 0, .int .i64 0] 63)).drew.heap.size (wd.alloc (.cells #[.int .i64 0, .int .i64 0] 63)).drew w6) => (((Blk.new wd 63 #[.int .i64 0, .int .i64 0]).drew).below hb6 (by simp)).two_ (.int .i64 k)
  have hC1 := HC _ (Below.refl _ _).drew
  have hC2 := HC _ kd.drew
  have hS0 : ∀ w', Below wd.heap.size wd w' → MarkS w' g A n c i ∧ Below wd.heap.size wd w' := fun w' hb => ⟨⟨((h1.below hb zg).cells).1, ((h1.below hb zg).cells).2.1⟩, hb⟩
  have hS1 := hS0 _ (Below.refl wd.heap.size wd).drew
  have hS2 := hS0 _ kd.drew
  have hS3 := fun w6 (h : Below wd.drew.heap.size wd.drew w6) => hS0 w6 ((Below.refl wd.heap.size wd).drew.up h)
  have hS4 := fun w6 (h : Below (wd.alloc (.cells #[.int .i64 0, .int .i64 0] 63)).drew.heap.size (wd.alloc (.cells #[.int .i64 0, .int .i64 0] 63)).drew w6) => hS0 w6 (kd.drew.up h)
  have hS5 := fun w6 (h : MarkS w6 g A n c i ∧ Below wd.heap.size wd w6) => hS0 _ (h.2.up (Below.one w6 (.cells #[.int .i64 0, .int .i64 0] 63)))
  have hS6 := fun w6 (h : MarkS w6 g A n c i ∧ Below wd.heap.size wd w6) => hS0 _ (h.2.up (Below.one w6 (.cells #[.int .i64 k, .int .i64 m] 63)))
  have hS7 := fun w6 (h : MarkS w6 g A n c i ∧ Below wd.heap.size wd w6) => hS0 _ ((h.2.setCell (p := ⟨wd.heap.size, 0, none⟩) (Nat.le_refl _) (.int .i64 k)).setCell (p := ⟨wd.heap.size, 1, none⟩) (Nat.le_refl _) (.int .i64 m))
  clear hS0 HC
  go_cut [5, 6, 7] from 17 (fun s5 s6 s7 w' => ∃ gf, s5 = .pointer (some ⟨gf, 0, none⟩) ∧ s6 = .int .i64 q ∧ s7 = .int .i64 0 ∧ MarkM w w' g A n c b i k m gf)
  case first =>
    go_region_held3 (fun w' => MarkS w' g A n c i ∧ Below wd.heap.size wd w')
      (with_reducible first | exact hS1 | exact hS2 | exact hS3 _ hb6 | exact hS4 _ hb6 | exact hS5 _ hk6 | exact hS6 _ hk6 | exact hS7 _ hk6)
      (first
        | (go_at_call 102; with_reducible refine hC1.mono ?_; rintro r w6 ⟨rfl, hb6⟩; have hk6 := hS3 _ hb6)
        | (go_at_call 102; with_reducible refine hC2.mono ?_; rintro r w6 ⟨rfl, hb6⟩; have hk6 := hS4 _ hb6; obtain ⟨x0, x1, ⟨s0, t0⟩, s1, t1⟩ := hFV _ hb6))
    all_goals
      go_wp2_with fail
      go_meet
      case rel =>
        first
        | exact ⟨_, rfl, rfl, rfl, mark_meet1 h1 hZ hfr hb6 zd zg⟩
        | exact ⟨_, rfl, rfl, rfl, mark_meet2 h1 hZ hfr hb6 zd zg⟩
  case rest =>
    obtain ⟨gm, rfl, rfl, rfl, hT6, Z6, M6, fr6, hgm⟩ := hcut
    clear h1 hZ hfr hFV hC1 hC2 hS1 hS2 hS3 hS4 hS5 hS6 hS7 kd zd zg h
    have gg : g < gm := by omega
    obtain ⟨c0, c1, c2⟩ := hT6.cells
    have f1 := hT6.blk.frozen 1
    have T7 := hT6.setAt q
    have Z7 := Z6.far (p := ⟨g, 1, none⟩) (by show w.heap.size ≠ g; omega) (.int .i64 q)
    have M7 := M6.far (p := ⟨g, 1, none⟩) (by show gm ≠ g; omega) (.int .i64 q)
    have fr7 := fr6.setCell (p := ⟨g, 1, none⟩) (by simp) (.int .i64 q)
    go_upto_region 7 with fail
    generalize wc.setCell ⟨g, 1, none⟩ (.int .i64 q) = wa at T7 Z7 M7 fr7 ⊢
    clear hT6 Z6 M6 fr6 c0 c1 c2 f1
    have e0 := M7.cell 0
    have e1 := M7.cell 1
    have a0 := (M7.alloc (.cells #[.int .i64 0, .int .i64 0, .int .i64 0, .string ⟨#[]⟩, .slice none 0 0] 28)).cell 0
    have a1 := (M7.alloc (.cells #[.int .i64 0, .int .i64 0, .int .i64 0, .string ⟨#[]⟩, .slice none 0 0] 28)).cell 1
    have v0 := (M7.alloc (.cells #[.int .i64 k, .int .i64 0, .int .i64 0, .string ⟨#[]⟩, .slice none 0 0] 28)).cell 0
    have v1 := (M7.alloc (.cells #[.int .i64 k, .int .i64 0, .int .i64 0, .string ⟨#[]⟩, .slice none 0 0] 28)).cell 1
    simp only [List.getElem?_toArray, List.getElem?_cons_succ, List.getElem?_cons_zero] at e0 e1 a0 a1 v0 v1
    go_region
    clear e0 e1 a0 a1 v0 v1
    have kv := (Below.one wa (.cells #[.int .i64 k, .int .i64 0, .int .i64 0, .string ⟨#[]⟩, .slice none 0 0] 28)).drew
    have T8 := T7.below kv T7.blk.lt
    have Z8 := Z7.below kv Z7.lt
    have M8 := M7.below kv M7.lt
    have V8 := (Blk.new wa 28 #[.int .i64 k, .int .i64 0, .int .i64 0, .string ⟨#[]⟩, .slice none 0 0]).drew
    have fr8 := fr7.trans (Fr.of_below kv)
    have zbv : gm < wa.heap.size := M7.lt
    clear T7 Z7 M7 fr7 kv
    generalize wa.heap.size = bv at V8 zbv ⊢
    generalize (wa.alloc (.cells #[.int .i64 k, .int .i64 0, .int .i64 0, .string ⟨#[]⟩, .slice none 0 0] 28)).drew = wb at T8 Z8 M8 V8 fr8 ⊢
    have e0 := M8.cell 0
    have e1 := M8.cell 1
    simp only [List.getElem?_toArray, List.getElem?_cons_succ, List.getElem?_cons_zero] at e0 e1
    obtain rfl := hm.out
    clear hm
    obtain ⟨qn, rfl⟩ := Int.eq_ofNat_of_zero_le (show 0 ≤ q by omega)
    have hbl := T8.sl.blen
    obtain ⟨d0, d1, d2⟩ := T8.cells
    have hgt : (n : Int) - (qn : Int) < (mm : Int) := by omega
    have hgtd : decide ((n : Int) - (qn : Int) < (mm : Int)) = true := by simpa using hgt
    have hws : IntKind.i64.wrap ((n : Int) - (qn : Int)) = (n : Int) - (qn : Int) := by rw [IntKind.wrap_i64]; omega
    go_upto_region 17 with fail
    go_quiet (fail)
    have T9 := T8.below (Below.drewN_ wb nq) T8.blk.lt
    have Z9 := Z8.drewN nq
    have V9 := V8.drewN nq
    have M9 := M8.drewN nq
    have fr9 := fr8.drewN nq
    generalize wb.drewN nq = wf at T9 Z9 V9 M9 fr9 ⊢
    clear T8 Z8 M8 V8 fr8 e0 e1 d0 d1 d2
    have HF := i_fail g A n c b qn 0 1 wf T9
    unfold FailP at HF
    rw [HU.out] at HF
    have hTz := Z9.lt
    go_wp2_with (go_at_call 101; refine HF.mono ?_; rintro r w2 ⟨rfl, h2, hf2⟩; have BZ := Blk.ofFr Z9 hf2 (by omega); obtain ⟨x0, x1, x2, x3, x4, ⟨s0, t0⟩, ⟨s1, t1⟩, ⟨s2, t2⟩, ⟨s3, t3⟩, s4, t4⟩ := BZ.five (o := 0) (by simp) (.int .i64 u.k) (.int .i64 u.n) (.int .i64 u.x) (.string u.s))
    have hblk : Blk (set5 w2 w.heap.size 0 u ⟨none, 0, 0, []⟩) w.heap.size 28 _ := Blk.five_ BZ u ⟨none, 0, 0, []⟩
    have hTR3 := h2.set5_ (g2 := w.heap.size) (o := 0) (t := u) (e := ⟨none, 0, 0, []⟩) hgl
    have hfr3 : Fr [g] w (set5 w2 w.heap.size 0 u ⟨none, 0, 0, []⟩) := fr_new5 (fr9.trans hf2) (Nat.le_refl _)
    have hres := fun (tm : Array Value) (hp : tm.getD 4 undef = .pointer (some ⟨w.heap.size, 0, none⟩)) => results_blk (P := Tryz.prog) (tmps := tm) Tryz.results60 Tryz.isAgg28 (by exact Tryz.sizeOf28) hp hblk
    refine bodyPost_ret (hres _ rfl) rfl ?_
    exact ⟨rfl, hTR3, hfr3⟩
set_option maxHeartbeats 8000000 in
theorem i_value_short8 (g : Nat) (A : Option Addr) (n c : Nat) (b : List UInt8) (i d : Int) (w : World) (h : PR w g A n c b i 0) (hi : -9223372036854775808 ≤ i ∧ i ≤ 9223372036854775807) (hd : 1 ≤ d) (k m q : Int) (hG : getMark b i = (k, m, q, 0)) (mm : Nat) (hm : Hid (m = (mm : Int))) (hk4 : (k == 4) = false) (hk7 : (k == 7) = false) (hk8 : (k == 8) = true) (hsh : n < q.toNat + mm) :
    Calls Tryz.prog 60 #[.pointer (some ⟨g, 0, none⟩), .int .i64 d] w fun r w' => FailP w w' g A n c b q 1 r := by
  have hgood := getMark_good hG
  have k1 := Below.one w (.cells #[.int .i64 0, .int .i64 0, .int .i64 0, .string ⟨#[]⟩, .slice none 0 0] 28)
  have h1 := h.below k1 h.blk.lt
  have hZ := Blk.new w 28 #[.int .i64 0, .int .i64 0, .int .i64 0, .string ⟨#[]⟩, .slice none 0 0]
  have hgl := h.blk.lt
  have hbd := h.bd
  have hdd : decide (d < 1) = false := by simp; omega
  have hfr := Fr.of_below (fp := [g]) k1
  obtain ⟨u, hu⟩ : ∃ u, zeroT = u := ⟨_, rfl⟩
  have HU := Lib.hid hu
  unfold FailP
  rw [hu]
  clear hu
  go_enter Tryz.func60, Tryz.ntmps60
  go_upto_region 3 with fail
  generalize w.alloc (.cells #[.int .i64 0, .int .i64 0, .int .i64 0, .string ⟨#[]⟩, .slice none 0 0] 28) = wd at h1 hZ hfr ⊢
  have zd := hZ.lt
  have zg : g < wd.heap.size := Nat.lt_trans hgl zd
  have HC := fun w1 (hb : Below wd.heap.size wd w1) => i_GetMark A n c b i w1 g ((h1.sl).below (hb.mono (Nat.le_of_lt zg))) (Nat.le_trans (Nat.le_of_lt zg) hb.size) hbd hi
  rw [hG] at HC
  unfold ret4 markRet at HC
  simp only at HC
  have kd := Below.one wd (.cells #[.int .i64 0, .int .i64 0] 63)
  have hFV := fun w6 (hb6 : Below (wd.alloc (.cells #[.int .i64 0, .int .i64 0] 63)).drew.heap.size (wd.alloc (.cells #[.int .i64 0, .int .i64 0] 63)).drew w6) => (((Blk.new wd 63 #[.int .i64 0, .int .i64 0]).drew).below hb6 (by simp)).two_ (.int .i64 k)
  have hC1 := HC _ (Below.refl _ _).drew
  have hC2 := HC _ kd.drew
  have hS0 : ∀ w', Below wd.heap.size wd w' → MarkS w' g A n c i ∧ Below wd.heap.size wd w' := fun w' hb => ⟨⟨((h1.below hb zg).cells).1, ((h1.below hb zg).cells).2.1⟩, hb⟩
  have hS1 := hS0 _ (Below.refl wd.heap.size wd).drew
  have hS2 := hS0 _ kd.drew
  have hS3 := fun w6 (h : Below wd.drew.heap.size wd.drew w6) => hS0 w6 ((Below.refl wd.heap.size wd).drew.up h)
  have hS4 := fun w6 (h : Below (wd.alloc (.cells #[.int .i64 0, .int .i64 0] 63)).drew.heap.size (wd.alloc (.cells #[.int .i64 0, .int .i64 0] 63)).drew w6) => hS0 w6 (kd.drew.up h)
  have hS5 := fun w6 (h : MarkS w6 g A n c i ∧ Below wd.heap.size wd w6) => hS0 _ (h.2.up (Below.one w6 (.cells #[.int .i64 0, .int .i64 0] 63)))
  have hS6 := fun w6 (h : MarkS w6 g A n c i ∧ Below wd.heap.size wd w6) => hS0 _ (h.2.up (Below.one w6 (.cells #[.int .i64 k, .int .i64 m] 63)))
  have hS7 := fun w6 (h : MarkS w6 g A n c i ∧ Below wd.heap.size wd w6) => hS0 _ ((h.2.setCell (p := ⟨wd.heap.size, 0, none⟩) (Nat.le_refl _) (.int .i64 k)).setCell (p := ⟨wd.heap.size, 1, none⟩) (Nat.le_refl _) (.int .i64 m))
  clear hS0 HC
  go_cut [5, 6, 7] from 17 (fun s5 s6 s7 w' => ∃ gf, s5 = .pointer (some ⟨gf, 0, none⟩) ∧ s6 = .int .i64 q ∧ s7 = .int .i64 0 ∧ MarkM w w' g A n c b i k m gf)
  case first =>
    go_region_held3 (fun w' => MarkS w' g A n c i ∧ Below wd.heap.size wd w')
      (with_reducible first | exact hS1 | exact hS2 | exact hS3 _ hb6 | exact hS4 _ hb6 | exact hS5 _ hk6 | exact hS6 _ hk6 | exact hS7 _ hk6)
      (first
        | (go_at_call 102; with_reducible refine hC1.mono ?_; rintro r w6 ⟨rfl, hb6⟩; have hk6 := hS3 _ hb6)
        | (go_at_call 102; with_reducible refine hC2.mono ?_; rintro r w6 ⟨rfl, hb6⟩; have hk6 := hS4 _ hb6; obtain ⟨x0, x1, ⟨s0, t0⟩, s1, t1⟩ := hFV _ hb6))
    all_goals
      go_wp2_with fail
      go_meet
      case rel =>
        first
        | exact ⟨_, rfl, rfl, rfl, mark_meet1 h1 hZ hfr hb6 zd zg⟩
        | exact ⟨_, rfl, rfl, rfl, mark_meet2 h1 hZ hfr hb6 zd zg⟩
  case rest =>
    obtain ⟨gm, rfl, rfl, rfl, hT6, Z6, M6, fr6, hgm⟩ := hcut
    clear h1 hZ hfr hFV hC1 hC2 hS1 hS2 hS3 hS4 hS5 hS6 hS7 kd zd zg h
    have gg : g < gm := by omega
    obtain ⟨c0, c1, c2⟩ := hT6.cells
    have f1 := hT6.blk.frozen 1
    have T7 := hT6.setAt q
    have Z7 := Z6.far (p := ⟨g, 1, none⟩) (by show w.heap.size ≠ g; omega) (.int .i64 q)
    have M7 := M6.far (p := ⟨g, 1, none⟩) (by show gm ≠ g; omega) (.int .i64 q)
    have fr7 := fr6.setCell (p := ⟨g, 1, none⟩) (by simp) (.int .i64 q)
    go_upto_region 7 with fail
    generalize wc.setCell ⟨g, 1, none⟩ (.int .i64 q) = wa at T7 Z7 M7 fr7 ⊢
    clear hT6 Z6 M6 fr6 c0 c1 c2 f1
    have e0 := M7.cell 0
    have e1 := M7.cell 1
    have a0 := (M7.alloc (.cells #[.int .i64 0, .int .i64 0, .int .i64 0, .string ⟨#[]⟩, .slice none 0 0] 28)).cell 0
    have a1 := (M7.alloc (.cells #[.int .i64 0, .int .i64 0, .int .i64 0, .string ⟨#[]⟩, .slice none 0 0] 28)).cell 1
    have v0 := (M7.alloc (.cells #[.int .i64 k, .int .i64 0, .int .i64 0, .string ⟨#[]⟩, .slice none 0 0] 28)).cell 0
    have v1 := (M7.alloc (.cells #[.int .i64 k, .int .i64 0, .int .i64 0, .string ⟨#[]⟩, .slice none 0 0] 28)).cell 1
    simp only [List.getElem?_toArray, List.getElem?_cons_succ, List.getElem?_cons_zero] at e0 e1 a0 a1 v0 v1
    go_region
    clear e0 e1 a0 a1 v0 v1
    have kv := (Below.one wa (.cells #[.int .i64 k, .int .i64 0, .int .i64 0, .string ⟨#[]⟩, .slice none 0 0] 28)).drew
    have T8 := T7.below kv T7.blk.lt
    have Z8 := Z7.below kv Z7.lt
    have M8 := M7.below kv M7.lt
    have V8 := (Blk.new wa 28 #[.int .i64 k, .int .i64 0, .int .i64 0, .string ⟨#[]⟩, .slice none 0 0]).drew
    have fr8 := fr7.trans (Fr.of_below kv)
    have zbv : gm < wa.heap.size := M7.lt
    clear T7 Z7 M7 fr7 kv
    generalize wa.heap.size = bv at V8 zbv ⊢
    generalize (wa.alloc (.cells #[.int .i64 k, .int .i64 0, .int .i64 0, .string ⟨#[]⟩, .slice none 0 0] 28)).drew = wb at T8 Z8 M8 V8 fr8 ⊢
    have e0 := M8.cell 0
    have e1 := M8.cell 1
    simp only [List.getElem?_toArray, List.getElem?_cons_succ, List.getElem?_cons_zero] at e0 e1
    obtain rfl := hm.out
    clear hm
    obtain ⟨qn, rfl⟩ := Int.eq_ofNat_of_zero_le (show 0 ≤ q by omega)
    have hbl := T8.sl.blen
    obtain ⟨d0, d1, d2⟩ := T8.cells
    have hgt : (n : Int) - (qn : Int) < (mm : Int) := by omega
    have hgtd : decide ((n : Int) - (qn : Int) < (mm : Int)) = true := by simpa using hgt
    have hws : IntKind.i64.wrap ((n : Int) - (qn : Int)) = (n : Int) - (qn : Int) := by rw [IntKind.wrap_i64]; omega
    go_upto_region 17 with fail
    go_quiet (fail)
    have T9 := T8.below (Below.drewN_ wb nq) T8.blk.lt
    have Z9 := Z8.drewN nq
    have V9 := V8.drewN nq
    have M9 := M8.drewN nq
    have fr9 := fr8.drewN nq
    generalize wb.drewN nq = wf at T9 Z9 V9 M9 fr9 ⊢
    clear T8 Z8 M8 V8 fr8 e0 e1 d0 d1 d2
    have HF := i_fail g A n c b qn 0 1 wf T9
    unfold FailP at HF
    rw [HU.out] at HF
    have hTz := Z9.lt
    go_wp2_with (go_at_call 101; refine HF.mono ?_; rintro r w2 ⟨rfl, h2, hf2⟩; have BZ := Blk.ofFr Z9 hf2 (by omega); obtain ⟨x0, x1, x2, x3, x4, ⟨s0, t0⟩, ⟨s1, t1⟩, ⟨s2, t2⟩, ⟨s3, t3⟩, s4, t4⟩ := BZ.five (o := 0) (by simp) (.int .i64 u.k) (.int .i64 u.n) (.int .i64 u.x) (.string u.s))
    have hblk : Blk (set5 w2 w.heap.size 0 u ⟨none, 0, 0, []⟩) w.heap.size 28 _ := Blk.five_ BZ u ⟨none, 0, 0, []⟩
    have hTR3 := h2.set5_ (g2 := w.heap.size) (o := 0) (t := u) (e := ⟨none, 0, 0, []⟩) hgl
    have hfr3 : Fr [g] w (set5 w2 w.heap.size 0 u ⟨none, 0, 0, []⟩) := fr_new5 (fr9.trans hf2) (Nat.le_refl _)
    have hres := fun (tm : Array Value) (hp : tm.getD 4 undef = .pointer (some ⟨w.heap.size, 0, none⟩)) => results_blk (P := Tryz.prog) (tmps := tm) Tryz.results60 Tryz.isAgg28 (by exact Tryz.sizeOf28) hp hblk
    refine bodyPost_ret (hres _ rfl) rfl ?_
    exact ⟨rfl, hTR3, hfr3⟩
end Go.Proofs.YtmelnaidjgpclaaGreatDoor
