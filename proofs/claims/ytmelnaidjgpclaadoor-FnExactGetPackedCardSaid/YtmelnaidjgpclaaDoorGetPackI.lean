/- The program's reader of the packed format: fail; value up to its mark. -/
import Derived.Test.YtmelnaidjgpclaaDoorPackRp
import Derived.Test.YtmelnaidjgpclaaDoorFltNew
import Derived.Deep.Cut
import Derived.Deep.CutBlock
import Derived.Deep.DeepCutAuto
import Derived.Deep.RegionLaw
import Derived.Deep.RegionHeld3
import Derived.BigRegion
import Derived.Deep.QuietTactic
import Derived.BigQuiet
set_option linter.unusedVariables false
set_option maxRecDepth 100000
set_option linter.unusedSimpArgs false
namespace Go.Proofs.YtmelnaidjgpclaaDoor
open Go.RowKit

theorem fr_new {fp : List Nat} {w w' : World} (h : Fr fp w w') {q : Addr} (hq : w.heap.size ≤ q.block) (u : Value) : Fr fp w (w'.setCell q u) :=
  ⟨h.os, h.tape, h.output, by rw [size_setCell]; exact h.size, fun k hk hn => (Below.heap_setCell _ _ _ _ (by omega)).trans (h.block k hk hn)⟩
theorem fr_new5 {fp : List Nat} {w w' : World} {g0 o : Nat} {t : Tr} {e : El} (h : Fr fp w w') (hg : w.heap.size ≤ g0) : Fr fp w (set5 w' g0 o t e) :=
  fr_new (q := ⟨g0, o + 4, none⟩) (fr_new (q := ⟨g0, o + 3, none⟩) (fr_new (q := ⟨g0, o + 2, none⟩) (fr_new (q := ⟨g0, o + 1, none⟩) (fr_new (q := ⟨g0, o, none⟩) h hg _) hg _) hg _) hg _) hg _
theorem Blk.ofFr {w w' : World} {g g2 : Nat} {T : TypeId} {cs : Array Value} (h : Blk w g2 T cs) (hf : Fr [g] w w') (hn : g2 ≠ g) : Blk w' g2 T cs := (hf.block g2 h.lt (by simp; exact hn)).trans h
/-- The reader in block g: its bytes, its place, its code. -/
structure PR (w : World) (g : Nat) (A : Option Addr) (n c : Nat) (b : List UInt8) (i code : Int) : Prop where
  blk : Blk w g 51 #[.slice A n c, .int .i64 i, .int .i64 code]
  sl : Sl w g 1 A n c (u8s b)
  bd : n ≤ 1048576
section
variable {w w' : World} {g n c B : Nat} {A : Option Addr} {b : List UInt8} {i code : Int}
theorem PR.below (h : PR w g A n c b i code) (hb : Below B w w') (hg : g < B) : PR w' g A n c b i code := ⟨h.blk.below hb hg, h.sl.below (hb.mono (Nat.le_of_lt hg)), h.bd⟩
theorem PR.setAt (h : PR w g A n c b i code) (q : Int) : PR (w.setCell ⟨g, 1, none⟩ (.int .i64 q)) g A n c b q code := ⟨by simpa using h.blk.set_ 1 (.int .i64 q), h.sl.setCell (Nat.le_refl _) _, h.bd⟩
theorem PR.setCode (h : PR w g A n c b i code) (k : Int) : PR (w.setCell ⟨g, 2, none⟩ (.int .i64 k)) g A n c b i k := ⟨by simpa using h.blk.set_ 2 (.int .i64 k), h.sl.setCell (Nat.le_refl _) _, h.bd⟩
theorem PR.cells (h : PR w g A n c b i code) : w.cell? ⟨g, 0, none⟩ = some (.slice A n c) ∧ w.cell? ⟨g, 1, none⟩ = some (.int .i64 i) ∧ w.cell? ⟨g, 2, none⟩ = some (.int .i64 code) := ⟨h.blk.cell 0, h.blk.cell 1, h.blk.cell 2⟩
theorem PR.set5_ {g2 o : Nat} {t : Tr} {e : El} (h : PR w g A n c b i code) (hg : g < g2) : PR (set5 w g2 o t e) g A n c b i code :=
  ⟨h.blk.far5 (by omega), ((((h.sl.setCell (p := ⟨g2, o, none⟩) (Nat.le_of_lt hg) _).setCell (p := ⟨g2, o + 1, none⟩) (Nat.le_of_lt hg) _).setCell (p := ⟨g2, o + 2, none⟩) (Nat.le_of_lt hg) _).setCell (p := ⟨g2, o + 3, none⟩) (Nat.le_of_lt hg) _).setCell (p := ⟨g2, o + 4, none⟩) (Nat.le_of_lt hg) _, h.bd⟩
end
def FailP (w w' : World) (g : Nat) (A : Option Addr) (n c : Nat) (b : List UInt8) (i k : Int) (r : Ending) : Prop := r = .returned (trV zeroT ⟨none, 0, 0, []⟩) ∧ PR w' g A n c b i k ∧ Fr [g] w w'
theorem i_fail (g : Nat) (A : Option Addr) (n c : Nat) (b : List UInt8) (i code k : Int) (w : World) (h : PR w g A n c b i code) :
    Calls Tryd.prog 45 #[.pointer (some ⟨g, 0, none⟩), .int .i64 k] w fun r w' => FailP w w' g A n c b i k r := by
  have k1 := Below.one w (.cells #[.int .i64 0, .int .i64 0, .int .i64 0, .string ⟨#[]⟩, .slice none 0 0] 25)
  have h1 := h.below k1 h.blk.lt
  obtain ⟨c0, c1, c2⟩ := h1.cells
  have f2 := h1.blk.frozen 2
  have hgl := h.blk.lt
  have h2 := (h.setCode k).below (Below.one _ (.cells #[.int .i64 0, .int .i64 0, .int .i64 0, .string ⟨#[]⟩, .slice none 0 0] 25)) (h.setCode k).blk.lt
  have hZ2 : Blk ((w.setCell ⟨g, 2, none⟩ (.int .i64 k)).alloc (.cells #[.int .i64 0, .int .i64 0, .int .i64 0, .string ⟨#[]⟩, .slice none 0 0] 25)) w.heap.size 25 #[.int .i64 0, .int .i64 0, .int .i64 0, .string ⟨#[]⟩, .slice none 0 0] := by
    have := Blk.new (w.setCell ⟨g, 2, none⟩ (.int .i64 k)) 25 #[.int .i64 0, .int .i64 0, .int .i64 0, .string ⟨#[]⟩, .slice none 0 0]
    rwa [size_setCell] at this
  have hfr : Fr [g] w ((w.setCell ⟨g, 2, none⟩ (.int .i64 k)).alloc (.cells #[.int .i64 0, .int .i64 0, .int .i64 0, .string ⟨#[]⟩, .slice none 0 0] 25)) := ((Fr.refl _ _).setCell (by simp) _).trans (Fr.of_below (Below.one _ _))
  go_enter Tryd.func45, Tryd.ntmps45
  go_wp2_with fail
  exact bodyPost_ret (results_blk Tryd.results45 Tryd.isAgg25 (by exact Tryd.sizeOf25) rfl hZ2) rfl ⟨rfl, h2, hfr⟩
set_option maxHeartbeats 2000000 in
theorem i_value_deep (g : Nat) (A : Option Addr) (n c : Nat) (b : List UInt8) (i d : Int) (w : World) (h : PR w g A n c b i 0) (hd : d < 1) :
    Calls Tryd.prog 26 #[.pointer (some ⟨g, 0, none⟩), .int .i64 d] w fun r w' => FailP w w' g A n c b i 2 r := by
  have k1 := Below.one w (.cells #[.int .i64 0, .int .i64 0, .int .i64 0, .string ⟨#[]⟩, .slice none 0 0] 25)
  have h1 := h.below k1 h.blk.lt
  have hZ := Blk.new w 25 #[.int .i64 0, .int .i64 0, .int .i64 0, .string ⟨#[]⟩, .slice none 0 0]
  have hgl := h.blk.lt
  have hdd : decide (d < 1) = true := by simpa using hd
  have hfl := i_fail g A n c b i 0 2 _ h1
  have hfr := Fr.of_below (fp := [g]) k1
  obtain ⟨u, hu⟩ : ∃ u, zeroT = u := ⟨_, rfl⟩
  unfold FailP at hfl ⊢
  rw [hu] at hfl ⊢
  clear hu h
  go_enter Tryd.func26, Tryd.ntmps26
  go_wp2_with (go_at_call 45; refine hfl.mono ?_; rintro r w2 ⟨rfl, h2, hf2⟩; have BZ := Blk.ofFr hZ hf2 (by omega); obtain ⟨x0, x1, x2, x3, x4, ⟨s0, t0⟩, ⟨s1, t1⟩, ⟨s2, t2⟩, ⟨s3, t3⟩, s4, t4⟩ := BZ.five (o := 0) (by simp) (.int .i64 u.k) (.int .i64 u.n) (.int .i64 u.x) (.string u.s))
  have hblk : Blk (set5 w2 w.heap.size 0 u ⟨none, 0, 0, []⟩) w.heap.size 25 _ := Blk.five_ BZ u ⟨none, 0, 0, []⟩
  have hTR3 := h2.set5_ (g2 := w.heap.size) (o := 0) (t := u) (e := ⟨none, 0, 0, []⟩) hgl
  have hfr3 : Fr [g] w (set5 w2 w.heap.size 0 u ⟨none, 0, 0, []⟩) := fr_new5 (hfr.trans hf2) (Nat.le_refl _)
  have hres := fun (tm : Array Value) (hp : tm.getD 4 undef = .pointer (some ⟨w.heap.size, 0, none⟩)) => results_blk (P := Tryd.prog) (tmps := tm) Tryd.results26 Tryd.isAgg25 (by exact Tryd.sizeOf25) hp hblk
  refine bodyPost_ret (hres _ rfl) rfl ?_
  exact ⟨rfl, hTR3, hfr3⟩
theorem Blk.two_ {w : World} {g : Nat} {T : TypeId} {a b : Value} (h : Blk w g T #[a, b]) (x : Value) :
    ∃ x0 x1, (w.cell? ⟨g, 0, none⟩ = some x0 ∧ w.frozen? ⟨g, 0, none⟩ = false) ∧ (w.setCell ⟨g, 0, none⟩ x).cell? ⟨g, 1, none⟩ = some x1 ∧ (w.setCell ⟨g, 0, none⟩ x).frozen? ⟨g, 1, none⟩ = false :=
  ⟨a, b, ⟨h.cell 0, h.frozen 0⟩, (show Blk _ g T #[x, b] by simpa using h.set_ 0 x).cell 1, (h.set_ 0 x).frozen 1⟩
abbrev MarkS (w : World) (g : Nat) (A : Option Addr) (n c : Nat) (i : Int) : Prop := w.cell? ⟨g, 0, none⟩ = some (.slice A n c) ∧ w.cell? ⟨g, 1, none⟩ = some (.int .i64 i)
/-- Where the mark has been read: the mark's block gf, the reader, the result's block. -/
abbrev MarkM (w w' : World) (g : Nat) (A : Option Addr) (n c : Nat) (b : List UInt8) (i k m : Int) (gf : Nat) : Prop := PR w' g A n c b i 0 ∧ Blk w' w.heap.size 25 #[.int .i64 0, .int .i64 0, .int .i64 0, .string ⟨#[]⟩, .slice none 0 0] ∧ Blk w' gf 38 #[.int .i64 k, .int .i64 m] ∧ Fr [g] w w' ∧ w.heap.size < gf
theorem mark_meet1 {w wd w6 : World} {g n c : Nat} {A : Option Addr} {b : List UInt8} {i k m : Int} (hT : PR wd g A n c b i 0) (hZ : Blk wd w.heap.size 25 #[.int .i64 0, .int .i64 0, .int .i64 0, .string ⟨#[]⟩, .slice none 0 0]) (hf : Fr [g] w wd) (hb : Below wd.drew.heap.size wd.drew w6) (hz : w.heap.size < wd.heap.size) (hg : g < wd.heap.size) :
    MarkM w (w6.alloc (.cells #[.int .i64 k, .int .i64 m] 38)) g A n c b i k m w6.heap.size := by
  have k6 : Below wd.heap.size wd w6 := (Below.refl wd.heap.size wd).drew.up hb
  have kk := k6.up (Below.one w6 (.cells #[.int .i64 k, .int .i64 m] 38))
  exact ⟨hT.below kk hg, hZ.below kk hz, Blk.new _ _ _, hf.trans (Fr.of_below kk), Nat.lt_of_lt_of_le hz k6.size⟩
theorem mark_meet2 {w wd w6 : World} {g n c : Nat} {A : Option Addr} {b : List UInt8} {i k m : Int} (hT : PR wd g A n c b i 0) (hZ : Blk wd w.heap.size 25 #[.int .i64 0, .int .i64 0, .int .i64 0, .string ⟨#[]⟩, .slice none 0 0]) (hf : Fr [g] w wd) (hb : Below (wd.alloc (.cells #[.int .i64 0, .int .i64 0] 38)).drew.heap.size (wd.alloc (.cells #[.int .i64 0, .int .i64 0] 38)).drew w6) (hz : w.heap.size < wd.heap.size) (hg : g < wd.heap.size) :
    MarkM w ((w6.setCell ⟨wd.heap.size, 0, none⟩ (.int .i64 k)).setCell ⟨wd.heap.size, 1, none⟩ (.int .i64 m)) g A n c b i k m wd.heap.size := by
  have k6 : Below wd.heap.size wd w6 := (Below.one wd _).drew.up hb
  have B6 := ((Blk.new wd 38 #[.int .i64 0, .int .i64 0]).drew).below hb (by simp)
  have kk := (k6.setCell (p := ⟨wd.heap.size, 0, none⟩) (Nat.le_refl _) (.int .i64 k)).setCell (p := ⟨wd.heap.size, 1, none⟩) (Nat.le_refl _) (.int .i64 m)
  exact ⟨hT.below kk hg, hZ.below kk hz, by simpa using (B6.set_ 0 (.int .i64 k)).set_ 1 (.int .i64 m), hf.trans (Fr.of_below kk), hz⟩
set_option maxHeartbeats 8000000 in
theorem i_value_mark (g : Nat) (A : Option Addr) (n c : Nat) (b : List UInt8) (i d : Int) (w : World) (h : PR w g A n c b i 0) (hi : -9223372036854775808 ≤ i ∧ i ≤ 9223372036854775807) (hd : 1 ≤ d) (k m q cd : Int) (hG : getMark b i = (k, m, q, cd)) (hcd : cd ≠ 0) :
    Calls Tryd.prog 26 #[.pointer (some ⟨g, 0, none⟩), .int .i64 d] w fun r w' => FailP w w' g A n c b i cd r := by
  have k1 := Below.one w (.cells #[.int .i64 0, .int .i64 0, .int .i64 0, .string ⟨#[]⟩, .slice none 0 0] 25)
  have h1 := h.below k1 h.blk.lt
  have hZ := Blk.new w 25 #[.int .i64 0, .int .i64 0, .int .i64 0, .string ⟨#[]⟩, .slice none 0 0]
  have hgl := h.blk.lt
  have hbd := h.bd
  have hdd : decide (d < 1) = false := by simp; omega
  have hfr := Fr.of_below (fp := [g]) k1
  obtain ⟨u, hu⟩ : ∃ u, zeroT = u := ⟨_, rfl⟩
  have HU := Lib.hid hu
  have hcb : (cd != 0) = true := by simpa using hcd
  unfold FailP
  rw [hu]
  clear hu
  go_enter Tryd.func26, Tryd.ntmps26
  go_upto_region 3 with fail
  generalize w.alloc (.cells #[.int .i64 0, .int .i64 0, .int .i64 0, .string ⟨#[]⟩, .slice none 0 0] 25) = wd at h1 hZ hfr ⊢
  have zd := hZ.lt
  have zg : g < wd.heap.size := Nat.lt_trans hgl zd
  have HC := fun w1 (hb : Below wd.heap.size wd w1) => i_GetMark A n c b i w1 g ((h1.sl).below (hb.mono (Nat.le_of_lt zg))) (Nat.le_trans (Nat.le_of_lt zg) hb.size) hbd hi
  rw [hG] at HC
  unfold ret4 markRet at HC
  simp only at HC
  have kd := Below.one wd (.cells #[.int .i64 0, .int .i64 0] 38)
  have hFV := fun w6 (hb6 : Below (wd.alloc (.cells #[.int .i64 0, .int .i64 0] 38)).drew.heap.size (wd.alloc (.cells #[.int .i64 0, .int .i64 0] 38)).drew w6) => (((Blk.new wd 38 #[.int .i64 0, .int .i64 0]).drew).below hb6 (by simp)).two_ (.int .i64 k)
  have hC1 := HC _ (Below.refl _ _).drew
  have hC2 := HC _ kd.drew
  have hS0 : ∀ w', Below wd.heap.size wd w' → MarkS w' g A n c i ∧ Below wd.heap.size wd w' := fun w' hb => ⟨⟨((h1.below hb zg).cells).1, ((h1.below hb zg).cells).2.1⟩, hb⟩
  have hS1 := hS0 _ (Below.refl wd.heap.size wd).drew
  have hS2 := hS0 _ kd.drew
  have hS3 := fun w6 (h : Below wd.drew.heap.size wd.drew w6) => hS0 w6 ((Below.refl wd.heap.size wd).drew.up h)
  have hS4 := fun w6 (h : Below (wd.alloc (.cells #[.int .i64 0, .int .i64 0] 38)).drew.heap.size (wd.alloc (.cells #[.int .i64 0, .int .i64 0] 38)).drew w6) => hS0 w6 (kd.drew.up h)
  have hS5 := fun w6 (h : MarkS w6 g A n c i ∧ Below wd.heap.size wd w6) => hS0 _ (h.2.up (Below.one w6 (.cells #[.int .i64 0, .int .i64 0] 38)))
  have hS6 := fun w6 (h : MarkS w6 g A n c i ∧ Below wd.heap.size wd w6) => hS0 _ (h.2.up (Below.one w6 (.cells #[.int .i64 k, .int .i64 m] 38)))
  have hS7 := fun w6 (h : MarkS w6 g A n c i ∧ Below wd.heap.size wd w6) => hS0 _ ((h.2.setCell (p := ⟨wd.heap.size, 0, none⟩) (Nat.le_refl _) (.int .i64 k)).setCell (p := ⟨wd.heap.size, 1, none⟩) (Nat.le_refl _) (.int .i64 m))
  clear hS0 HC
  go_cut [5, 6, 7] from 17 (fun s5 s6 s7 w' => ∃ gf, s5 = .pointer (some ⟨gf, 0, none⟩) ∧ s6 = .int .i64 q ∧ s7 = .int .i64 cd ∧ MarkM w w' g A n c b i k m gf)
  case first =>
    go_region_held3 (fun w' => MarkS w' g A n c i ∧ Below wd.heap.size wd w')
      (with_reducible first | exact hS1 | exact hS2 | exact hS3 _ hb6 | exact hS4 _ hb6 | exact hS5 _ hk6 | exact hS6 _ hk6 | exact hS7 _ hk6)
      (first
        | (go_at_call 46; with_reducible refine hC1.mono ?_; rintro r w6 ⟨rfl, hb6⟩; have hk6 := hS3 _ hb6)
        | (go_at_call 46; with_reducible refine hC2.mono ?_; rintro r w6 ⟨rfl, hb6⟩; have hk6 := hS4 _ hb6; obtain ⟨x0, x1, ⟨s0, t0⟩, s1, t1⟩ := hFV _ hb6))
    all_goals
      go_wp2_with fail
      go_meet
      case rel =>
        first
        | exact ⟨_, rfl, rfl, rfl, mark_meet1 h1 hZ hfr hb6 zd zg⟩
        | exact ⟨_, rfl, rfl, rfl, mark_meet2 h1 hZ hfr hb6 zd zg⟩
  case rest =>
    obtain ⟨gf, rfl, rfl, rfl, hT6, Z6, M6, fr6, hgf⟩ := hcut
    have HF := i_fail g A n c b i 0 cd wc hT6
    unfold FailP at HF
    rw [HU.out] at HF
    have hTz := Z6.lt
    go_wp2_with (go_at_call 45; refine HF.mono ?_; rintro r w2 ⟨rfl, h2, hf2⟩; have BZ := Blk.ofFr Z6 hf2 (by omega); obtain ⟨x0, x1, x2, x3, x4, ⟨s0, t0⟩, ⟨s1, t1⟩, ⟨s2, t2⟩, ⟨s3, t3⟩, s4, t4⟩ := BZ.five (o := 0) (by simp) (.int .i64 u.k) (.int .i64 u.n) (.int .i64 u.x) (.string u.s))
    have hblk : Blk (set5 w2 w.heap.size 0 u ⟨none, 0, 0, []⟩) w.heap.size 25 _ := Blk.five_ BZ u ⟨none, 0, 0, []⟩
    have hTR3 := h2.set5_ (g2 := w.heap.size) (o := 0) (t := u) (e := ⟨none, 0, 0, []⟩) hgl
    have hfr3 : Fr [g] w (set5 w2 w.heap.size 0 u ⟨none, 0, 0, []⟩) := fr_new5 (fr6.trans hf2) (Nat.le_refl _)
    have hres := fun (tm : Array Value) (hp : tm.getD 4 undef = .pointer (some ⟨w.heap.size, 0, none⟩)) => results_blk (P := Tryd.prog) (tmps := tm) Tryd.results26 Tryd.isAgg25 (by exact Tryd.sizeOf25) hp hblk
    refine bodyPost_ret (hres _ rfl) rfl ?_
    exact ⟨rfl, hTR3, hfr3⟩
end Go.Proofs.YtmelnaidjgpclaaDoor
