/- ReadPacked: both sides. (Written by wip/gen/getpack.py.) -/
import Derived.Test.YtmelnaidjgpclaaDoorGetPack
import Derived.Deep.QuietTactic
import Derived.BigQuiet
import Derived.BigRegion
set_option linter.unusedVariables false
set_option maxRecDepth 100000
set_option linter.unusedSimpArgs false
namespace Go.Proofs.YtmelnaidjgpclaaDoor
open Go.RowKit

def ReadRes (w w' : World) (T : Tr) (cd : Int) (r : Ending) : Prop :=
  ∃ u, r = .returned (.tuple #[trV T u, .int .i64 cd]) ∧ LsAt w' T.l u ∧ Own w' w.heap.size u.fp ∧ Below w.heap.size w w'
noncomputable def readPacked (b : List UInt8) (d : Int) : Tr × Int := match packR b 0 d with
  | .bad c => (zeroT, c)
  | .good t q => if q = b.length then (t, 0) else (zeroT, 1)
theorem readPacked_cnt {b : List UInt8} (d : Int) : cntL (readPacked b d).1.l ≤ 4 * b.length := by
  have h := packR_cnt b 0 d
  unfold readPacked
  cases hx : packR b 0 d with
  | bad c => simp only [zeroT, leafTr, cntL_nil]; omega
  | good t q =>
    rw [hx] at h
    simp only [resR] at h ⊢
    split
    · exact h
    · simp only [zeroT, leafTr, cntL_nil]; omega
set_option maxHeartbeats 4000000 in
theorem i_ReadPacked (A : Option Addr) (n c : Nat) (b : List UInt8) (d : Int) (w : World) (hs : Sl w w.heap.size 1 A n c (u8s b)) (hn : n ≤ 1048576) (hd : -9223372036854775808 ≤ d ∧ d ≤ 9223372036854775807) (hU : Lib.Utf8Tabs 0 1 w) :
    Calls Tryd.prog 16 #[.slice A n c, .int .i64 d] w fun r w' => ReadRes w w' (readPacked b d).1 (readPacked b d).2 r := by
  have hl := hs.blen
  have K := Below.one w (.cells #[.int .i64 0, .int .i64 0, .int .i64 0, .string ⟨#[]⟩, .slice none 0 0] 25)
  have hR := Blk.new w 25 #[.int .i64 0, .int .i64 0, .int .i64 0, .string ⟨#[]⟩, .slice none 0 0]
  have HT := i_GetPacked A n c b 0 d (w.alloc (.cells #[.int .i64 0, .int .i64 0, .int .i64 0, .string ⟨#[]⟩, .slice none 0 0] 25)) ((hs.below K).more (by simp)) hn (by decide) hd (Utf8Tabs_below hU K)
  have hbad := fun c0 (h : packR b 0 d = .bad c0) => (kVM_bad b (2 * b.length + 3)).1 _ _ _ h
  have hgd := fun t0 q0 (h : packR b 0 d = .good t0 q0) => (fun d i t q (h : kV b (2 * b.length + 3) d i = .good t q) => ((kVM_good b (2 * b.length + 3)).1 d i t q h).2.2.1) _ _ _ _ h
  unfold GetRes at HT
  unfold ReadRes readPacked
  obtain ⟨X, hXX⟩ : ∃ X, packR b 0 d = X := ⟨_, rfl⟩
  rw [hXX] at HT ⊢
  rw [hXX] at hbad hgd
  clear hXX hs
  cases X with
  | bad kc =>
    have hc0 := hbad kc rfl
    have hcb : (kc != 0) = true := by simpa using hc0
    have hcb2 : (kc == 0) = false := by simpa using hc0
    simp only [resR, resP] at HT ⊢
    clear hbad hgd hl
    go_enter Tryd.func16, Tryd.ntmps16
    go_wp2_with (go_at_call 9; refine HT.mono ?_; rintro r w5 ⟨u, rfl, hl5, ho5, hb5⟩; have BZ := (hR.below hb5 hR.lt).below (Below.one w5 (.cells (valCells zeroT u) 25)) (hR.below hb5 hR.lt).lt; obtain ⟨x0, x1, x2, x3, x4, ⟨s0, t0⟩, ⟨s1, t1⟩, ⟨s2, t2⟩, ⟨s3, t3⟩, s4, t4⟩ := BZ.five (o := 0) (by simp) (.int .i64 0) (.int .i64 0) (.int .i64 0) (.string ⟨#[]⟩))
    have hblk : Blk (set5 (w5.alloc (.cells (valCells zeroT u) 25)) w.heap.size 0 zeroT ⟨none, 0, 0, []⟩) w.heap.size 25 _ := Blk.five_ BZ zeroT ⟨none, 0, 0, []⟩
    have hfr9 : Below w.heap.size w (set5 (w5.alloc (.cells (valCells zeroT u) 25)) w.heap.size 0 zeroT ⟨none, 0, 0, []⟩) := below_set5 ((K.up hb5).up (Below.one _ _)) (Nat.le_refl _)
    have hres := fun (tm : Array Value) (hp : tm.getD 4 undef = .pointer (some ⟨w.heap.size, 0, none⟩)) => results_blk2 (P := Tryd.prog) (tmps := tm) Tryd.results16 Tryd.isAgg25 (by exact Tryd.sizeOf25) hp hblk
    refine bodyPost_ret (hres _ rfl) rfl ?_
    exact ⟨⟨none, 0, 0, []⟩, rfl, LsAt.nil_ _ _, Own.nil_ _ _, hfr9⟩
  | good t q =>
    have hqn := hgd t q rfl
    simp only [resR, resP] at HT ⊢
    have h00 : ((0 : Int) == 0) = true := rfl
    have h01 : ((0 : Int) != 0) = false := rfl
    by_cases hq : q = b.length
    · rw [if_pos hq]
      have hlt : decide ((q : Int) < (n : Int)) = false := by simp; omega
      have hqi : (q : Int) = (n : Int) := by omega
      have hne : ((q : Int) != (n : Int)) = false := by simp; omega
      have hlt2 : ¬ (q : Int) < (n : Int) := by omega
      have hlt3 : ¬ q < n := by omega
      have hlt4 : decide (q < n) = false := by simp; omega
      have hne2 : (q != n) = false := by simp; omega
      clear hqi hbad hgd hqn hl
      go_enter Tryd.func16, Tryd.ntmps16
      go_wp2_with (go_at_call 9; refine HT.mono ?_; rintro r w5 ⟨u, rfl, hl5, ho5, hb5⟩; have kx := Below.one w5 (.cells (valCells t u) 25); have BZ := (hR.below hb5 hR.lt).below kx (hR.below hb5 hR.lt).lt; obtain ⟨x0, x1, x2, x3, x4, ⟨s0, t0⟩, ⟨s1, t1⟩, ⟨s2, t2⟩, ⟨s3, t3⟩, s4, t4⟩ := BZ.five (o := 0) (by simp) (.int .i64 t.k) (.int .i64 t.n) (.int .i64 t.x) (.string t.s); obtain ⟨v0, v1, v2, v3, v4⟩ := (Blk.new w5 25 (valCells t u)).boxV)
      have hn0 : w.heap.size ∉ u.fp := fun hx => by have := (ho5.2 _ hx).1; simp at this; omega
      have hblk : Blk (set5 (w5.alloc (.cells (valCells t u) 25)) w.heap.size 0 t u) w.heap.size 25 _ := Blk.five_ BZ t u
      have hls5 := (hl5.below (fun g hg => ho5.lt hg) kx).set5_ (e2 := u) (g := w.heap.size) (o := 0) (t := t) hn0
      have how5 := ((ho5.below (fun g hg => ho5.lt hg) kx).mono (lo2 := w.heap.size) (by simp)).set5_ (g := w.heap.size) (o := 0) (t := t) (e := u) hn0
      have hfr9 : Below w.heap.size w (set5 (w5.alloc (.cells (valCells t u) 25)) w.heap.size 0 t u) := below_set5 ((K.up hb5).up kx) (Nat.le_refl _)
      have hres := fun (tm : Array Value) (hp : tm.getD 4 undef = .pointer (some ⟨w.heap.size, 0, none⟩)) => results_blk2 (P := Tryd.prog) (tmps := tm) Tryd.results16 Tryd.isAgg25 (by exact Tryd.sizeOf25) hp hblk
      refine bodyPost_ret (hres _ rfl) rfl ?_
      exact ⟨u, rfl, hls5, how5, hfr9⟩
    · rw [if_neg hq]
      have hlt : decide ((q : Int) < (n : Int)) = true := by simp; omega
      have hne : ((q : Int) != (n : Int)) = true := by simp; omega
      have hlt2 : (q : Int) < (n : Int) := by omega
      have hlt3 : q < n := by omega
      have hlt4 : decide (q < n) = true := by simp; omega
      have hne2 : (q != n) = true := by simp; omega
      clear hbad hgd hqn hl
      go_enter Tryd.func16, Tryd.ntmps16
      go_wp2_with (go_at_call 9; refine HT.mono ?_; rintro r w5 ⟨u, rfl, hl5, ho5, hb5⟩; have BZ := (hR.below hb5 hR.lt).below (Below.one w5 (.cells (valCells t u) 25)) (hR.below hb5 hR.lt).lt; obtain ⟨x0, x1, x2, x3, x4, ⟨s0, t0⟩, ⟨s1, t1⟩, ⟨s2, t2⟩, ⟨s3, t3⟩, s4, t4⟩ := BZ.five (o := 0) (by simp) (.int .i64 0) (.int .i64 0) (.int .i64 0) (.string ⟨#[]⟩))
      have hblk : Blk (set5 (w5.alloc (.cells (valCells t u) 25)) w.heap.size 0 zeroT ⟨none, 0, 0, []⟩) w.heap.size 25 _ := Blk.five_ BZ zeroT ⟨none, 0, 0, []⟩
      have hfr9 : Below w.heap.size w (set5 (w5.alloc (.cells (valCells t u) 25)) w.heap.size 0 zeroT ⟨none, 0, 0, []⟩) := below_set5 ((K.up hb5).up (Below.one _ _)) (Nat.le_refl _)
      have hres := fun (tm : Array Value) (hp : tm.getD 4 undef = .pointer (some ⟨w.heap.size, 0, none⟩)) => results_blk2 (P := Tryd.prog) (tmps := tm) Tryd.results16 Tryd.isAgg25 (by exact Tryd.sizeOf25) hp hblk
      refine bodyPost_ret (hres _ rfl) rfl ?_
      exact ⟨⟨none, 0, 0, []⟩, rfl, LsAt.nil_ _ _, Own.nil_ _ _, hfr9⟩
set_option maxHeartbeats 4000000 in
theorem s_ReadPacked (A : Option Addr) (n c : Nat) (b : List UInt8) (d : Int) (w : World) (hs : Sl w w.heap.size 1 A n c (u8s b)) (hn : n ≤ 1048576) (hd : -9223372036854775808 ≤ d ∧ d ≤ 9223372036854775807) :
    Calls Tryd.prog 15 #[.slice A n c, .int .i64 d] w fun r w' => ReadRes w w' (readPacked b d).1 (readPacked b d).2 r := by
  have hl := hs.blen
  have K := Below.one w (.cells #[.int .i64 0, .int .i64 0, .int .i64 0, .string ⟨#[]⟩, .slice none 0 0] 25)
  have hR := Blk.new w 25 #[.int .i64 0, .int .i64 0, .int .i64 0, .string ⟨#[]⟩, .slice none 0 0]
  have HT := s_GetPacked A n c b 0 d (w.alloc (.cells #[.int .i64 0, .int .i64 0, .int .i64 0, .string ⟨#[]⟩, .slice none 0 0] 25)) ((hs.below K).more (by simp)) hn (by decide) hd
  have hbad := fun c0 (h : packR b 0 d = .bad c0) => (kVM_bad b (2 * b.length + 3)).1 _ _ _ h
  have hgd := fun t0 q0 (h : packR b 0 d = .good t0 q0) => (fun d i t q (h : kV b (2 * b.length + 3) d i = .good t q) => ((kVM_good b (2 * b.length + 3)).1 d i t q h).2.2.1) _ _ _ _ h
  unfold GetRes at HT
  unfold ReadRes readPacked
  obtain ⟨X, hXX⟩ : ∃ X, packR b 0 d = X := ⟨_, rfl⟩
  rw [hXX] at HT ⊢
  rw [hXX] at hbad hgd
  clear hXX hs
  cases X with
  | bad kc =>
    have hc0 := hbad kc rfl
    have hcb : (kc != 0) = true := by simpa using hc0
    have hcb2 : (kc == 0) = false := by simpa using hc0
    simp only [resR, resP] at HT ⊢
    clear hbad hgd hl
    go_enter Tryd.func15, Tryd.ntmps15
    go_wp2_with (go_at_call 7; refine HT.mono ?_; rintro r w5 ⟨u, rfl, hl5, ho5, hb5⟩; have BZ := (hR.below hb5 hR.lt).below (Below.one w5 (.cells (valCells zeroT u) 25)) (hR.below hb5 hR.lt).lt; obtain ⟨x0, x1, x2, x3, x4, ⟨s0, t0⟩, ⟨s1, t1⟩, ⟨s2, t2⟩, ⟨s3, t3⟩, s4, t4⟩ := BZ.five (o := 0) (by simp) (.int .i64 0) (.int .i64 0) (.int .i64 0) (.string ⟨#[]⟩))
    have hblk : Blk (set5 (w5.alloc (.cells (valCells zeroT u) 25)) w.heap.size 0 zeroT ⟨none, 0, 0, []⟩) w.heap.size 25 _ := Blk.five_ BZ zeroT ⟨none, 0, 0, []⟩
    have hfr9 : Below w.heap.size w (set5 (w5.alloc (.cells (valCells zeroT u) 25)) w.heap.size 0 zeroT ⟨none, 0, 0, []⟩) := below_set5 ((K.up hb5).up (Below.one _ _)) (Nat.le_refl _)
    have hres := fun (tm : Array Value) (hp : tm.getD 4 undef = .pointer (some ⟨w.heap.size, 0, none⟩)) => results_blk2 (P := Tryd.prog) (tmps := tm) Tryd.results15 Tryd.isAgg25 (by exact Tryd.sizeOf25) hp hblk
    refine bodyPost_ret (hres _ rfl) rfl ?_
    exact ⟨⟨none, 0, 0, []⟩, rfl, LsAt.nil_ _ _, Own.nil_ _ _, hfr9⟩
  | good t q =>
    have hqn := hgd t q rfl
    simp only [resR, resP] at HT ⊢
    have h00 : ((0 : Int) == 0) = true := rfl
    have h01 : ((0 : Int) != 0) = false := rfl
    by_cases hq : q = b.length
    · rw [if_pos hq]
      have hlt : decide ((q : Int) < (n : Int)) = false := by simp; omega
      have hqi : (q : Int) = (n : Int) := by omega
      have hne : ((q : Int) != (n : Int)) = false := by simp; omega
      have hlt2 : ¬ (q : Int) < (n : Int) := by omega
      have hlt3 : ¬ q < n := by omega
      have hlt4 : decide (q < n) = false := by simp; omega
      have hne2 : (q != n) = false := by simp; omega
      clear hqi hbad hgd hqn hl
      go_enter Tryd.func15, Tryd.ntmps15
      go_wp2_with (go_at_call 7; refine HT.mono ?_; rintro r w5 ⟨u, rfl, hl5, ho5, hb5⟩; have kx := Below.one w5 (.cells (valCells t u) 25); have BZ := (hR.below hb5 hR.lt).below kx (hR.below hb5 hR.lt).lt; obtain ⟨x0, x1, x2, x3, x4, ⟨s0, t0⟩, ⟨s1, t1⟩, ⟨s2, t2⟩, ⟨s3, t3⟩, s4, t4⟩ := BZ.five (o := 0) (by simp) (.int .i64 t.k) (.int .i64 t.n) (.int .i64 t.x) (.string t.s); obtain ⟨v0, v1, v2, v3, v4⟩ := (Blk.new w5 25 (valCells t u)).boxV)
      have hn0 : w.heap.size ∉ u.fp := fun hx => by have := (ho5.2 _ hx).1; simp at this; omega
      have hblk : Blk (set5 (w5.alloc (.cells (valCells t u) 25)) w.heap.size 0 t u) w.heap.size 25 _ := Blk.five_ BZ t u
      have hls5 := (hl5.below (fun g hg => ho5.lt hg) kx).set5_ (e2 := u) (g := w.heap.size) (o := 0) (t := t) hn0
      have how5 := ((ho5.below (fun g hg => ho5.lt hg) kx).mono (lo2 := w.heap.size) (by simp)).set5_ (g := w.heap.size) (o := 0) (t := t) (e := u) hn0
      have hfr9 : Below w.heap.size w (set5 (w5.alloc (.cells (valCells t u) 25)) w.heap.size 0 t u) := below_set5 ((K.up hb5).up kx) (Nat.le_refl _)
      have hres := fun (tm : Array Value) (hp : tm.getD 4 undef = .pointer (some ⟨w.heap.size, 0, none⟩)) => results_blk2 (P := Tryd.prog) (tmps := tm) Tryd.results15 Tryd.isAgg25 (by exact Tryd.sizeOf25) hp hblk
      refine bodyPost_ret (hres _ rfl) rfl ?_
      exact ⟨u, rfl, hls5, how5, hfr9⟩
    · rw [if_neg hq]
      have hlt : decide ((q : Int) < (n : Int)) = true := by simp; omega
      have hne : ((q : Int) != (n : Int)) = true := by simp; omega
      have hlt2 : (q : Int) < (n : Int) := by omega
      have hlt3 : q < n := by omega
      have hlt4 : decide (q < n) = true := by simp; omega
      have hne2 : (q != n) = true := by simp; omega
      clear hbad hgd hqn hl
      go_enter Tryd.func15, Tryd.ntmps15
      go_wp2_with (go_at_call 7; refine HT.mono ?_; rintro r w5 ⟨u, rfl, hl5, ho5, hb5⟩; have BZ := (hR.below hb5 hR.lt).below (Below.one w5 (.cells (valCells t u) 25)) (hR.below hb5 hR.lt).lt; obtain ⟨x0, x1, x2, x3, x4, ⟨s0, t0⟩, ⟨s1, t1⟩, ⟨s2, t2⟩, ⟨s3, t3⟩, s4, t4⟩ := BZ.five (o := 0) (by simp) (.int .i64 0) (.int .i64 0) (.int .i64 0) (.string ⟨#[]⟩))
      have hblk : Blk (set5 (w5.alloc (.cells (valCells t u) 25)) w.heap.size 0 zeroT ⟨none, 0, 0, []⟩) w.heap.size 25 _ := Blk.five_ BZ zeroT ⟨none, 0, 0, []⟩
      have hfr9 : Below w.heap.size w (set5 (w5.alloc (.cells (valCells t u) 25)) w.heap.size 0 zeroT ⟨none, 0, 0, []⟩) := below_set5 ((K.up hb5).up (Below.one _ _)) (Nat.le_refl _)
      have hres := fun (tm : Array Value) (hp : tm.getD 4 undef = .pointer (some ⟨w.heap.size, 0, none⟩)) => results_blk2 (P := Tryd.prog) (tmps := tm) Tryd.results15 Tryd.isAgg25 (by exact Tryd.sizeOf25) hp hblk
      refine bodyPost_ret (hres _ rfl) rfl ?_
      exact ⟨⟨none, 0, 0, []⟩, rfl, LsAt.nil_ _ _, Own.nil_ _ _, hfr9⟩
end Go.Proofs.YtmelnaidjgpclaaDoor
