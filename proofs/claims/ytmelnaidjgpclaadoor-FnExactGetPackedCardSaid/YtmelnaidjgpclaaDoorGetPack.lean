/- GetPacked: both sides. (Written by wip/gen/getpack.py.) -/
import Derived.Test.YtmelnaidjgpclaaDoorGetPackA
import Derived.Test.YtmelnaidjgpclaaDoorGetPackS
import Derived.Deep.QuietTactic
import Derived.BigQuiet
import Derived.BigRegion
set_option linter.unusedVariables false
set_option maxRecDepth 100000
set_option linter.unusedSimpArgs false
namespace Go.Proofs.YtmelnaidjgpclaaDoor
open Go.RowKit

set_option maxHeartbeats 4000000 in
theorem i_GetPacked (A : Option Addr) (n c : Nat) (b : List UInt8) (i d : Int) (w : World) (hs : Sl w w.heap.size 1 A n c (u8s b)) (hn : n ≤ 1048576) (hi : -9223372036854775808 ≤ i ∧ i ≤ 9223372036854775807) (hd : -9223372036854775808 ≤ d ∧ d ≤ 9223372036854775807) (hU : Lib.Utf8Tabs 0 1 w) :
    Calls Tryd.prog 9 #[.slice A n c, .int .i64 i, .int .i64 d] w fun r w' => GetRes w w' (resR (packR b i d)).1 (resP (packR b i d)) (resR (packR b i d)).2 r := by
  have hl := hs.blen
  have k2 := Below.two w (.cells #[.int .i64 0, .int .i64 0, .int .i64 0, .string ⟨#[]⟩, .slice none 0 0] 25) (.cells #[.slice A n c, .int .i64 i, .int .i64 0] 51)
  have hR : Blk ((w.alloc (.cells #[.int .i64 0, .int .i64 0, .int .i64 0, .string ⟨#[]⟩, .slice none 0 0] 25)).alloc (.cells #[.slice A n c, .int .i64 i, .int .i64 0] 51)) w.heap.size 25 #[.int .i64 0, .int .i64 0, .int .i64 0, .string ⟨#[]⟩, .slice none 0 0] := (Blk.new w _ _).alloc _
  have hG : Blk ((w.alloc (.cells #[.int .i64 0, .int .i64 0, .int .i64 0, .string ⟨#[]⟩, .slice none 0 0] 25)).alloc (.cells #[.slice A n c, .int .i64 i, .int .i64 0] 51)) (w.heap.size + 1) 51 #[.slice A n c, .int .i64 i, .int .i64 0] := by simpa using Blk.new (w.alloc (.cells #[.int .i64 0, .int .i64 0, .int .i64 0, .string ⟨#[]⟩, .slice none 0 0] 25)) 51 #[.slice A n c, .int .i64 i, .int .i64 0]
  have hT : PR ((w.alloc (.cells #[.int .i64 0, .int .i64 0, .int .i64 0, .string ⟨#[]⟩, .slice none 0 0] 25)).alloc (.cells #[.slice A n c, .int .i64 i, .int .i64 0] 51)) (w.heap.size + 1) A n c b i 0 := ⟨hG, (hs.below k2).more (Nat.le_succ _), hn⟩
  have HV := i_value (W := w) (Nat.le_succ _) hU (2 * b.length + 3) i d _ hT k2 (by omega) hi hd
  unfold packR
  obtain ⟨X, hXX⟩ : ∃ X, kV b (2 * b.length + 3) d i = X := ⟨_, rfl⟩
  rw [hXX] at HV ⊢
  clear hXX hs hl hU
  go_enter Tryd.func9, Tryd.ntmps9
  go_upto_region 2 with fail
  generalize (w.alloc (.cells #[.int .i64 0, .int .i64 0, .int .i64 0, .string ⟨#[]⟩, .slice none 0 0] 25)).alloc (.cells #[.slice A n c, .int .i64 i, .int .i64 0] 51) = wa at k2 hR hG hT HV ⊢
  go_upto_region 3 with (go_at_call 26; refine HV.mono ?_; rintro r w5 ⟨t, u, p', kc, rfl, hl5, ho5, hT5, hf5, hok⟩)
  have hzG : w.heap.size + 1 < wa.heap.size := hG.lt
  have kx := Below.one w5 (.cells #[.int .i64 t.k, .int .i64 t.n, .int .i64 t.x, .string t.s, .slice u.A u.n u.c] 25)
  have E1 := hT5.below kx hT5.blk.lt
  have E2 := (Blk.ofFr hR hf5 (by omega)).below kx (Blk.ofFr hR hf5 (by omega)).lt
  have EB := Blk.new w5 25 #[.int .i64 t.k, .int .i64 t.n, .int .i64 t.x, .string t.s, .slice u.A u.n u.c]
  have E3 := hl5.below (fun g hg => ho5.lt hg) kx
  have E4 := (ho5.below (fun g hg => ho5.lt hg) kx).mono (lo2 := w.heap.size + 2) hzG
  have E5 : Below w.heap.size w (w5.alloc (.cells #[.int .i64 t.k, .int .i64 t.n, .int .i64 t.x, .string t.s, .slice u.A u.n u.c] 25)) := k2.trans (((hf5.below (B := w.heap.size) (by simp) (by omega))).trans (kx.mono (Nat.le_trans (by omega) hf5.size)))
  have zb : w.heap.size + 1 < w5.heap.size := Nat.lt_of_lt_of_le hzG hf5.size
  generalize w5.heap.size = bx at EB zb ⊢
  generalize w5.alloc (.cells #[.int .i64 t.k, .int .i64 t.n, .int .i64 t.x, .string t.s, .slice u.A u.n u.c] 25) = wb at E1 E2 E3 E4 E5 EB ⊢
  clear hR hG hT k2 HV hl5 ho5 hT5 hf5 kx hzG
  obtain ⟨d0, d1, d2⟩ := E1.cells
  cases X with
  | bad cd =>
    obtain ⟨hkc, hc0⟩ := hok
    subst hkc

    have hcb : (kc != 0) = true := by simpa using hc0
    have hcb2 : (kc == 0) = false := by simpa using hc0
    have BZ := E2
    obtain ⟨x0, x1, x2, x3, x4, ⟨s0, t0⟩, ⟨s1, t1⟩, ⟨s2, t2⟩, ⟨s3, t3⟩, s4, t4⟩ := BZ.five (o := 0) (by simp) (.int .i64 0) (.int .i64 0) (.int .i64 0) (.string ⟨#[]⟩)
    go_wp2_with fail
    go_region
    go_wp2_with fail
    have hblk : Blk ((set5 wb w.heap.size 0 zeroT ⟨none, 0, 0, []⟩).drew) w.heap.size 25 _ := (Blk.five_ BZ zeroT ⟨none, 0, 0, []⟩).drew
    have hfr9 : Below w.heap.size w ((set5 wb w.heap.size 0 zeroT ⟨none, 0, 0, []⟩).drew) := (below_set5 E5 (Nat.le_refl _)).drew
    have hres := fun (tm : Array Value) (hp : tm.getD 6 undef = .pointer (some ⟨w.heap.size, 0, none⟩)) => results_blk3 (P := Tryd.prog) (tmps := tm) Tryd.results9 Tryd.isAgg25 (by exact Tryd.sizeOf25) hp hblk
    refine bodyPost_ret (hres _ rfl) rfl ?_
    exact ⟨⟨none, 0, 0, []⟩, rfl, LsAt.nil_ _ _, Own.nil_ _ _, hfr9⟩
  | good v0 q0 =>
    obtain ⟨rfl, rfl, rfl⟩ := hok

    have hn0 : w.heap.size ∉ u.fp := fun hx => by have := (E4.2 _ hx).1; omega
    have BZ := E2
    obtain ⟨x0, x1, x2, x3, x4, ⟨s0, t0⟩, ⟨s1, t1⟩, ⟨s2, t2⟩, ⟨s3, t3⟩, s4, t4⟩ := BZ.five (o := 0) (by simp) (.int .i64 t.k) (.int .i64 t.n) (.int .i64 t.x) (.string t.s)
    have v0 := EB.cell 0
    have v1 := EB.cell 1
    have v2 := EB.cell 2
    have v3 := EB.cell 3
    have v4 := EB.cell 4
    simp only [List.getElem?_toArray, List.getElem?_cons_succ, List.getElem?_cons_zero] at v0 v1 v2 v3 v4
    go_wp2_with fail
    go_region
    go_wp2_with fail
    have hblk : Blk ((set5 wb w.heap.size 0 t u).drew) w.heap.size 25 _ := (Blk.five_ BZ t u).drew
    have hls5 := E3.set5_ (e2 := u) (g := w.heap.size) (o := 0) (t := t) hn0
    have how5 := (E4.mono (lo2 := w.heap.size) (by omega)).set5_ (g := w.heap.size) (o := 0) (t := t) (e := u) hn0
    have hfr9 : Below w.heap.size w ((set5 wb w.heap.size 0 t u).drew) := (below_set5 E5 (Nat.le_refl _)).drew
    have hres := fun (tm : Array Value) (hp : tm.getD 6 undef = .pointer (some ⟨w.heap.size, 0, none⟩)) => results_blk3 (P := Tryd.prog) (tmps := tm) Tryd.results9 Tryd.isAgg25 (by exact Tryd.sizeOf25) hp hblk
    refine bodyPost_ret (hres _ rfl) rfl ?_
    have kd := (Below.refl (set5 wb w.heap.size 0 t u).heap.size (set5 wb w.heap.size 0 t u)).drew
    have hls6 := hls5.below (fun g hg => how5.lt hg) kd
    have how6 := how5.below (fun g hg => how5.lt hg) kd
    exact ⟨u, rfl, hls6, how6, hfr9⟩
theorem s_GetPacked (A : Option Addr) (n c : Nat) (b : List UInt8) (i d : Int) (w : World) (h : Sl w w.heap.size 1 A n c (u8s b)) (hn : n ≤ 1048576) (hi : -9223372036854775808 ≤ i ∧ i ≤ 9223372036854775807) (hd : -9223372036854775808 ≤ d ∧ d ≤ 9223372036854775807) :
    Calls Tryd.prog 7 #[.slice A n c, .int .i64 i, .int .i64 d] w fun r w' => GetRes w w' (resR (packR b i d)).1 (resP (packR b i d)) (resR (packR b i d)).2 r := by
  have hl := h.blen
  exact s_get hn (2 * b.length + 3) i d w h (Nat.le_refl _) (by omega) hi hd
end Go.Proofs.YtmelnaidjgpclaaDoor
