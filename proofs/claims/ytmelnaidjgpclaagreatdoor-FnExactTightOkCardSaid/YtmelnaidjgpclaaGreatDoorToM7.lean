/- append(row, tree) inside a region that draws its order: app_val's step. The program's reader of the compact format: elements, of a definite number. The program's reader of the compact format: elements, up to a stop. -/
import Derived.Test.YtmelnaidjgpclaaGreatDoorRowVal
import Derived.Test.YtmelnaidjgpclaaGreatDoorGr
import Derived.Test.YtmelnaidjgpclaaGreatDoorToM6
import Derived.Test.YtmelnaidjgpclaaGreatDoorToSl
import Derived.Deep.Cut
import Derived.Deep.CutBlock
import Derived.Deep.DeepCutAuto
import Derived.Deep.RegionLaw
import Derived.Deep.RegionHeld3
import Derived.BigRegion
import Derived.Deep.QuietTactic
import Derived.BigQuiet
set_option linter.unusedVariables false
set_option maxRecDepth 100000
set_option linter.unusedSimpArgs false
namespace Go.Proofs.YtmelnaidjgpclaaGreatDoor
open Go.RowKit

/-- append(row, t), t's list being of the call's own. -/
theorem step_val {ops : Array Oper} {o : Oper} {a : Act} {K : Act → World → Prop} {Q : Exit → Act → World → Prop} {E : Prop} {w : World} (hgd : o.guard = none) (s x : Operand)
    (ho : o.op = .call { callee := .builtin .append, args := #[s, x], argTypes := #[26, 26] })
    {lo : Nat} {A : Option Addr} {n c : Nat} {l : List Tr} {es : List El} {t : Tr} {u : El} (h : RV w lo A n c l es) (hs : a.eval s = .slice A n c)
    {gx : Nat} (hgx : w.heap.size = gx) (hx : a.eval x = .slice (some ⟨gx, 0, none⟩) 1 1) (hl : LsAt w t.l u) (hu : Own w lo u.fp) (hd : ∀ g ∈ u.fp, g ∉ blkOf A ∧ g ∉ elFp es) (hn : n + 1 ≤ 1099511627776) (hbase : lo ≤ w.heap.size)
    (hK : ∀ A' c' w', RV w' lo A' (n + 1) c' (l ++ [t]) (es ++ [u]) → Below lo w w' → Gr A A' (w.alloc (.cells #[.int .i64 t.k, .int .i64 t.n, .int .i64 t.x, .string t.s, .slice u.A u.n u.c] 28)) w' → K (a.put o.dst (.slice A' (n + 1) c')) w') :
    if Region.wanted o (yielded ops a.tmps) = true then Oper.wp Tryz.prog o a (w.alloc (.cells #[.int .i64 t.k, .int .i64 t.n, .int .i64 t.x, .string t.s, .slice u.A u.n u.c] 28)) K Q else E := by
  subst hgx
  obtain ⟨i0, hi, hz0, hz1, hz2⟩ := info_parts info_val
  have hb1 := Below.one w (.cells #[.int .i64 t.k, .int .i64 t.n, .int .i64 t.x, .string t.s, .slice u.A u.n u.c] 28)
  have h1 := h.below hb1
  have hsl := Sl.lit w 28 #[.int .i64 t.k, .int .i64 t.n, .int .i64 t.x, .string t.s, .slice u.A u.n u.c] 5 1 rfl (by decide) (w.heap.size + 1) (Nat.lt_succ_self _)
  refine step_append_sl _ hgd s x 26 ho lo 28 i0 (.agg #[.int .i64 0, .int .i64 0, .int .i64 0, .string ByteArray.empty, .slice none 0 0]) 5 64 Tryz.underlying26 hi hz0 hz1 hz2 rfl (by decide) (.slice A n c) n (cellsOf l es) hs h1.row _ _ 1 1 _ hx hsl (fun v hv => ?_) (by unfold maxLen; omega) (by omega) (by simp; omega) ?_
  · simp only [List.mem_cons, List.not_mem_nil, or_false] at hv
    rcases hv with rfl | rfl | rfl | rfl | rfl <;> rfl
  intro A' c' w' h2 h3 h4
  have hg := gr_of (n' := n + 1) (c' := c') h3 h4
  have hkl : ∀ g ∈ elFp es, g ∉ blkOf A := fun g hg2 hgA => h1.apart g hgA hg2
  have hbel : Below lo w w' := (hb1.mono hbase).trans (hg.fr.below (fun g hg2 => (row_lt h1.row hg2).1) (Nat.le_trans hbase hb1.size))
  refine hK A' c' w' ⟨?_, by simp [h.len], by simp [h.eslen], fun j t2 u2 a b => ?_, ?_, fun g hgA hg2 => ?_⟩ hbel hg
  · rw [cellsOf_snoc l es t u (by rw [h.len, h.eslen])]; exact h2
  · rcases Nat.lt_or_ge j n with hj | hj
    · rw [List.getElem?_append_left (by rw [h.len]; exact hj)] at a
      rw [List.getElem?_append_left (by rw [h.eslen]; exact hj)] at b
      exact (h1.kids j t2 u2 a b).fr hg.fr (fun g hg2 => h1.own.lt (elFp_mem b hg2)) (fun g hg2 => hkl g (elFp_mem b hg2))
    · have hj2 : j = n := by have := (List.getElem?_eq_some_iff.1 a).1; simp [h.len] at this; omega
      subst hj2
      rw [List.getElem?_append_right (by rw [h.len]; exact Nat.le_refl _), h.len, Nat.sub_self] at a
      rw [List.getElem?_append_right (by rw [h.eslen]; exact Nat.le_refl _), h.eslen, Nat.sub_self] at b
      simp only [List.getElem?_cons_zero, Option.some.injEq] at a b
      subst a b
      exact (hl.below (fun g hg2 => hu.lt hg2) hb1).fr hg.fr (fun g hg2 => Nat.lt_of_lt_of_le (hu.lt hg2) hb1.size) (fun g hg2 => (hd g hg2).1)
  · rw [elFp_snoc]
    exact ((h1.own.fr hg.fr hkl).app ((hu.below (fun g hg2 => hu.lt hg2) hb1).fr hg.fr (fun g hg2 => (hd g hg2).1)) fun g hg2 hg3 => (hd g hg3).2 hg2)
  · rw [elFp_snoc] at hg2
    rcases hg.own g hgA with h5 | h5
    · rcases List.mem_append.1 hg2 with h6 | h6
      · exact h1.apart g h5 h6
      · exact (hd g h6).1 h5
    · have h7 : w.heap.size < g := by simp at h5; omega
      rcases List.mem_append.1 hg2 with h6 | h6
      · have := h.own.lt h6; omega
      · have := hu.lt h6; omega
end Go.Proofs.YtmelnaidjgpclaaGreatDoor

namespace Go.Proofs.YtmelnaidjgpclaaGreatDoor
open Go.RowKit

theorem el_stepq {w w5 w6 : World} {g n c m' c' : Nat} {q : Int} {A A' : Option Addr} {b : List UInt8} {kc k mj m wd : Int} {s0 : Value} {l' : List Tr} {es' : List El} (hT5 : QR w5 g A n c b q kc) (hf5 : Fr [g] w w5) (hH5 : Blk w5 w.heap.size 36 #[.int .i64 mj, .int .i64 m, .int .i64 wd])
    (hR5 : Blk w5 (w.heap.size + 1) 28 #[.int .i64 0, .int .i64 0, .int .i64 0, .string ⟨#[]⟩, .slice none 0 0]) (hO5 : Blk w5 (w.heap.size + 2) 28 #[.int .i64 k, .int .i64 0, .int .i64 0, .string ⟨#[]⟩, s0]) (h2 : RV w6 (w.heap.size + 3) A' m' c' l' es') (h3 : Below (w.heap.size + 3) w5 w6) (hg : g < w.heap.size) (v : Value) :
    QR (w6.setCell ⟨w.heap.size + 2, 4, none⟩ v) g A n c b q kc ∧ Blk (w6.setCell ⟨w.heap.size + 2, 4, none⟩ v) w.heap.size 36 #[.int .i64 mj, .int .i64 m, .int .i64 wd] ∧ Blk (w6.setCell ⟨w.heap.size + 2, 4, none⟩ v) (w.heap.size + 1) 28 #[.int .i64 0, .int .i64 0, .int .i64 0, .string ⟨#[]⟩, .slice none 0 0] ∧ Blk (w6.setCell ⟨w.heap.size + 2, 4, none⟩ v) (w.heap.size + 2) 28 #[.int .i64 k, .int .i64 0, .int .i64 0, .string ⟨#[]⟩, v] ∧ RV (w6.setCell ⟨w.heap.size + 2, 4, none⟩ v) (w.heap.size + 3) A' m' c' l' es' ∧ Fr [g] w (w6.setCell ⟨w.heap.size + 2, 4, none⟩ v) := by
  have hT6 := hT5.below h3 (by omega)
  have hH6 := hH5.below h3 (by omega)
  have hR6 := hR5.below h3 (by omega)
  have hO6 := hO5.below h3 (by omega)
  have hF6 := fr_bel hf5 h3 (by omega)
  refine ⟨⟨hT6.blk.far (p := ⟨w.heap.size + 2, 4, none⟩) (by show g ≠ w.heap.size + 2; omega) _, hT6.sl.setCell (p := ⟨w.heap.size + 2, 4, none⟩) (by show g ≤ w.heap.size + 2; omega) _, hT6.bd⟩, hH6.far (p := ⟨w.heap.size + 2, 4, none⟩) (by show w.heap.size ≠ w.heap.size + 2; omega) _, hR6.far (p := ⟨w.heap.size + 2, 4, none⟩) (by show w.heap.size + 1 ≠ w.heap.size + 2; omega) _, ?_, ?_, ?_⟩
  · simpa using hO6.set_ 4 v
  · exact h2.frg (g := w.heap.size + 2) ((Fr.refl [w.heap.size + 2] w6).setCell (p := ⟨w.heap.size + 2, 4, none⟩) (by simp) v) (Nat.lt_succ_self _)
  · exact fr_new (q := ⟨w.heap.size + 2, 4, none⟩) hF6 (by show w.heap.size ≤ w.heap.size + 2; omega) _
set_option maxHeartbeats 8000000 in
theorem i_telems4 (g : Nat) (A : Option Addr) (n c : Nat) (b : List UInt8) (q : Nat) (mm : Nat) (wd : Int) (d : Int) (w : World) (h : QR w g A n c b q 0) (hq : q ≤ n) (hmm : mm ≤ 1000000000000000) (hw : wd ≠ -1) (hd : 1 ≤ d) (d2 : d ≤ 9223372036854775807) (F1 : Nat) (hF1 : 2 * (n - q) + 4 ≤ F1) (hV : ∀ g0, g0 < F1 → ∀ (q0 : Nat) w1, QR w1 g A n c b q0 0 → Fr [g] w w1 → q0 ≤ n → 2 * (n - q0) + 3 ≤ g0 → Calls Tryz.prog 44 #[.pointer (some ⟨g, 0, none⟩), .int .i64 (d - 1)] w1 fun r w' => ReadQ w1 w' g A n c b (tV b g0 (d - 1) q0) r) :
    Calls Tryz.prog 79 #[.pointer (some ⟨g, 0, none⟩), .agg #[.int .i64 4, .int .i64 mm, .int .i64 wd], .int .i64 d] w fun r w' => ReadQ w w' g A n c b (closeH 4 mm (tM b F1 d (mm) q [])) r := by
  have hgl := h.blk.lt
  have hbl := h.sl.blen
  have hbd := h.bd
  have k3 := Below.three w (.cells #[.int .i64 4, .int .i64 mm, .int .i64 wd] 36) (.cells #[.int .i64 0, .int .i64 0, .int .i64 0, .string ⟨#[]⟩, .slice none 0 0] 28) (.cells #[.int .i64 9, .int .i64 0, .int .i64 0, .string ⟨#[]⟩, .slice none 0 0] 28)
  have T4 := h.below k3 h.blk.lt
  have H4 : Blk (((w.alloc (.cells #[.int .i64 4, .int .i64 mm, .int .i64 wd] 36)).alloc (.cells #[.int .i64 0, .int .i64 0, .int .i64 0, .string ⟨#[]⟩, .slice none 0 0] 28)).alloc (.cells #[.int .i64 9, .int .i64 0, .int .i64 0, .string ⟨#[]⟩, .slice none 0 0] 28)) w.heap.size 36 #[.int .i64 4, .int .i64 mm, .int .i64 wd] := Blk.alloc (Blk.alloc (Blk.new w _ _) _) _
  have R4 : Blk (((w.alloc (.cells #[.int .i64 4, .int .i64 mm, .int .i64 wd] 36)).alloc (.cells #[.int .i64 0, .int .i64 0, .int .i64 0, .string ⟨#[]⟩, .slice none 0 0] 28)).alloc (.cells #[.int .i64 9, .int .i64 0, .int .i64 0, .string ⟨#[]⟩, .slice none 0 0] 28)) (w.heap.size + 1) 28 #[.int .i64 0, .int .i64 0, .int .i64 0, .string ⟨#[]⟩, .slice none 0 0] := by
    simpa using Blk.alloc (Blk.new (w.alloc (.cells #[.int .i64 4, .int .i64 mm, .int .i64 wd] 36)) 28 #[.int .i64 0, .int .i64 0, .int .i64 0, .string ⟨#[]⟩, .slice none 0 0]) (.cells #[.int .i64 9, .int .i64 0, .int .i64 0, .string ⟨#[]⟩, .slice none 0 0] 28)
  have V4 : Blk (((w.alloc (.cells #[.int .i64 4, .int .i64 mm, .int .i64 wd] 36)).alloc (.cells #[.int .i64 0, .int .i64 0, .int .i64 0, .string ⟨#[]⟩, .slice none 0 0] 28)).alloc (.cells #[.int .i64 9, .int .i64 0, .int .i64 0, .string ⟨#[]⟩, .slice none 0 0] 28)) (w.heap.size + 2) 28 #[.int .i64 9, .int .i64 0, .int .i64 0, .string ⟨#[]⟩, .slice none 0 0] := by
    simpa using Blk.new ((w.alloc (.cells #[.int .i64 4, .int .i64 mm, .int .i64 wd] 36)).alloc (.cells #[.int .i64 0, .int .i64 0, .int .i64 0, .string ⟨#[]⟩, .slice none 0 0] 28)) 28 #[.int .i64 9, .int .i64 0, .int .i64 0, .string ⟨#[]⟩, .slice none 0 0]
  have fr4 := Fr.of_below (fp := [g]) k3
  have hwn : (wd == -1) = false := by simpa using hw
  have hwn2 : (wd != -1) = true := by simpa using hw
  obtain ⟨R, hR0⟩ : ∃ R, tM b F1 d (mm) q [] = R := ⟨_, rfl⟩
  rw [hR0]
  have HR0 := Lib.hid hR0
  clear hR0
  obtain ⟨RR, hRR⟩ : ∃ RR, closeH 4 mm R = RR := ⟨_, rfl⟩
  rw [hRR]
  have HRR := Lib.hid hRR
  clear hRR
  go_enter Tryz.func79, Tryz.ntmps79
  go_upto_region 2 with fail
  generalize ((w.alloc (.cells #[.int .i64 4, .int .i64 mm, .int .i64 wd] 36)).alloc (.cells #[.int .i64 0, .int .i64 0, .int .i64 0, .string ⟨#[]⟩, .slice none 0 0] 28)).alloc (.cells #[.int .i64 9, .int .i64 0, .int .i64 0, .string ⟨#[]⟩, .slice none 0 0] 28) = wa at T4 H4 R4 V4 fr4 ⊢
  have finb : ∀ (p k : Int) (wX : World) (tm : Array Value), Blk wX (w.heap.size + 1) 28 #[.int .i64 0, .int .i64 0, .int .i64 0, .string ⟨#[]⟩, .slice none 0 0] → QR wX g A n c b p k → Fr [g] w wX → tm.getD 6 undef = .pointer (some ⟨w.heap.size + 1, 0, none⟩) → RokI RR zeroT p k →
      bodyPost Tryz.prog Tryz.f79 (fun r w' => ReadQ w w' g A n c b RR r) .ret ⟨tm, []⟩ (set5 wX (w.heap.size + 1) 0 zeroT ⟨none, 0, 0, []⟩) := by
    intro p k wX tm hB hT hf hp hRR
    have hblk : Blk (set5 wX (w.heap.size + 1) 0 zeroT ⟨none, 0, 0, []⟩) (w.heap.size + 1) 28 _ := Blk.five_ hB zeroT ⟨none, 0, 0, []⟩
    have hres := results_blk (P := Tryz.prog) (tmps := tm) Tryz.results79 Tryz.isAgg28 (by exact Tryz.sizeOf28) hp hblk
    refine bodyPost_ret hres rfl ?_
    exact ⟨zeroT, ⟨none, 0, 0, []⟩, p, k, rfl, LsAt.nil_ _ _, Own.nil_ _ _, hT.set5_ (by omega), fr_new5 hf (Nat.le_succ _), hRR⟩
  have h0 := H4.cell 0
  simp only [List.getElem?_toArray, List.getElem?_cons_succ, List.getElem?_cons_zero] at h0
  go_upto_region 4 with fail
  have T5 := T4
  have H5 := H4
  have R5 := R4
  have V5 := V4
  have fr5 := fr4
  clear T4 H4 R4 V4 fr4 h0
  have RV5 := RV.nil_ wa (w.heap.size + 3)
  go_wp2_with fail
  go_loopg [9, 10, 41, 42] mm (fun f' v9 v10 v41 v42 wr => ∃ (kx j q0 fq c' : Nat) (A' : Option Addr) (acc : List Tr) (es : List El), v9 = .int .i64 kx ∧ kx + f' = mm ∧ q0 ≤ n ∧ j ≤ q0 ∧ 2 * (n - q0) + 4 ≤ fq ∧ fq ≤ F1 ∧ Hid (tM b fq d (f') q0 acc = R) ∧ QR wr g A n c b q0 0 ∧ Blk wr w.heap.size 36 #[.int .i64 4, .int .i64 mm, .int .i64 wd] ∧ Blk wr (w.heap.size + 1) 28 #[.int .i64 0, .int .i64 0, .int .i64 0, .string ⟨#[]⟩, .slice none 0 0] ∧ Blk wr (w.heap.size + 2) 28 #[.int .i64 9, .int .i64 0, .int .i64 0, .string ⟨#[]⟩, .slice A' j c'] ∧ RV wr (w.heap.size + 3) A' j c' acc es ∧ Fr [g] w wr)
  case atStart => exact ⟨0, 0, q, F1, 0, none, [], [], rfl, by omega, hq, by omega, hF1, Nat.le_refl _, HR0, T5, H5, R5, V5, RV5, fr5⟩
  case round =>
    obtain ⟨kx, j, q0, fq, c', A', acc, es, rfl, hkf, hq0, hjq, hfq, hfqF, hP, hT, hH, hRb, hVb, hRV, hfr⟩ := hrel
    clear HR0 T5 H5 R5 V5 RV5 fr5 k3
    have h1 := hH.cell 1
    have h2 := hH.cell 2
    simp only [List.getElem?_toArray, List.getElem?_cons_succ, List.getElem?_cons_zero] at h1 h2
    by_cases hlt : kx < mm
    rotate_left
    · obtain rfl : gk = 0 := by omega
      obtain rfl : kx = mm := by omega
      obtain ⟨g0, rfl⟩ : ∃ z, fq = z + 1 := ⟨fq - 1, by omega⟩
      have hP2 := hP.out
      rw [tM] at hP2
      have HP := Lib.hid hP2
      clear hP hP2 hV
      have p0 := hVb.cell 0
      obtain ⟨fp, hls, hown, _⟩ := hRV.list hRV.cap.1 hRV.cap.2
      have hn0 : w.heap.size + 1 ∉ fp := fun hx => by have := (hown.2 _ hx).1; omega
      obtain ⟨v0, v1, v2, v3, v4⟩ := (show Blk wr (w.heap.size + 2) 28 (valCells (⟨9, 0, 0, ⟨#[]⟩, acc⟩ : Tr) ⟨A', j, c', fp⟩) from hVb).boxV
      obtain ⟨x0, x1, x2, x3, x4, ⟨s0, t0⟩, ⟨s1, t1⟩, ⟨s2, t2⟩, ⟨s3, t3⟩, s4, t4⟩ := hRb.five (o := 0) (by simp) (.int .i64 ((⟨9, 0, 0, ⟨#[]⟩, acc⟩ : Tr)).k) (.int .i64 ((⟨9, 0, 0, ⟨#[]⟩, acc⟩ : Tr)).n) (.int .i64 ((⟨9, 0, 0, ⟨#[]⟩, acc⟩ : Tr)).x) (.string ((⟨9, 0, 0, ⟨#[]⟩, acc⟩ : Tr)).s)
      clear p0
      go_wp2_with fail
      have hblk : Blk (set5 wr (w.heap.size + 1) 0 (⟨9, 0, 0, ⟨#[]⟩, acc⟩ : Tr) ⟨A', j, c', fp⟩) (w.heap.size + 1) 28 _ := Blk.five_ hRb (⟨9, 0, 0, ⟨#[]⟩, acc⟩ : Tr) ⟨A', j, c', fp⟩
      have hTR3 := hT.set5_ (g2 := w.heap.size + 1) (o := 0) (t := (⟨9, 0, 0, ⟨#[]⟩, acc⟩ : Tr)) (e := ⟨A', j, c', fp⟩) (by omega)
      have hfr3 : Fr [g] w (set5 wr (w.heap.size + 1) 0 (⟨9, 0, 0, ⟨#[]⟩, acc⟩ : Tr) ⟨A', j, c', fp⟩) := fr_new5 hfr (Nat.le_succ _)
      have hls5 := hls.set5_ (e2 := ⟨A', j, c', fp⟩) (g := w.heap.size + 1) (o := 0) (t := (⟨9, 0, 0, ⟨#[]⟩, acc⟩ : Tr)) hn0
      have how5 := (hown.mono (lo2 := w.heap.size) (by omega)).set5_ (g := w.heap.size + 1) (o := 0) (t := (⟨9, 0, 0, ⟨#[]⟩, acc⟩ : Tr)) (e := ⟨A', j, c', fp⟩) hn0
      have hres := fun (tm : Array Value) (hp : tm.getD 6 undef = .pointer (some ⟨w.heap.size + 1, 0, none⟩)) => results_blk (P := Tryz.prog) (tmps := tm) Tryz.results79 Tryz.isAgg28 (by exact Tryz.sizeOf28) hp hblk
      refine bodyPost_ret (hres _ rfl) rfl ?_
      exact ⟨(⟨9, 0, 0, ⟨#[]⟩, acc⟩ : Tr), ⟨A', j, c', fp⟩, _, 0, rfl, hls5, how5, hTR3, hfr3, by rw [← HRR.out, ← HP.out]; exact ⟨rfl, rfl, rfl⟩⟩
    obtain ⟨f0, rfl⟩ : ∃ z, gk = z + 1 := ⟨gk - 1, by omega⟩
    have hki : decide ((kx : Int) < (mm : Int)) = true := decide_eq_true (by omega)
    have hkw : IntKind.i64.wrap ((kx : Int) + 1) = (kx : Int) + 1 := by rw [IntKind.wrap_i64]; omega
    go_wp2_with fail
    go_loopg [10, 42] 1 (fun e' v10 v42 wr => ∃ (ii j q0 fq c' : Nat) (A' : Option Addr) (acc : List Tr) (es : List El), v42 = .int .i64 ii ∧ ii + e' = 1 ∧ q0 ≤ n ∧ j ≤ q0 ∧ 2 * (n - q0) + 4 ≤ fq ∧ fq ≤ F1 ∧ Hid (tM b fq d (e' + f0) q0 acc = R) ∧ QR wr g A n c b q0 0 ∧ Blk wr w.heap.size 36 #[.int .i64 4, .int .i64 mm, .int .i64 wd] ∧ Blk wr (w.heap.size + 1) 28 #[.int .i64 0, .int .i64 0, .int .i64 0, .string ⟨#[]⟩, .slice none 0 0] ∧ Blk wr (w.heap.size + 2) 28 #[.int .i64 9, .int .i64 0, .int .i64 0, .string ⟨#[]⟩, .slice A' j c'] ∧ RV wr (w.heap.size + 3) A' j c' acc es ∧ Fr [g] w wr)
    case atStart => exact ⟨0, j, q0, fq, c', A', acc, es, rfl, rfl, hq0, hjq, hfq, hfqF, Lib.hid (by rw [show 1 + f0 = f0 + 1 by omega]; exact hP.out), hT, hH, hRb, hVb, hRV, hfr⟩
    case round =>
      clear hT hH hRb hVb hRV hfr hP hq0 hjq hfq hfqF h1 h2
      have hkf0 := trivial
      obtain ⟨ii, j, q0, fq, c', A', acc, es, rfl, hie, hq0, hjq, hfq, hfqF, hP, hT, hH, hRb, hVb, hRV, hfr⟩ := hrel
      by_cases hlt2 : ii < 1
      rotate_left
      · obtain rfl : gk = 0 := by omega
        obtain rfl : ii = 1 := by omega
        go_wp2_with fail
        go_roundg f0
        case measure => omega
        case rel => exact ⟨kx + 1, j, q0, fq, c', A', acc, es, by go_num, by omega, hq0, hjq, hfq, hfqF, Lib.hid (by have := hP.out; rw [Nat.zero_add] at this; exact this), hT, hH, hRb, hVb, hRV, hfr⟩
      obtain ⟨e0, rfl⟩ : ∃ z, gk = z + 1 := ⟨gk - 1, by omega⟩
      obtain ⟨g0, rfl⟩ : ∃ z, fq = z + 1 := ⟨fq - 1, by omega⟩
      have hk1 : IntKind.i64.wrap (d - 1) = d - 1 := by rw [IntKind.wrap_i64]; omega
      have hii : decide ((ii : Int) < 1) = true := decide_eq_true (by omega)
      have hiw : IntKind.i64.wrap ((ii : Int) + 1) = (ii : Int) + 1 := by rw [IntKind.wrap_i64]; omega
      have h2 := hH.cell 2
      simp only [List.getElem?_toArray, List.getElem?_cons_succ, List.getElem?_cons_zero] at h2
      obtain rfl : ii = 0 := by omega
      have hP2 := hP.out
      rw [show e0 + 1 + f0 = (e0 + f0) + 1 by omega, tM] at hP2
      have HV := hV g0 (by omega) q0 wr.drew ⟨hT.blk, hT.sl.drew, hT.bd⟩ hfr.drew hq0 (by omega)
      obtain ⟨X, hX⟩ : ∃ X, tV b g0 (d - 1) q0 = X := ⟨_, rfl⟩
      rw [hX] at HV hP2
      have hXg : ∀ v q', X = .good v q' → q0 < q' ∧ q' ≤ n := fun v q' he => by have := ((tVM_good (b := b) (by omega) g0).1 _ _ _ _ (hX.trans he)).2; have h1 := this.lt; have h2 := this.le; rw [Int.toNat_natCast] at h1; omega
      clear hX hP
      have hRVd := hRV.below (Below.refl _ wr).drew
      have hcz : w.heap.size + 3 ≤ wr.heap.size := hVb.lt
      have p4 := hVb.cell 4
      simp only [List.getElem?_toArray, List.getElem?_cons_succ, List.getElem?_cons_zero] at p4
      go_upto_region 14 with fail
      go_cut [42] from 42 to 73 (fun s42 w' => s42 = .int .i64 ((0 : Nat) : Int) ∧ ∃ (t : Tr) (u : El) (p' kc : Int) (c3 : Nat) (A3 : Option Addr), RokI X t p' kc ∧ QR w' g A n c b p' kc ∧ Blk w' w.heap.size 36 #[.int .i64 4, .int .i64 mm, .int .i64 wd] ∧ Blk w' (w.heap.size + 1) 28 #[.int .i64 0, .int .i64 0, .int .i64 0, .string ⟨#[]⟩, .slice none 0 0] ∧ Blk w' (w.heap.size + 2) 28 #[.int .i64 9, .int .i64 0, .int .i64 0, .string ⟨#[]⟩, .slice A3 (j + 1) c3] ∧ RV w' (w.heap.size + 3) A3 (j + 1) c3 (acc ++ [t]) (es ++ [u]) ∧ Fr [g] w w')
      case first =>
        clear hP2 hXg hV
        go_region_law (first
          | (go_simp; go_at_call 44; refine HV.mono ?_; rintro r w5 ⟨t, u, p', kc, rfl, hl5, ho5, hT5, hf5, hok⟩; have hO5 := Blk.ofFr (w := wr.drew) hVb hf5 (by omega); have hR5 := Blk.ofFr (w := wr.drew) hRb hf5 (by omega); have hH5 := Blk.ofFr (w := wr.drew) hH hf5 (by omega); have p5 : w5.cell? ⟨w.heap.size + 2, 4, none⟩ = some (.slice A' j c') := Blk.cell (cs := #[.int .i64 9, .int .i64 0, .int .i64 0, .string ⟨#[]⟩, .slice A' j c']) hO5 4; have p6 : (w5.alloc (.cells (valCells t u) 28)).cell? ⟨w.heap.size + 2, 4, none⟩ = some (.slice A' j c') := Blk.cell (cs := #[.int .i64 9, .int .i64 0, .int .i64 0, .string ⟨#[]⟩, .slice A' j c']) (Blk.alloc hO5 _) 4)
          | (refine step_val rfl (.tmp 59) (.tmp 64) rfl (hRVd.frg hf5 (by omega)) (by simp [Act.eval, Act.put]) rfl (by simp [Act.eval, Act.put]) hl5 (ho5.mono hcz) (hRVd.newOwn ho5) (by omega) (Nat.le_trans hcz hf5.size) ?_; intro A3 c3 w6 h6 hb6 hg6; have hO6 := hO5.below hb6 (by omega); have p7 := hO6.cell 4; have f7 := hO6.frozen 4; simp only [List.getElem?_toArray, List.getElem?_cons_succ, List.getElem?_cons_zero] at p7; obtain ⟨hE1, hE2, hE3, hE4, hE5, hE6⟩ := el_stepq hT5 (hfr.drew.trans hf5) hH5 hR5 hO5 h6 hb6 hgl (.slice A3 (j + 1) c3)))
        all_goals
          go_wp2_with fail
          go_meet
          case rel => exact ⟨rfl, t, u, p', kc, c3, A3, hok, hE1, hE2, hE3, hE4, hE5, hE6⟩
      case rest =>
        obtain ⟨rfl, t, u, p', kc, c3, A3, hok, hT3, hH3, hR3, hV3, hRV3, hfr3⟩ := hcut
        clear hT hH hRb hVb hRV hfr HV hRVd hcz p4 h2
        obtain ⟨c0, c1, c2⟩ := hT3.cells
        cases X with
        | bad cx =>
          obtain ⟨hkc, hcx⟩ := hok
          subst hkc
          have hcb : (kc != 0) = true := by simpa using hcx
          have HP := Lib.hid hP2
          clear hP2 hXg
          obtain ⟨x0, x1, x2, x3, x4, ⟨s0, t0⟩, ⟨s1, t1⟩, ⟨s2, t2⟩, ⟨s3, t3⟩, s4, t4⟩ := hR3.five (o := 0) (by simp) (.int .i64 (zeroT).k) (.int .i64 (zeroT).n) (.int .i64 (zeroT).x) (.string (zeroT).s)
          simp only [leafTr, zeroT] at s0 s1 s2 s3 s4 t0 t1 t2 t3 t4
          go_wp2_with fail
          exact finb _ _ wc _ hR3 hT3 hfr3 rfl (by rw [← HRR.out, ← HP.out]; exact ⟨rfl, hcx⟩)
        | good v q' =>
          obtain ⟨rfl, rfl, rfl⟩ := hok
          obtain ⟨hqa, hqb⟩ := hXg t q' rfl
          have HP : Hid (tM b g0 d (e0 + f0) q' (acc ++ [t]) = R) := Lib.hid hP2
          clear hP2 hXg
          go_wp2_with fail
          go_roundg e0
          case measure => omega
          case rel => exact ⟨0 + 1, j + 1, q', g0, c3, A3, acc ++ [t], es ++ [u], by go_num, by omega, by omega, by omega, by omega, by omega, HP, hT3, hH3, hR3, hV3, hRV3, hfr3⟩
set_option maxHeartbeats 8000000 in
theorem i_telems5 (g : Nat) (A : Option Addr) (n c : Nat) (b : List UInt8) (q : Nat) (mm : Nat) (wd : Int) (d : Int) (w : World) (h : QR w g A n c b q 0) (hq : q ≤ n) (hmm : mm ≤ 1000000000000000) (hw : wd ≠ -1) (hd : 1 ≤ d) (d2 : d ≤ 9223372036854775807) (F1 : Nat) (hF1 : 2 * (n - q) + 4 ≤ F1) (hV : ∀ g0, g0 < F1 → ∀ (q0 : Nat) w1, QR w1 g A n c b q0 0 → Fr [g] w w1 → q0 ≤ n → 2 * (n - q0) + 3 ≤ g0 → Calls Tryz.prog 44 #[.pointer (some ⟨g, 0, none⟩), .int .i64 (d - 1)] w1 fun r w' => ReadQ w1 w' g A n c b (tV b g0 (d - 1) q0) r) :
    Calls Tryz.prog 79 #[.pointer (some ⟨g, 0, none⟩), .agg #[.int .i64 5, .int .i64 mm, .int .i64 wd], .int .i64 d] w fun r w' => ReadQ w w' g A n c b (closeH 5 mm (tM b F1 d (2 * mm) q [])) r := by
  have hgl := h.blk.lt
  have hbl := h.sl.blen
  have hbd := h.bd
  have k3 := Below.three w (.cells #[.int .i64 5, .int .i64 mm, .int .i64 wd] 36) (.cells #[.int .i64 0, .int .i64 0, .int .i64 0, .string ⟨#[]⟩, .slice none 0 0] 28) (.cells #[.int .i64 9, .int .i64 0, .int .i64 0, .string ⟨#[]⟩, .slice none 0 0] 28)
  have T4 := h.below k3 h.blk.lt
  have H4 : Blk (((w.alloc (.cells #[.int .i64 5, .int .i64 mm, .int .i64 wd] 36)).alloc (.cells #[.int .i64 0, .int .i64 0, .int .i64 0, .string ⟨#[]⟩, .slice none 0 0] 28)).alloc (.cells #[.int .i64 9, .int .i64 0, .int .i64 0, .string ⟨#[]⟩, .slice none 0 0] 28)) w.heap.size 36 #[.int .i64 5, .int .i64 mm, .int .i64 wd] := Blk.alloc (Blk.alloc (Blk.new w _ _) _) _
  have R4 : Blk (((w.alloc (.cells #[.int .i64 5, .int .i64 mm, .int .i64 wd] 36)).alloc (.cells #[.int .i64 0, .int .i64 0, .int .i64 0, .string ⟨#[]⟩, .slice none 0 0] 28)).alloc (.cells #[.int .i64 9, .int .i64 0, .int .i64 0, .string ⟨#[]⟩, .slice none 0 0] 28)) (w.heap.size + 1) 28 #[.int .i64 0, .int .i64 0, .int .i64 0, .string ⟨#[]⟩, .slice none 0 0] := by
    simpa using Blk.alloc (Blk.new (w.alloc (.cells #[.int .i64 5, .int .i64 mm, .int .i64 wd] 36)) 28 #[.int .i64 0, .int .i64 0, .int .i64 0, .string ⟨#[]⟩, .slice none 0 0]) (.cells #[.int .i64 9, .int .i64 0, .int .i64 0, .string ⟨#[]⟩, .slice none 0 0] 28)
  have V4 : Blk (((w.alloc (.cells #[.int .i64 5, .int .i64 mm, .int .i64 wd] 36)).alloc (.cells #[.int .i64 0, .int .i64 0, .int .i64 0, .string ⟨#[]⟩, .slice none 0 0] 28)).alloc (.cells #[.int .i64 9, .int .i64 0, .int .i64 0, .string ⟨#[]⟩, .slice none 0 0] 28)) (w.heap.size + 2) 28 #[.int .i64 9, .int .i64 0, .int .i64 0, .string ⟨#[]⟩, .slice none 0 0] := by
    simpa using Blk.new ((w.alloc (.cells #[.int .i64 5, .int .i64 mm, .int .i64 wd] 36)).alloc (.cells #[.int .i64 0, .int .i64 0, .int .i64 0, .string ⟨#[]⟩, .slice none 0 0] 28)) 28 #[.int .i64 9, .int .i64 0, .int .i64 0, .string ⟨#[]⟩, .slice none 0 0]
  have fr4 := Fr.of_below (fp := [g]) k3
  have hwn : (wd == -1) = false := by simpa using hw
  have hwn2 : (wd != -1) = true := by simpa using hw
  obtain ⟨R, hR0⟩ : ∃ R, tM b F1 d (2 * mm) q [] = R := ⟨_, rfl⟩
  rw [hR0]
  have HR0 := Lib.hid hR0
  clear hR0
  obtain ⟨RR, hRR⟩ : ∃ RR, closeH 5 mm R = RR := ⟨_, rfl⟩
  rw [hRR]
  have HRR := Lib.hid hRR
  clear hRR
  go_enter Tryz.func79, Tryz.ntmps79
  go_upto_region 2 with fail
  generalize ((w.alloc (.cells #[.int .i64 5, .int .i64 mm, .int .i64 wd] 36)).alloc (.cells #[.int .i64 0, .int .i64 0, .int .i64 0, .string ⟨#[]⟩, .slice none 0 0] 28)).alloc (.cells #[.int .i64 9, .int .i64 0, .int .i64 0, .string ⟨#[]⟩, .slice none 0 0] 28) = wa at T4 H4 R4 V4 fr4 ⊢
  have finb : ∀ (p k : Int) (wX : World) (tm : Array Value), Blk wX (w.heap.size + 1) 28 #[.int .i64 0, .int .i64 0, .int .i64 0, .string ⟨#[]⟩, .slice none 0 0] → QR wX g A n c b p k → Fr [g] w wX → tm.getD 6 undef = .pointer (some ⟨w.heap.size + 1, 0, none⟩) → RokI RR zeroT p k →
      bodyPost Tryz.prog Tryz.f79 (fun r w' => ReadQ w w' g A n c b RR r) .ret ⟨tm, []⟩ (set5 wX (w.heap.size + 1) 0 zeroT ⟨none, 0, 0, []⟩) := by
    intro p k wX tm hB hT hf hp hRR
    have hblk : Blk (set5 wX (w.heap.size + 1) 0 zeroT ⟨none, 0, 0, []⟩) (w.heap.size + 1) 28 _ := Blk.five_ hB zeroT ⟨none, 0, 0, []⟩
    have hres := results_blk (P := Tryz.prog) (tmps := tm) Tryz.results79 Tryz.isAgg28 (by exact Tryz.sizeOf28) hp hblk
    refine bodyPost_ret hres rfl ?_
    exact ⟨zeroT, ⟨none, 0, 0, []⟩, p, k, rfl, LsAt.nil_ _ _, Own.nil_ _ _, hT.set5_ (by omega), fr_new5 hf (Nat.le_succ _), hRR⟩
  have h0 := H4.cell 0
  simp only [List.getElem?_toArray, List.getElem?_cons_succ, List.getElem?_cons_zero] at h0
  have p0 := V4.cell 0
  have f0 := V4.frozen 0
  simp only [List.getElem?_toArray, List.getElem?_cons_succ, List.getElem?_cons_zero] at p0
  go_upto_region 4 with fail
  have T5 : QR (wa.setCell ⟨w.heap.size + 2, 0, none⟩ (.int .i64 10)) g A n c b q 0 := ⟨T4.blk.far (p := ⟨w.heap.size + 2, 0, none⟩) (by show g ≠ w.heap.size + 2; omega) _, T4.sl.setCell (p := ⟨w.heap.size + 2, 0, none⟩) (by show g ≤ w.heap.size + 2; omega) _, T4.bd⟩
  have H5 := H4.far (p := ⟨w.heap.size + 2, 0, none⟩) (by show w.heap.size ≠ w.heap.size + 2; omega) (.int .i64 10)
  have R5 := R4.far (p := ⟨w.heap.size + 2, 0, none⟩) (by show w.heap.size + 1 ≠ w.heap.size + 2; omega) (.int .i64 10)
  have V5 : Blk (wa.setCell ⟨w.heap.size + 2, 0, none⟩ (.int .i64 10)) (w.heap.size + 2) 28 #[.int .i64 10, .int .i64 0, .int .i64 0, .string ⟨#[]⟩, .slice none 0 0] := by simpa using V4.set_ 0 (.int .i64 10)
  have fr5 : Fr [g] w (wa.setCell ⟨w.heap.size + 2, 0, none⟩ (.int .i64 10)) := fr_new (q := ⟨w.heap.size + 2, 0, none⟩) fr4 (by show w.heap.size ≤ w.heap.size + 2; omega) _
  generalize wa.setCell ⟨w.heap.size + 2, 0, none⟩ (.int .i64 10) = wb at T5 H5 R5 V5 fr5 ⊢
  clear T4 H4 R4 V4 fr4 p0 f0 h0
  have RV5 := RV.nil_ wb (w.heap.size + 3)
  go_wp2_with fail
  go_loopg [9, 10, 41, 42] mm (fun f' v9 v10 v41 v42 wr => ∃ (kx j q0 fq c' : Nat) (A' : Option Addr) (acc : List Tr) (es : List El), v9 = .int .i64 kx ∧ kx + f' = mm ∧ q0 ≤ n ∧ j ≤ q0 ∧ 2 * (n - q0) + 4 ≤ fq ∧ fq ≤ F1 ∧ Hid (tM b fq d (2 * f') q0 acc = R) ∧ QR wr g A n c b q0 0 ∧ Blk wr w.heap.size 36 #[.int .i64 5, .int .i64 mm, .int .i64 wd] ∧ Blk wr (w.heap.size + 1) 28 #[.int .i64 0, .int .i64 0, .int .i64 0, .string ⟨#[]⟩, .slice none 0 0] ∧ Blk wr (w.heap.size + 2) 28 #[.int .i64 10, .int .i64 0, .int .i64 0, .string ⟨#[]⟩, .slice A' j c'] ∧ RV wr (w.heap.size + 3) A' j c' acc es ∧ Fr [g] w wr)
  case atStart => exact ⟨0, 0, q, F1, 0, none, [], [], rfl, by omega, hq, by omega, hF1, Nat.le_refl _, HR0, T5, H5, R5, V5, RV5, fr5⟩
  case round =>
    obtain ⟨kx, j, q0, fq, c', A', acc, es, rfl, hkf, hq0, hjq, hfq, hfqF, hP, hT, hH, hRb, hVb, hRV, hfr⟩ := hrel
    clear HR0 T5 H5 R5 V5 RV5 fr5 k3
    have h1 := hH.cell 1
    have h2 := hH.cell 2
    simp only [List.getElem?_toArray, List.getElem?_cons_succ, List.getElem?_cons_zero] at h1 h2
    by_cases hlt : kx < mm
    rotate_left
    · obtain rfl : gk = 0 := by omega
      obtain rfl : kx = mm := by omega
      obtain ⟨g0, rfl⟩ : ∃ z, fq = z + 1 := ⟨fq - 1, by omega⟩
      have hP2 := hP.out
      rw [Nat.mul_zero, tM] at hP2
      have HP := Lib.hid hP2
      clear hP hP2 hV
      have p0 := hVb.cell 0
      obtain ⟨fp, hls, hown, _⟩ := hRV.list hRV.cap.1 hRV.cap.2
      have hn0 : w.heap.size + 1 ∉ fp := fun hx => by have := (hown.2 _ hx).1; omega
      obtain ⟨v0, v1, v2, v3, v4⟩ := (show Blk wr (w.heap.size + 2) 28 (valCells (⟨10, 0, 0, ⟨#[]⟩, acc⟩ : Tr) ⟨A', j, c', fp⟩) from hVb).boxV
      obtain ⟨x0, x1, x2, x3, x4, ⟨s0, t0⟩, ⟨s1, t1⟩, ⟨s2, t2⟩, ⟨s3, t3⟩, s4, t4⟩ := hRb.five (o := 0) (by simp) (.int .i64 ((⟨10, 0, 0, ⟨#[]⟩, acc⟩ : Tr)).k) (.int .i64 ((⟨10, 0, 0, ⟨#[]⟩, acc⟩ : Tr)).n) (.int .i64 ((⟨10, 0, 0, ⟨#[]⟩, acc⟩ : Tr)).x) (.string ((⟨10, 0, 0, ⟨#[]⟩, acc⟩ : Tr)).s)
      clear p0
      go_wp2_with fail
      have hblk : Blk (set5 wr (w.heap.size + 1) 0 (⟨10, 0, 0, ⟨#[]⟩, acc⟩ : Tr) ⟨A', j, c', fp⟩) (w.heap.size + 1) 28 _ := Blk.five_ hRb (⟨10, 0, 0, ⟨#[]⟩, acc⟩ : Tr) ⟨A', j, c', fp⟩
      have hTR3 := hT.set5_ (g2 := w.heap.size + 1) (o := 0) (t := (⟨10, 0, 0, ⟨#[]⟩, acc⟩ : Tr)) (e := ⟨A', j, c', fp⟩) (by omega)
      have hfr3 : Fr [g] w (set5 wr (w.heap.size + 1) 0 (⟨10, 0, 0, ⟨#[]⟩, acc⟩ : Tr) ⟨A', j, c', fp⟩) := fr_new5 hfr (Nat.le_succ _)
      have hls5 := hls.set5_ (e2 := ⟨A', j, c', fp⟩) (g := w.heap.size + 1) (o := 0) (t := (⟨10, 0, 0, ⟨#[]⟩, acc⟩ : Tr)) hn0
      have how5 := (hown.mono (lo2 := w.heap.size) (by omega)).set5_ (g := w.heap.size + 1) (o := 0) (t := (⟨10, 0, 0, ⟨#[]⟩, acc⟩ : Tr)) (e := ⟨A', j, c', fp⟩) hn0
      have hres := fun (tm : Array Value) (hp : tm.getD 6 undef = .pointer (some ⟨w.heap.size + 1, 0, none⟩)) => results_blk (P := Tryz.prog) (tmps := tm) Tryz.results79 Tryz.isAgg28 (by exact Tryz.sizeOf28) hp hblk
      refine bodyPost_ret (hres _ rfl) rfl ?_
      exact ⟨(⟨10, 0, 0, ⟨#[]⟩, acc⟩ : Tr), ⟨A', j, c', fp⟩, _, 0, rfl, hls5, how5, hTR3, hfr3, by rw [← HRR.out, ← HP.out]; exact ⟨rfl, rfl, rfl⟩⟩
    obtain ⟨f0, rfl⟩ : ∃ z, gk = z + 1 := ⟨gk - 1, by omega⟩
    have hki : decide ((kx : Int) < (mm : Int)) = true := decide_eq_true (by omega)
    have hkw : IntKind.i64.wrap ((kx : Int) + 1) = (kx : Int) + 1 := by rw [IntKind.wrap_i64]; omega
    go_wp2_with fail
    go_loopg [10, 42] 2 (fun e' v10 v42 wr => ∃ (ii j q0 fq c' : Nat) (A' : Option Addr) (acc : List Tr) (es : List El), v42 = .int .i64 ii ∧ ii + e' = 2 ∧ q0 ≤ n ∧ j ≤ q0 ∧ 2 * (n - q0) + 4 ≤ fq ∧ fq ≤ F1 ∧ Hid (tM b fq d (e' + 2 * f0) q0 acc = R) ∧ QR wr g A n c b q0 0 ∧ Blk wr w.heap.size 36 #[.int .i64 5, .int .i64 mm, .int .i64 wd] ∧ Blk wr (w.heap.size + 1) 28 #[.int .i64 0, .int .i64 0, .int .i64 0, .string ⟨#[]⟩, .slice none 0 0] ∧ Blk wr (w.heap.size + 2) 28 #[.int .i64 10, .int .i64 0, .int .i64 0, .string ⟨#[]⟩, .slice A' j c'] ∧ RV wr (w.heap.size + 3) A' j c' acc es ∧ Fr [g] w wr)
    case atStart => exact ⟨0, j, q0, fq, c', A', acc, es, rfl, rfl, hq0, hjq, hfq, hfqF, Lib.hid (by rw [show 2 + 2 * f0 = 2 * (f0 + 1) by omega]; exact hP.out), hT, hH, hRb, hVb, hRV, hfr⟩
    case round =>
      clear hT hH hRb hVb hRV hfr hP hq0 hjq hfq hfqF h1 h2
      have hkf0 := trivial
      obtain ⟨ii, j, q0, fq, c', A', acc, es, rfl, hie, hq0, hjq, hfq, hfqF, hP, hT, hH, hRb, hVb, hRV, hfr⟩ := hrel
      by_cases hlt2 : ii < 2
      rotate_left
      · obtain rfl : gk = 0 := by omega
        obtain rfl : ii = 2 := by omega
        go_wp2_with fail
        go_roundg f0
        case measure => omega
        case rel => exact ⟨kx + 1, j, q0, fq, c', A', acc, es, by go_num, by omega, hq0, hjq, hfq, hfqF, Lib.hid (by have := hP.out; rw [Nat.zero_add] at this; exact this), hT, hH, hRb, hVb, hRV, hfr⟩
      obtain ⟨e0, rfl⟩ : ∃ z, gk = z + 1 := ⟨gk - 1, by omega⟩
      obtain ⟨g0, rfl⟩ : ∃ z, fq = z + 1 := ⟨fq - 1, by omega⟩
      have hk1 : IntKind.i64.wrap (d - 1) = d - 1 := by rw [IntKind.wrap_i64]; omega
      have hii : decide ((ii : Int) < 2) = true := decide_eq_true (by omega)
      have hiw : IntKind.i64.wrap ((ii : Int) + 1) = (ii : Int) + 1 := by rw [IntKind.wrap_i64]; omega
      have h2 := hH.cell 2
      simp only [List.getElem?_toArray, List.getElem?_cons_succ, List.getElem?_cons_zero] at h2
      rcases (show ii = 0 ∨ ii = 1 by omega) with rfl | rfl
      · have hP2 := hP.out
        rw [show e0 + 1 + 2 * f0 = (e0 + 2 * f0) + 1 by omega, tM] at hP2
        have HV := hV g0 (by omega) q0 wr.drew ⟨hT.blk, hT.sl.drew, hT.bd⟩ hfr.drew hq0 (by omega)
        obtain ⟨X, hX⟩ : ∃ X, tV b g0 (d - 1) q0 = X := ⟨_, rfl⟩
        rw [hX] at HV hP2
        have hXg : ∀ v q', X = .good v q' → q0 < q' ∧ q' ≤ n := fun v q' he => by have := ((tVM_good (b := b) (by omega) g0).1 _ _ _ _ (hX.trans he)).2; have h1 := this.lt; have h2 := this.le; rw [Int.toNat_natCast] at h1; omega
        clear hX hP
        have hRVd := hRV.below (Below.refl _ wr).drew
        have hcz : w.heap.size + 3 ≤ wr.heap.size := hVb.lt
        have p4 := hVb.cell 4
        simp only [List.getElem?_toArray, List.getElem?_cons_succ, List.getElem?_cons_zero] at p4
        go_upto_region 14 with fail
        go_cut [42] from 42 to 73 (fun s42 w' => s42 = .int .i64 ((0 : Nat) : Int) ∧ ∃ (t : Tr) (u : El) (p' kc : Int) (c3 : Nat) (A3 : Option Addr), RokI X t p' kc ∧ QR w' g A n c b p' kc ∧ Blk w' w.heap.size 36 #[.int .i64 5, .int .i64 mm, .int .i64 wd] ∧ Blk w' (w.heap.size + 1) 28 #[.int .i64 0, .int .i64 0, .int .i64 0, .string ⟨#[]⟩, .slice none 0 0] ∧ Blk w' (w.heap.size + 2) 28 #[.int .i64 10, .int .i64 0, .int .i64 0, .string ⟨#[]⟩, .slice A3 (j + 1) c3] ∧ RV w' (w.heap.size + 3) A3 (j + 1) c3 (acc ++ [t]) (es ++ [u]) ∧ Fr [g] w w')
        case first =>
          clear hP2 hXg hV
          go_region_law (first
            | (go_simp; go_at_call 44; refine HV.mono ?_; rintro r w5 ⟨t, u, p', kc, rfl, hl5, ho5, hT5, hf5, hok⟩; have hO5 := Blk.ofFr (w := wr.drew) hVb hf5 (by omega); have hR5 := Blk.ofFr (w := wr.drew) hRb hf5 (by omega); have hH5 := Blk.ofFr (w := wr.drew) hH hf5 (by omega); have p5 : w5.cell? ⟨w.heap.size + 2, 4, none⟩ = some (.slice A' j c') := Blk.cell (cs := #[.int .i64 10, .int .i64 0, .int .i64 0, .string ⟨#[]⟩, .slice A' j c']) hO5 4; have p6 : (w5.alloc (.cells (valCells t u) 28)).cell? ⟨w.heap.size + 2, 4, none⟩ = some (.slice A' j c') := Blk.cell (cs := #[.int .i64 10, .int .i64 0, .int .i64 0, .string ⟨#[]⟩, .slice A' j c']) (Blk.alloc hO5 _) 4)
            | (refine step_val rfl (.tmp 59) (.tmp 64) rfl (hRVd.frg hf5 (by omega)) (by simp [Act.eval, Act.put]) rfl (by simp [Act.eval, Act.put]) hl5 (ho5.mono hcz) (hRVd.newOwn ho5) (by omega) (Nat.le_trans hcz hf5.size) ?_; intro A3 c3 w6 h6 hb6 hg6; have hO6 := hO5.below hb6 (by omega); have p7 := hO6.cell 4; have f7 := hO6.frozen 4; simp only [List.getElem?_toArray, List.getElem?_cons_succ, List.getElem?_cons_zero] at p7; obtain ⟨hE1, hE2, hE3, hE4, hE5, hE6⟩ := el_stepq hT5 (hfr.drew.trans hf5) hH5 hR5 hO5 h6 hb6 hgl (.slice A3 (j + 1) c3)))
          all_goals
            go_wp2_with fail
            go_meet
            case rel => exact ⟨rfl, t, u, p', kc, c3, A3, hok, hE1, hE2, hE3, hE4, hE5, hE6⟩
        case rest =>
          obtain ⟨rfl, t, u, p', kc, c3, A3, hok, hT3, hH3, hR3, hV3, hRV3, hfr3⟩ := hcut
          clear hT hH hRb hVb hRV hfr HV hRVd hcz p4 h2
          obtain ⟨c0, c1, c2⟩ := hT3.cells
          cases X with
          | bad cx =>
            obtain ⟨hkc, hcx⟩ := hok
            subst hkc
            have hcb : (kc != 0) = true := by simpa using hcx
            have HP := Lib.hid hP2
            clear hP2 hXg
            obtain ⟨x0, x1, x2, x3, x4, ⟨s0, t0⟩, ⟨s1, t1⟩, ⟨s2, t2⟩, ⟨s3, t3⟩, s4, t4⟩ := hR3.five (o := 0) (by simp) (.int .i64 (zeroT).k) (.int .i64 (zeroT).n) (.int .i64 (zeroT).x) (.string (zeroT).s)
            simp only [leafTr, zeroT] at s0 s1 s2 s3 s4 t0 t1 t2 t3 t4
            go_wp2_with fail
            exact finb _ _ wc _ hR3 hT3 hfr3 rfl (by rw [← HRR.out, ← HP.out]; exact ⟨rfl, hcx⟩)
          | good v q' =>
            obtain ⟨rfl, rfl, rfl⟩ := hok
            obtain ⟨hqa, hqb⟩ := hXg t q' rfl
            have HP : Hid (tM b g0 d (e0 + 2 * f0) q' (acc ++ [t]) = R) := Lib.hid hP2
            clear hP2 hXg
            go_wp2_with fail
            go_roundg e0
            case measure => omega
            case rel => exact ⟨0 + 1, j + 1, q', g0, c3, A3, acc ++ [t], es ++ [u], by go_num, by omega, by omega, by omega, by omega, by omega, HP, hT3, hH3, hR3, hV3, hRV3, hfr3⟩
      · have hP2 := hP.out
        rw [show e0 + 1 + 2 * f0 = (e0 + 2 * f0) + 1 by omega, tM] at hP2
        have HV := hV g0 (by omega) q0 wr.drew ⟨hT.blk, hT.sl.drew, hT.bd⟩ hfr.drew hq0 (by omega)
        obtain ⟨X, hX⟩ : ∃ X, tV b g0 (d - 1) q0 = X := ⟨_, rfl⟩
        rw [hX] at HV hP2
        have hXg : ∀ v q', X = .good v q' → q0 < q' ∧ q' ≤ n := fun v q' he => by have := ((tVM_good (b := b) (by omega) g0).1 _ _ _ _ (hX.trans he)).2; have h1 := this.lt; have h2 := this.le; rw [Int.toNat_natCast] at h1; omega
        clear hX hP
        have hRVd := hRV.below (Below.refl _ wr).drew
        have hcz : w.heap.size + 3 ≤ wr.heap.size := hVb.lt
        have p4 := hVb.cell 4
        simp only [List.getElem?_toArray, List.getElem?_cons_succ, List.getElem?_cons_zero] at p4
        go_upto_region 14 with fail
        go_cut [42] from 42 to 73 (fun s42 w' => s42 = .int .i64 ((1 : Nat) : Int) ∧ ∃ (t : Tr) (u : El) (p' kc : Int) (c3 : Nat) (A3 : Option Addr), RokI X t p' kc ∧ QR w' g A n c b p' kc ∧ Blk w' w.heap.size 36 #[.int .i64 5, .int .i64 mm, .int .i64 wd] ∧ Blk w' (w.heap.size + 1) 28 #[.int .i64 0, .int .i64 0, .int .i64 0, .string ⟨#[]⟩, .slice none 0 0] ∧ Blk w' (w.heap.size + 2) 28 #[.int .i64 10, .int .i64 0, .int .i64 0, .string ⟨#[]⟩, .slice A3 (j + 1) c3] ∧ RV w' (w.heap.size + 3) A3 (j + 1) c3 (acc ++ [t]) (es ++ [u]) ∧ Fr [g] w w')
        case first =>
          clear hP2 hXg hV
          go_region_law (first
            | (go_simp; go_at_call 44; refine HV.mono ?_; rintro r w5 ⟨t, u, p', kc, rfl, hl5, ho5, hT5, hf5, hok⟩; have hO5 := Blk.ofFr (w := wr.drew) hVb hf5 (by omega); have hR5 := Blk.ofFr (w := wr.drew) hRb hf5 (by omega); have hH5 := Blk.ofFr (w := wr.drew) hH hf5 (by omega); have p5 : w5.cell? ⟨w.heap.size + 2, 4, none⟩ = some (.slice A' j c') := Blk.cell (cs := #[.int .i64 10, .int .i64 0, .int .i64 0, .string ⟨#[]⟩, .slice A' j c']) hO5 4; have p6 : (w5.alloc (.cells (valCells t u) 28)).cell? ⟨w.heap.size + 2, 4, none⟩ = some (.slice A' j c') := Blk.cell (cs := #[.int .i64 10, .int .i64 0, .int .i64 0, .string ⟨#[]⟩, .slice A' j c']) (Blk.alloc hO5 _) 4)
            | (refine step_val rfl (.tmp 59) (.tmp 64) rfl (hRVd.frg hf5 (by omega)) (by simp [Act.eval, Act.put]) rfl (by simp [Act.eval, Act.put]) hl5 (ho5.mono hcz) (hRVd.newOwn ho5) (by omega) (Nat.le_trans hcz hf5.size) ?_; intro A3 c3 w6 h6 hb6 hg6; have hO6 := hO5.below hb6 (by omega); have p7 := hO6.cell 4; have f7 := hO6.frozen 4; simp only [List.getElem?_toArray, List.getElem?_cons_succ, List.getElem?_cons_zero] at p7; obtain ⟨hE1, hE2, hE3, hE4, hE5, hE6⟩ := el_stepq hT5 (hfr.drew.trans hf5) hH5 hR5 hO5 h6 hb6 hgl (.slice A3 (j + 1) c3)))
          all_goals
            go_wp2_with fail
            go_meet
            case rel => exact ⟨rfl, t, u, p', kc, c3, A3, hok, hE1, hE2, hE3, hE4, hE5, hE6⟩
        case rest =>
          obtain ⟨rfl, t, u, p', kc, c3, A3, hok, hT3, hH3, hR3, hV3, hRV3, hfr3⟩ := hcut
          clear hT hH hRb hVb hRV hfr HV hRVd hcz p4 h2
          obtain ⟨c0, c1, c2⟩ := hT3.cells
          cases X with
          | bad cx =>
            obtain ⟨hkc, hcx⟩ := hok
            subst hkc
            have hcb : (kc != 0) = true := by simpa using hcx
            have HP := Lib.hid hP2
            clear hP2 hXg
            obtain ⟨x0, x1, x2, x3, x4, ⟨s0, t0⟩, ⟨s1, t1⟩, ⟨s2, t2⟩, ⟨s3, t3⟩, s4, t4⟩ := hR3.five (o := 0) (by simp) (.int .i64 (zeroT).k) (.int .i64 (zeroT).n) (.int .i64 (zeroT).x) (.string (zeroT).s)
            simp only [leafTr, zeroT] at s0 s1 s2 s3 s4 t0 t1 t2 t3 t4
            go_wp2_with fail
            exact finb _ _ wc _ hR3 hT3 hfr3 rfl (by rw [← HRR.out, ← HP.out]; exact ⟨rfl, hcx⟩)
          | good v q' =>
            obtain ⟨rfl, rfl, rfl⟩ := hok
            obtain ⟨hqa, hqb⟩ := hXg t q' rfl
            have HP : Hid (tM b g0 d (e0 + 2 * f0) q' (acc ++ [t]) = R) := Lib.hid hP2
            clear hP2 hXg
            go_wp2_with fail
            go_roundg e0
            case measure => omega
            case rel => exact ⟨1 + 1, j + 1, q', g0, c3, A3, acc ++ [t], es ++ [u], by go_num, by omega, by omega, by omega, by omega, by omega, HP, hT3, hH3, hR3, hV3, hRV3, hfr3⟩
end Go.Proofs.YtmelnaidjgpclaaGreatDoor

namespace Go.Proofs.YtmelnaidjgpclaaGreatDoor
open Go.RowKit

set_option maxHeartbeats 8000000 in
theorem i_telems4i (g : Nat) (A : Option Addr) (n c : Nat) (b : List UInt8) (q : Nat)  (d : Int) (w : World) (h : QR w g A n c b q 0) (hq : q ≤ n) (hd : 1 ≤ d) (d2 : d ≤ 9223372036854775807) (F1 : Nat) (hF1 : 2 * (n - q) + 4 ≤ F1) (hV : ∀ g0, g0 < F1 → ∀ (q0 : Nat) w1, QR w1 g A n c b q0 0 → Fr [g] w w1 → q0 ≤ n → 2 * (n - q0) + 3 ≤ g0 → Calls Tryz.prog 44 #[.pointer (some ⟨g, 0, none⟩), .int .i64 (d - 1)] w1 fun r w' => ReadQ w1 w' g A n c b (tV b g0 (d - 1) q0) r) :
    Calls Tryz.prog 79 #[.pointer (some ⟨g, 0, none⟩), .agg #[.int .i64 4, .int .i64 0, .int .i64 (-1)], .int .i64 d] w fun r w' => ReadQ w w' g A n c b (closeH 4 0 (tI b F1 d false false q [])) r := by
  have hgl := h.blk.lt
  have hbl := h.sl.blen
  have hbd := h.bd
  have k3 := Below.three w (.cells #[.int .i64 4, .int .i64 0, .int .i64 (-1)] 36) (.cells #[.int .i64 0, .int .i64 0, .int .i64 0, .string ⟨#[]⟩, .slice none 0 0] 28) (.cells #[.int .i64 9, .int .i64 0, .int .i64 0, .string ⟨#[]⟩, .slice none 0 0] 28)
  have T4 := h.below k3 h.blk.lt
  have H4 : Blk (((w.alloc (.cells #[.int .i64 4, .int .i64 0, .int .i64 (-1)] 36)).alloc (.cells #[.int .i64 0, .int .i64 0, .int .i64 0, .string ⟨#[]⟩, .slice none 0 0] 28)).alloc (.cells #[.int .i64 9, .int .i64 0, .int .i64 0, .string ⟨#[]⟩, .slice none 0 0] 28)) w.heap.size 36 #[.int .i64 4, .int .i64 0, .int .i64 (-1)] := Blk.alloc (Blk.alloc (Blk.new w _ _) _) _
  have R4 : Blk (((w.alloc (.cells #[.int .i64 4, .int .i64 0, .int .i64 (-1)] 36)).alloc (.cells #[.int .i64 0, .int .i64 0, .int .i64 0, .string ⟨#[]⟩, .slice none 0 0] 28)).alloc (.cells #[.int .i64 9, .int .i64 0, .int .i64 0, .string ⟨#[]⟩, .slice none 0 0] 28)) (w.heap.size + 1) 28 #[.int .i64 0, .int .i64 0, .int .i64 0, .string ⟨#[]⟩, .slice none 0 0] := by
    simpa using Blk.alloc (Blk.new (w.alloc (.cells #[.int .i64 4, .int .i64 0, .int .i64 (-1)] 36)) 28 #[.int .i64 0, .int .i64 0, .int .i64 0, .string ⟨#[]⟩, .slice none 0 0]) (.cells #[.int .i64 9, .int .i64 0, .int .i64 0, .string ⟨#[]⟩, .slice none 0 0] 28)
  have V4 : Blk (((w.alloc (.cells #[.int .i64 4, .int .i64 0, .int .i64 (-1)] 36)).alloc (.cells #[.int .i64 0, .int .i64 0, .int .i64 0, .string ⟨#[]⟩, .slice none 0 0] 28)).alloc (.cells #[.int .i64 9, .int .i64 0, .int .i64 0, .string ⟨#[]⟩, .slice none 0 0] 28)) (w.heap.size + 2) 28 #[.int .i64 9, .int .i64 0, .int .i64 0, .string ⟨#[]⟩, .slice none 0 0] := by
    simpa using Blk.new ((w.alloc (.cells #[.int .i64 4, .int .i64 0, .int .i64 (-1)] 36)).alloc (.cells #[.int .i64 0, .int .i64 0, .int .i64 0, .string ⟨#[]⟩, .slice none 0 0] 28)) 28 #[.int .i64 9, .int .i64 0, .int .i64 0, .string ⟨#[]⟩, .slice none 0 0]
  have fr4 := Fr.of_below (fp := [g]) k3
  obtain ⟨R, hR0⟩ : ∃ R, tI b F1 d false false q [] = R := ⟨_, rfl⟩
  rw [hR0]
  have HR0 := Lib.hid hR0
  clear hR0
  obtain ⟨RR, hRR⟩ : ∃ RR, closeH 4 0 R = RR := ⟨_, rfl⟩
  rw [hRR]
  have HRR := Lib.hid hRR
  clear hRR
  go_enter Tryz.func79, Tryz.ntmps79
  go_upto_region 2 with fail
  generalize ((w.alloc (.cells #[.int .i64 4, .int .i64 0, .int .i64 (-1)] 36)).alloc (.cells #[.int .i64 0, .int .i64 0, .int .i64 0, .string ⟨#[]⟩, .slice none 0 0] 28)).alloc (.cells #[.int .i64 9, .int .i64 0, .int .i64 0, .string ⟨#[]⟩, .slice none 0 0] 28) = wa at T4 H4 R4 V4 fr4 ⊢
  have finb : ∀ (p k : Int) (wX : World) (tm : Array Value), Blk wX (w.heap.size + 1) 28 #[.int .i64 0, .int .i64 0, .int .i64 0, .string ⟨#[]⟩, .slice none 0 0] → QR wX g A n c b p k → Fr [g] w wX → tm.getD 6 undef = .pointer (some ⟨w.heap.size + 1, 0, none⟩) → RokI RR zeroT p k →
      bodyPost Tryz.prog Tryz.f79 (fun r w' => ReadQ w w' g A n c b RR r) .ret ⟨tm, []⟩ (set5 wX (w.heap.size + 1) 0 zeroT ⟨none, 0, 0, []⟩) := by
    intro p k wX tm hB hT hf hp hRR
    have hblk : Blk (set5 wX (w.heap.size + 1) 0 zeroT ⟨none, 0, 0, []⟩) (w.heap.size + 1) 28 _ := Blk.five_ hB zeroT ⟨none, 0, 0, []⟩
    have hres := results_blk (P := Tryz.prog) (tmps := tm) Tryz.results79 Tryz.isAgg28 (by exact Tryz.sizeOf28) hp hblk
    refine bodyPost_ret hres rfl ?_
    exact ⟨zeroT, ⟨none, 0, 0, []⟩, p, k, rfl, LsAt.nil_ _ _, Own.nil_ _ _, hT.set5_ (by omega), fr_new5 hf (Nat.le_succ _), hRR⟩
  have h0 := H4.cell 0
  simp only [List.getElem?_toArray, List.getElem?_cons_succ, List.getElem?_cons_zero] at h0
  go_upto_region 4 with fail
  have T5 := T4
  have H5 := H4
  have R5 := R4
  have V5 := V4
  have fr5 := fr4
  clear T4 H4 R4 V4 fr4 h0
  have RV5 := RV.nil_ wa (w.heap.size + 3)
  go_wp2_with fail
  go_loopg [9, 10, 41, 42] (n + 1) (fun f' v9 v10 v41 v42 wr => ∃ (kx j q0 fq c' : Nat) (od : Bool) (A' : Option Addr) (acc : List Tr) (es : List El), v9 = .int .i64 kx ∧ n + 1 ≤ q0 + f' ∧ q0 ≤ n ∧ j ≤ q0 ∧ kx ≤ q0 ∧ 2 * (n - q0) + 4 ≤ fq ∧ fq ≤ F1 ∧ Hid (tI b fq d false od q0 acc = R) ∧ QR wr g A n c b q0 0 ∧ Blk wr w.heap.size 36 #[.int .i64 4, .int .i64 0, .int .i64 (-1)] ∧ Blk wr (w.heap.size + 1) 28 #[.int .i64 0, .int .i64 0, .int .i64 0, .string ⟨#[]⟩, .slice none 0 0] ∧ Blk wr (w.heap.size + 2) 28 #[.int .i64 9, .int .i64 0, .int .i64 0, .string ⟨#[]⟩, .slice A' j c'] ∧ RV wr (w.heap.size + 3) A' j c' acc es ∧ Fr [g] w wr)
  case atStart => exact ⟨0, 0, q, F1, 0, false, none, [], [], rfl, by omega, hq, by omega, by omega, hF1, Nat.le_refl _, HR0, T5, H5, R5, V5, RV5, fr5⟩
  case round =>
    obtain ⟨kx, j, q0, fq, c', od, A', acc, es, rfl, hkf, hq0, hjq, hkq, hfq, hfqF, hP, hT, hH, hRb, hVb, hRV, hfr⟩ := hrel
    clear HR0 T5 H5 R5 V5 RV5 fr5 k3
    have h1 := hH.cell 1
    have h2 := hH.cell 2
    simp only [List.getElem?_toArray, List.getElem?_cons_succ, List.getElem?_cons_zero] at h1 h2
    obtain ⟨f0, rfl⟩ : ∃ z, gk = z + 1 := ⟨gk - 1, by omega⟩
    have HE := i_tends g A n c b q0 wr hT
    by_cases hst : b[q0]? = some 255
    · rw [decide_eq_true hst] at HE
      obtain ⟨g0, rfl⟩ : ∃ z, fq = z + 1 := ⟨fq - 1, by omega⟩
      have hP2 := hP.out
      rw [tI, if_pos hst, if_neg (by simp)] at hP2
      have HP := Lib.hid hP2
      clear hP hP2 hV
      have hwq : IntKind.i64.wrap ((q0 : Int) + 1) = (q0 : Int) + 1 := by rw [IntKind.wrap_i64]; omega
      go_upto_region 8 with (go_at_call 113; refine HE.mono ?_; rintro r w2 ⟨rfl, hb2⟩)
      have T7 := hT.below hb2 hT.blk.lt
      have R7 := hRb.below hb2 hRb.lt
      have V7 := hVb.below hb2 hVb.lt
      have RV7 := hRV.below hb2
      have fr7 := hfr.trans (Fr.of_below hb2)
      clear hT hH hRb hVb hRV hfr HE hb2 h1 h2
      obtain ⟨c0, c1, c2⟩ := T7.cells
      have f1 := T7.blk.frozen 1
      go_upto_region 18 with fail
      have hT := T7.setAt ((q0 : Int) + 1)
      have hRb := R7.far (p := ⟨g, 1, none⟩) (by show w.heap.size + 1 ≠ g; omega) (.int .i64 ((q0 : Int) + 1))
      have hVb := V7.far (p := ⟨g, 1, none⟩) (by show w.heap.size + 2 ≠ g; omega) (.int .i64 ((q0 : Int) + 1))
      have ff8 := (Fr.refl [g] w2).setCell (p := ⟨g, 1, none⟩) (by simp) (.int .i64 ((q0 : Int) + 1))
      have hRV := RV7.frg ff8 (by omega)
      have hfr := fr7.trans ff8
      generalize w2.setCell ⟨g, 1, none⟩ (.int .i64 ((q0 : Int) + 1)) = w8 at hT hRb hVb hRV hfr ⊢
      clear T7 R7 V7 RV7 fr7 c0 c1 c2 f1 ff8
      have p0 := hVb.cell 0
      obtain ⟨fp, hls, hown, _⟩ := hRV.list hRV.cap.1 hRV.cap.2
      have hn0 : w.heap.size + 1 ∉ fp := fun hx => by have := (hown.2 _ hx).1; omega
      obtain ⟨v0, v1, v2, v3, v4⟩ := (show Blk w8 (w.heap.size + 2) 28 (valCells (⟨9, 0, 0, ⟨#[]⟩, acc⟩ : Tr) ⟨A', j, c', fp⟩) from hVb).boxV
      obtain ⟨x0, x1, x2, x3, x4, ⟨s0, t0⟩, ⟨s1, t1⟩, ⟨s2, t2⟩, ⟨s3, t3⟩, s4, t4⟩ := hRb.five (o := 0) (by simp) (.int .i64 ((⟨9, 0, 0, ⟨#[]⟩, acc⟩ : Tr)).k) (.int .i64 ((⟨9, 0, 0, ⟨#[]⟩, acc⟩ : Tr)).n) (.int .i64 ((⟨9, 0, 0, ⟨#[]⟩, acc⟩ : Tr)).x) (.string ((⟨9, 0, 0, ⟨#[]⟩, acc⟩ : Tr)).s)
      clear p0
      go_wp2_with fail
      have hblk : Blk (set5 w8 (w.heap.size + 1) 0 (⟨9, 0, 0, ⟨#[]⟩, acc⟩ : Tr) ⟨A', j, c', fp⟩) (w.heap.size + 1) 28 _ := Blk.five_ hRb (⟨9, 0, 0, ⟨#[]⟩, acc⟩ : Tr) ⟨A', j, c', fp⟩
      have hTR3 := hT.set5_ (g2 := w.heap.size + 1) (o := 0) (t := (⟨9, 0, 0, ⟨#[]⟩, acc⟩ : Tr)) (e := ⟨A', j, c', fp⟩) (by omega)
      have hfr3 : Fr [g] w (set5 w8 (w.heap.size + 1) 0 (⟨9, 0, 0, ⟨#[]⟩, acc⟩ : Tr) ⟨A', j, c', fp⟩) := fr_new5 hfr (Nat.le_succ _)
      have hls5 := hls.set5_ (e2 := ⟨A', j, c', fp⟩) (g := w.heap.size + 1) (o := 0) (t := (⟨9, 0, 0, ⟨#[]⟩, acc⟩ : Tr)) hn0
      have how5 := (hown.mono (lo2 := w.heap.size) (by omega)).set5_ (g := w.heap.size + 1) (o := 0) (t := (⟨9, 0, 0, ⟨#[]⟩, acc⟩ : Tr)) (e := ⟨A', j, c', fp⟩) hn0
      have hres := fun (tm : Array Value) (hp : tm.getD 6 undef = .pointer (some ⟨w.heap.size + 1, 0, none⟩)) => results_blk (P := Tryz.prog) (tmps := tm) Tryz.results79 Tryz.isAgg28 (by exact Tryz.sizeOf28) hp hblk
      refine bodyPost_ret (hres _ rfl) rfl ?_
      exact ⟨(⟨9, 0, 0, ⟨#[]⟩, acc⟩ : Tr), ⟨A', j, c', fp⟩, _, 0, rfl, hls5, how5, hTR3, hfr3, by rw [← HRR.out, ← HP.out]; exact ⟨rfl, by omega, rfl⟩⟩
    rw [decide_eq_false hst] at HE
    have hkw : IntKind.i64.wrap ((kx : Int) + 1) = (kx : Int) + 1 := by rw [IntKind.wrap_i64]; omega
    go_upto_region 9 with (go_at_call 113; refine HE.mono ?_; rintro r w2 ⟨rfl, hb2⟩)
    replace hT := hT.below hb2 hT.blk.lt
    replace hH := hH.below hb2 hH.lt
    replace hRb := hRb.below hb2 hRb.lt
    replace hVb := hVb.below hb2 hVb.lt
    replace hRV := hRV.below hb2
    replace hfr := hfr.trans (Fr.of_below hb2)
    clear HE hb2 h1 h2
    go_wp2_with fail
    go_loopg [10, 42] 1 (fun e' v10 v42 wr => ∃ (ii j q0 fq c' : Nat) (od : Bool) (A' : Option Addr) (acc : List Tr) (es : List El), v42 = .int .i64 ii ∧ ii + e' = 1 ∧ (ii = 0 → b[q0]? ≠ some 255 ∧ n + 1 ≤ q0 + f0 + 1) ∧ (0 < ii → n + 1 ≤ q0 + f0 ∧ kx + 1 ≤ q0) ∧ q0 ≤ n ∧ j ≤ q0 ∧ kx ≤ q0 ∧ 2 * (n - q0) + 4 ≤ fq ∧ fq ≤ F1 ∧ Hid (tI b fq d false od q0 acc = R) ∧ QR wr g A n c b q0 0 ∧ Blk wr w.heap.size 36 #[.int .i64 4, .int .i64 0, .int .i64 (-1)] ∧ Blk wr (w.heap.size + 1) 28 #[.int .i64 0, .int .i64 0, .int .i64 0, .string ⟨#[]⟩, .slice none 0 0] ∧ Blk wr (w.heap.size + 2) 28 #[.int .i64 9, .int .i64 0, .int .i64 0, .string ⟨#[]⟩, .slice A' j c'] ∧ RV wr (w.heap.size + 3) A' j c' acc es ∧ Fr [g] w wr)
    case atStart => exact ⟨0, j, q0, fq, c', od, A', acc, es, rfl, rfl, fun _ => ⟨hst, by omega⟩, fun hx => absurd hx (by decide), hq0, hjq, hkq, hfq, hfqF, hP, hT, hH, hRb, hVb, hRV, hfr⟩
    case round =>
      clear hT hH hRb hVb hRV hfr hP hq0 hjq hfq hfqF hst hkf hkq
      have hkf0 := trivial
      obtain ⟨ii, j, q0, fq, c', od, A', acc, es, rfl, hie, hi0, hi1, hq0, hjq, hkq, hfq, hfqF, hP, hT, hH, hRb, hVb, hRV, hfr⟩ := hrel
      by_cases hlt2 : ii < 1
      rotate_left
      · obtain rfl : gk = 0 := by omega
        obtain rfl : ii = 1 := by omega
        go_wp2_with fail
        go_roundg f0
        case measure => omega
        case rel => exact ⟨kx + 1, j, q0, fq, c', od, A', acc, es, by go_num, by have := hi1 (by decide); omega, hq0, hjq, by have := hi1 (by decide); omega, hfq, hfqF, hP, hT, hH, hRb, hVb, hRV, hfr⟩
      obtain ⟨e0, rfl⟩ : ∃ z, gk = z + 1 := ⟨gk - 1, by omega⟩
      obtain ⟨g0, rfl⟩ : ∃ z, fq = z + 1 := ⟨fq - 1, by omega⟩
      have hk1 : IntKind.i64.wrap (d - 1) = d - 1 := by rw [IntKind.wrap_i64]; omega
      have hii : decide ((ii : Int) < 1) = true := decide_eq_true (by omega)
      have hiw : IntKind.i64.wrap ((ii : Int) + 1) = (ii : Int) + 1 := by rw [IntKind.wrap_i64]; omega
      have hwn : ((-1 : Int) == -1) = true := rfl
      have h2 := hH.cell 2
      simp only [List.getElem?_toArray, List.getElem?_cons_succ, List.getElem?_cons_zero] at h2
      obtain rfl : ii = 0 := by omega
      have hst := (hi0 rfl).1
      have hi2 := (hi0 rfl).2
      clear hi0 hi1
      have hP2 := hP.out
      rw [tI, if_neg hst] at hP2
      have HV := hV g0 (by omega) q0 wr.drew ⟨hT.blk, hT.sl.drew, hT.bd⟩ hfr.drew hq0 (by omega)
      obtain ⟨X, hX⟩ : ∃ X, tV b g0 (d - 1) q0 = X := ⟨_, rfl⟩
      rw [hX] at HV hP2
      have hXg : ∀ v q', X = .good v q' → q0 < q' ∧ q' ≤ n := fun v q' he => by have := ((tVM_good (b := b) (by omega) g0).1 _ _ _ _ (hX.trans he)).2; have h1 := this.lt; have h2 := this.le; rw [Int.toNat_natCast] at h1; omega
      clear hX hP
      have hRVd := hRV.below (Below.refl _ wr).drew
      have hcz : w.heap.size + 3 ≤ wr.heap.size := hVb.lt
      have p4 := hVb.cell 4
      simp only [List.getElem?_toArray, List.getElem?_cons_succ, List.getElem?_cons_zero] at p4
      go_upto_region 14 with fail
      go_cut [42] from 42 to 73 (fun s42 w' => s42 = .int .i64 ((0 : Nat) : Int) ∧ ∃ (t : Tr) (u : El) (p' kc : Int) (c3 : Nat) (A3 : Option Addr), RokI X t p' kc ∧ QR w' g A n c b p' kc ∧ Blk w' w.heap.size 36 #[.int .i64 4, .int .i64 0, .int .i64 (-1)] ∧ Blk w' (w.heap.size + 1) 28 #[.int .i64 0, .int .i64 0, .int .i64 0, .string ⟨#[]⟩, .slice none 0 0] ∧ Blk w' (w.heap.size + 2) 28 #[.int .i64 9, .int .i64 0, .int .i64 0, .string ⟨#[]⟩, .slice A3 (j + 1) c3] ∧ RV w' (w.heap.size + 3) A3 (j + 1) c3 (acc ++ [t]) (es ++ [u]) ∧ Fr [g] w w')
      case first =>
        clear hP2 hXg hV
        go_region_law (first
          | (go_simp; go_at_call 44; refine HV.mono ?_; rintro r w5 ⟨t, u, p', kc, rfl, hl5, ho5, hT5, hf5, hok⟩; have hO5 := Blk.ofFr (w := wr.drew) hVb hf5 (by omega); have hR5 := Blk.ofFr (w := wr.drew) hRb hf5 (by omega); have hH5 := Blk.ofFr (w := wr.drew) hH hf5 (by omega); have p5 : w5.cell? ⟨w.heap.size + 2, 4, none⟩ = some (.slice A' j c') := Blk.cell (cs := #[.int .i64 9, .int .i64 0, .int .i64 0, .string ⟨#[]⟩, .slice A' j c']) hO5 4; have p6 : (w5.alloc (.cells (valCells t u) 28)).cell? ⟨w.heap.size + 2, 4, none⟩ = some (.slice A' j c') := Blk.cell (cs := #[.int .i64 9, .int .i64 0, .int .i64 0, .string ⟨#[]⟩, .slice A' j c']) (Blk.alloc hO5 _) 4)
          | (refine step_val rfl (.tmp 59) (.tmp 64) rfl (hRVd.frg hf5 (by omega)) (by simp [Act.eval, Act.put]) rfl (by simp [Act.eval, Act.put]) hl5 (ho5.mono hcz) (hRVd.newOwn ho5) (by omega) (Nat.le_trans hcz hf5.size) ?_; intro A3 c3 w6 h6 hb6 hg6; have hO6 := hO5.below hb6 (by omega); have p7 := hO6.cell 4; have f7 := hO6.frozen 4; simp only [List.getElem?_toArray, List.getElem?_cons_succ, List.getElem?_cons_zero] at p7; obtain ⟨hE1, hE2, hE3, hE4, hE5, hE6⟩ := el_stepq hT5 (hfr.drew.trans hf5) hH5 hR5 hO5 h6 hb6 hgl (.slice A3 (j + 1) c3)))
        all_goals
          go_wp2_with fail
          go_meet
          case rel => exact ⟨rfl, t, u, p', kc, c3, A3, hok, hE1, hE2, hE3, hE4, hE5, hE6⟩
      case rest =>
        obtain ⟨rfl, t, u, p', kc, c3, A3, hok, hT3, hH3, hR3, hV3, hRV3, hfr3⟩ := hcut
        clear hT hH hRb hVb hRV hfr HV hRVd hcz p4 h2
        obtain ⟨c0, c1, c2⟩ := hT3.cells
        cases X with
        | bad cx =>
          obtain ⟨hkc, hcx⟩ := hok
          subst hkc
          have hcb : (kc != 0) = true := by simpa using hcx
          have HP := Lib.hid hP2
          clear hP2 hXg
          obtain ⟨x0, x1, x2, x3, x4, ⟨s0, t0⟩, ⟨s1, t1⟩, ⟨s2, t2⟩, ⟨s3, t3⟩, s4, t4⟩ := hR3.five (o := 0) (by simp) (.int .i64 (zeroT).k) (.int .i64 (zeroT).n) (.int .i64 (zeroT).x) (.string (zeroT).s)
          simp only [leafTr, zeroT] at s0 s1 s2 s3 s4 t0 t1 t2 t3 t4
          go_wp2_with fail
          exact finb _ _ wc _ hR3 hT3 hfr3 rfl (by rw [← HRR.out, ← HP.out]; exact ⟨rfl, hcx⟩)
        | good v q' =>
          obtain ⟨rfl, rfl, rfl⟩ := hok
          obtain ⟨hqa, hqb⟩ := hXg t q' rfl
          have HP : Hid (tI b g0 d false (!od) q' (acc ++ [t]) = R) := Lib.hid hP2
          clear hP2 hXg
          go_wp2_with fail
          go_roundg e0
          case measure => omega
          case rel => exact ⟨0 + 1, j + 1, q', g0, c3, !od, A3, acc ++ [t], es ++ [u], by go_num, by omega, fun hx => absurd hx (by omega), fun _ => ⟨by omega, by omega⟩, by omega, by omega, by omega, by omega, by omega, HP, hT3, hH3, hR3, hV3, hRV3, hfr3⟩
set_option maxHeartbeats 8000000 in
theorem i_telems5i (g : Nat) (A : Option Addr) (n c : Nat) (b : List UInt8) (q : Nat)  (d : Int) (w : World) (h : QR w g A n c b q 0) (hq : q ≤ n) (hd : 1 ≤ d) (d2 : d ≤ 9223372036854775807) (F1 : Nat) (hF1 : 2 * (n - q) + 4 ≤ F1) (hV : ∀ g0, g0 < F1 → ∀ (q0 : Nat) w1, QR w1 g A n c b q0 0 → Fr [g] w w1 → q0 ≤ n → 2 * (n - q0) + 3 ≤ g0 → Calls Tryz.prog 44 #[.pointer (some ⟨g, 0, none⟩), .int .i64 (d - 1)] w1 fun r w' => ReadQ w1 w' g A n c b (tV b g0 (d - 1) q0) r) :
    Calls Tryz.prog 79 #[.pointer (some ⟨g, 0, none⟩), .agg #[.int .i64 5, .int .i64 0, .int .i64 (-1)], .int .i64 d] w fun r w' => ReadQ w w' g A n c b (closeH 5 0 (tI b F1 d true false q [])) r := by
  have hgl := h.blk.lt
  have hbl := h.sl.blen
  have hbd := h.bd
  have k3 := Below.three w (.cells #[.int .i64 5, .int .i64 0, .int .i64 (-1)] 36) (.cells #[.int .i64 0, .int .i64 0, .int .i64 0, .string ⟨#[]⟩, .slice none 0 0] 28) (.cells #[.int .i64 9, .int .i64 0, .int .i64 0, .string ⟨#[]⟩, .slice none 0 0] 28)
  have T4 := h.below k3 h.blk.lt
  have H4 : Blk (((w.alloc (.cells #[.int .i64 5, .int .i64 0, .int .i64 (-1)] 36)).alloc (.cells #[.int .i64 0, .int .i64 0, .int .i64 0, .string ⟨#[]⟩, .slice none 0 0] 28)).alloc (.cells #[.int .i64 9, .int .i64 0, .int .i64 0, .string ⟨#[]⟩, .slice none 0 0] 28)) w.heap.size 36 #[.int .i64 5, .int .i64 0, .int .i64 (-1)] := Blk.alloc (Blk.alloc (Blk.new w _ _) _) _
  have R4 : Blk (((w.alloc (.cells #[.int .i64 5, .int .i64 0, .int .i64 (-1)] 36)).alloc (.cells #[.int .i64 0, .int .i64 0, .int .i64 0, .string ⟨#[]⟩, .slice none 0 0] 28)).alloc (.cells #[.int .i64 9, .int .i64 0, .int .i64 0, .string ⟨#[]⟩, .slice none 0 0] 28)) (w.heap.size + 1) 28 #[.int .i64 0, .int .i64 0, .int .i64 0, .string ⟨#[]⟩, .slice none 0 0] := by
    simpa using Blk.alloc (Blk.new (w.alloc (.cells #[.int .i64 5, .int .i64 0, .int .i64 (-1)] 36)) 28 #[.int .i64 0, .int .i64 0, .int .i64 0, .string ⟨#[]⟩, .slice none 0 0]) (.cells #[.int .i64 9, .int .i64 0, .int .i64 0, .string ⟨#[]⟩, .slice none 0 0] 28)
  have V4 : Blk (((w.alloc (.cells #[.int .i64 5, .int .i64 0, .int .i64 (-1)] 36)).alloc (.cells #[.int .i64 0, .int .i64 0, .int .i64 0, .string ⟨#[]⟩, .slice none 0 0] 28)).alloc (.cells #[.int .i64 9, .int .i64 0, .int .i64 0, .string ⟨#[]⟩, .slice none 0 0] 28)) (w.heap.size + 2) 28 #[.int .i64 9, .int .i64 0, .int .i64 0, .string ⟨#[]⟩, .slice none 0 0] := by
    simpa using Blk.new ((w.alloc (.cells #[.int .i64 5, .int .i64 0, .int .i64 (-1)] 36)).alloc (.cells #[.int .i64 0, .int .i64 0, .int .i64 0, .string ⟨#[]⟩, .slice none 0 0] 28)) 28 #[.int .i64 9, .int .i64 0, .int .i64 0, .string ⟨#[]⟩, .slice none 0 0]
  have fr4 := Fr.of_below (fp := [g]) k3
  obtain ⟨R, hR0⟩ : ∃ R, tI b F1 d true false q [] = R := ⟨_, rfl⟩
  rw [hR0]
  have HR0 := Lib.hid hR0
  clear hR0
  obtain ⟨RR, hRR⟩ : ∃ RR, closeH 5 0 R = RR := ⟨_, rfl⟩
  rw [hRR]
  have HRR := Lib.hid hRR
  clear hRR
  go_enter Tryz.func79, Tryz.ntmps79
  go_upto_region 2 with fail
  generalize ((w.alloc (.cells #[.int .i64 5, .int .i64 0, .int .i64 (-1)] 36)).alloc (.cells #[.int .i64 0, .int .i64 0, .int .i64 0, .string ⟨#[]⟩, .slice none 0 0] 28)).alloc (.cells #[.int .i64 9, .int .i64 0, .int .i64 0, .string ⟨#[]⟩, .slice none 0 0] 28) = wa at T4 H4 R4 V4 fr4 ⊢
  have finb : ∀ (p k : Int) (wX : World) (tm : Array Value), Blk wX (w.heap.size + 1) 28 #[.int .i64 0, .int .i64 0, .int .i64 0, .string ⟨#[]⟩, .slice none 0 0] → QR wX g A n c b p k → Fr [g] w wX → tm.getD 6 undef = .pointer (some ⟨w.heap.size + 1, 0, none⟩) → RokI RR zeroT p k →
      bodyPost Tryz.prog Tryz.f79 (fun r w' => ReadQ w w' g A n c b RR r) .ret ⟨tm, []⟩ (set5 wX (w.heap.size + 1) 0 zeroT ⟨none, 0, 0, []⟩) := by
    intro p k wX tm hB hT hf hp hRR
    have hblk : Blk (set5 wX (w.heap.size + 1) 0 zeroT ⟨none, 0, 0, []⟩) (w.heap.size + 1) 28 _ := Blk.five_ hB zeroT ⟨none, 0, 0, []⟩
    have hres := results_blk (P := Tryz.prog) (tmps := tm) Tryz.results79 Tryz.isAgg28 (by exact Tryz.sizeOf28) hp hblk
    refine bodyPost_ret hres rfl ?_
    exact ⟨zeroT, ⟨none, 0, 0, []⟩, p, k, rfl, LsAt.nil_ _ _, Own.nil_ _ _, hT.set5_ (by omega), fr_new5 hf (Nat.le_succ _), hRR⟩
  have h0 := H4.cell 0
  simp only [List.getElem?_toArray, List.getElem?_cons_succ, List.getElem?_cons_zero] at h0
  have p0 := V4.cell 0
  have f0 := V4.frozen 0
  simp only [List.getElem?_toArray, List.getElem?_cons_succ, List.getElem?_cons_zero] at p0
  go_upto_region 4 with fail
  have T5 : QR (wa.setCell ⟨w.heap.size + 2, 0, none⟩ (.int .i64 10)) g A n c b q 0 := ⟨T4.blk.far (p := ⟨w.heap.size + 2, 0, none⟩) (by show g ≠ w.heap.size + 2; omega) _, T4.sl.setCell (p := ⟨w.heap.size + 2, 0, none⟩) (by show g ≤ w.heap.size + 2; omega) _, T4.bd⟩
  have H5 := H4.far (p := ⟨w.heap.size + 2, 0, none⟩) (by show w.heap.size ≠ w.heap.size + 2; omega) (.int .i64 10)
  have R5 := R4.far (p := ⟨w.heap.size + 2, 0, none⟩) (by show w.heap.size + 1 ≠ w.heap.size + 2; omega) (.int .i64 10)
  have V5 : Blk (wa.setCell ⟨w.heap.size + 2, 0, none⟩ (.int .i64 10)) (w.heap.size + 2) 28 #[.int .i64 10, .int .i64 0, .int .i64 0, .string ⟨#[]⟩, .slice none 0 0] := by simpa using V4.set_ 0 (.int .i64 10)
  have fr5 : Fr [g] w (wa.setCell ⟨w.heap.size + 2, 0, none⟩ (.int .i64 10)) := fr_new (q := ⟨w.heap.size + 2, 0, none⟩) fr4 (by show w.heap.size ≤ w.heap.size + 2; omega) _
  generalize wa.setCell ⟨w.heap.size + 2, 0, none⟩ (.int .i64 10) = wb at T5 H5 R5 V5 fr5 ⊢
  clear T4 H4 R4 V4 fr4 p0 f0 h0
  have RV5 := RV.nil_ wb (w.heap.size + 3)
  go_wp2_with fail
  go_loopg [9, 10, 41, 42] (n + 1) (fun f' v9 v10 v41 v42 wr => ∃ (kx j q0 fq c' : Nat) (od : Bool) (A' : Option Addr) (acc : List Tr) (es : List El), v9 = .int .i64 kx ∧ n + 1 ≤ q0 + f' ∧ q0 ≤ n ∧ j ≤ q0 ∧ kx ≤ q0 ∧ 2 * (n - q0) + 4 ≤ fq ∧ fq ≤ F1 ∧ Hid (tI b fq d true od q0 acc = R) ∧ od = false ∧ QR wr g A n c b q0 0 ∧ Blk wr w.heap.size 36 #[.int .i64 5, .int .i64 0, .int .i64 (-1)] ∧ Blk wr (w.heap.size + 1) 28 #[.int .i64 0, .int .i64 0, .int .i64 0, .string ⟨#[]⟩, .slice none 0 0] ∧ Blk wr (w.heap.size + 2) 28 #[.int .i64 10, .int .i64 0, .int .i64 0, .string ⟨#[]⟩, .slice A' j c'] ∧ RV wr (w.heap.size + 3) A' j c' acc es ∧ Fr [g] w wr)
  case atStart => exact ⟨0, 0, q, F1, 0, false, none, [], [], rfl, by omega, hq, by omega, by omega, hF1, Nat.le_refl _, HR0, rfl, T5, H5, R5, V5, RV5, fr5⟩
  case round =>
    obtain ⟨kx, j, q0, fq, c', od, A', acc, es, rfl, hkf, hq0, hjq, hkq, hfq, hfqF, hP, rfl, hT, hH, hRb, hVb, hRV, hfr⟩ := hrel
    clear HR0 T5 H5 R5 V5 RV5 fr5 k3
    have h1 := hH.cell 1
    have h2 := hH.cell 2
    simp only [List.getElem?_toArray, List.getElem?_cons_succ, List.getElem?_cons_zero] at h1 h2
    obtain ⟨f0, rfl⟩ : ∃ z, gk = z + 1 := ⟨gk - 1, by omega⟩
    have HE := i_tends g A n c b q0 wr hT
    by_cases hst : b[q0]? = some 255
    · rw [decide_eq_true hst] at HE
      obtain ⟨g0, rfl⟩ : ∃ z, fq = z + 1 := ⟨fq - 1, by omega⟩
      have hP2 := hP.out
      rw [tI, if_pos hst, if_neg (by simp)] at hP2
      have HP := Lib.hid hP2
      clear hP hP2 hV
      have hwq : IntKind.i64.wrap ((q0 : Int) + 1) = (q0 : Int) + 1 := by rw [IntKind.wrap_i64]; omega
      go_upto_region 8 with (go_at_call 113; refine HE.mono ?_; rintro r w2 ⟨rfl, hb2⟩)
      have T7 := hT.below hb2 hT.blk.lt
      have R7 := hRb.below hb2 hRb.lt
      have V7 := hVb.below hb2 hVb.lt
      have RV7 := hRV.below hb2
      have fr7 := hfr.trans (Fr.of_below hb2)
      clear hT hH hRb hVb hRV hfr HE hb2 h1 h2
      obtain ⟨c0, c1, c2⟩ := T7.cells
      have f1 := T7.blk.frozen 1
      go_upto_region 18 with fail
      have hT := T7.setAt ((q0 : Int) + 1)
      have hRb := R7.far (p := ⟨g, 1, none⟩) (by show w.heap.size + 1 ≠ g; omega) (.int .i64 ((q0 : Int) + 1))
      have hVb := V7.far (p := ⟨g, 1, none⟩) (by show w.heap.size + 2 ≠ g; omega) (.int .i64 ((q0 : Int) + 1))
      have ff8 := (Fr.refl [g] w2).setCell (p := ⟨g, 1, none⟩) (by simp) (.int .i64 ((q0 : Int) + 1))
      have hRV := RV7.frg ff8 (by omega)
      have hfr := fr7.trans ff8
      generalize w2.setCell ⟨g, 1, none⟩ (.int .i64 ((q0 : Int) + 1)) = w8 at hT hRb hVb hRV hfr ⊢
      clear T7 R7 V7 RV7 fr7 c0 c1 c2 f1 ff8
      have p0 := hVb.cell 0
      obtain ⟨fp, hls, hown, _⟩ := hRV.list hRV.cap.1 hRV.cap.2
      have hn0 : w.heap.size + 1 ∉ fp := fun hx => by have := (hown.2 _ hx).1; omega
      obtain ⟨v0, v1, v2, v3, v4⟩ := (show Blk w8 (w.heap.size + 2) 28 (valCells (⟨10, 0, 0, ⟨#[]⟩, acc⟩ : Tr) ⟨A', j, c', fp⟩) from hVb).boxV
      obtain ⟨x0, x1, x2, x3, x4, ⟨s0, t0⟩, ⟨s1, t1⟩, ⟨s2, t2⟩, ⟨s3, t3⟩, s4, t4⟩ := hRb.five (o := 0) (by simp) (.int .i64 ((⟨10, 0, 0, ⟨#[]⟩, acc⟩ : Tr)).k) (.int .i64 ((⟨10, 0, 0, ⟨#[]⟩, acc⟩ : Tr)).n) (.int .i64 ((⟨10, 0, 0, ⟨#[]⟩, acc⟩ : Tr)).x) (.string ((⟨10, 0, 0, ⟨#[]⟩, acc⟩ : Tr)).s)
      clear p0
      go_wp2_with fail
      have hblk : Blk (set5 w8 (w.heap.size + 1) 0 (⟨10, 0, 0, ⟨#[]⟩, acc⟩ : Tr) ⟨A', j, c', fp⟩) (w.heap.size + 1) 28 _ := Blk.five_ hRb (⟨10, 0, 0, ⟨#[]⟩, acc⟩ : Tr) ⟨A', j, c', fp⟩
      have hTR3 := hT.set5_ (g2 := w.heap.size + 1) (o := 0) (t := (⟨10, 0, 0, ⟨#[]⟩, acc⟩ : Tr)) (e := ⟨A', j, c', fp⟩) (by omega)
      have hfr3 : Fr [g] w (set5 w8 (w.heap.size + 1) 0 (⟨10, 0, 0, ⟨#[]⟩, acc⟩ : Tr) ⟨A', j, c', fp⟩) := fr_new5 hfr (Nat.le_succ _)
      have hls5 := hls.set5_ (e2 := ⟨A', j, c', fp⟩) (g := w.heap.size + 1) (o := 0) (t := (⟨10, 0, 0, ⟨#[]⟩, acc⟩ : Tr)) hn0
      have how5 := (hown.mono (lo2 := w.heap.size) (by omega)).set5_ (g := w.heap.size + 1) (o := 0) (t := (⟨10, 0, 0, ⟨#[]⟩, acc⟩ : Tr)) (e := ⟨A', j, c', fp⟩) hn0
      have hres := fun (tm : Array Value) (hp : tm.getD 6 undef = .pointer (some ⟨w.heap.size + 1, 0, none⟩)) => results_blk (P := Tryz.prog) (tmps := tm) Tryz.results79 Tryz.isAgg28 (by exact Tryz.sizeOf28) hp hblk
      refine bodyPost_ret (hres _ rfl) rfl ?_
      exact ⟨(⟨10, 0, 0, ⟨#[]⟩, acc⟩ : Tr), ⟨A', j, c', fp⟩, _, 0, rfl, hls5, how5, hTR3, hfr3, by rw [← HRR.out, ← HP.out]; exact ⟨rfl, by omega, rfl⟩⟩
    rw [decide_eq_false hst] at HE
    have hkw : IntKind.i64.wrap ((kx : Int) + 1) = (kx : Int) + 1 := by rw [IntKind.wrap_i64]; omega
    go_upto_region 9 with (go_at_call 113; refine HE.mono ?_; rintro r w2 ⟨rfl, hb2⟩)
    replace hT := hT.below hb2 hT.blk.lt
    replace hH := hH.below hb2 hH.lt
    replace hRb := hRb.below hb2 hRb.lt
    replace hVb := hVb.below hb2 hVb.lt
    replace hRV := hRV.below hb2
    replace hfr := hfr.trans (Fr.of_below hb2)
    clear HE hb2 h1 h2
    go_wp2_with fail
    go_loopg [10, 42] 2 (fun e' v10 v42 wr => ∃ (ii j q0 fq c' : Nat) (od : Bool) (A' : Option Addr) (acc : List Tr) (es : List El), v42 = .int .i64 ii ∧ ii + e' = 2 ∧ (ii = 0 → b[q0]? ≠ some 255 ∧ n + 1 ≤ q0 + f0 + 1) ∧ (0 < ii → n + 1 ≤ q0 + f0 ∧ kx + 1 ≤ q0) ∧ q0 ≤ n ∧ j ≤ q0 ∧ kx ≤ q0 ∧ 2 * (n - q0) + 4 ≤ fq ∧ fq ≤ F1 ∧ Hid (tI b fq d true od q0 acc = R) ∧ od = decide (ii = 1) ∧ QR wr g A n c b q0 0 ∧ Blk wr w.heap.size 36 #[.int .i64 5, .int .i64 0, .int .i64 (-1)] ∧ Blk wr (w.heap.size + 1) 28 #[.int .i64 0, .int .i64 0, .int .i64 0, .string ⟨#[]⟩, .slice none 0 0] ∧ Blk wr (w.heap.size + 2) 28 #[.int .i64 10, .int .i64 0, .int .i64 0, .string ⟨#[]⟩, .slice A' j c'] ∧ RV wr (w.heap.size + 3) A' j c' acc es ∧ Fr [g] w wr)
    case atStart => exact ⟨0, j, q0, fq, c', false, A', acc, es, rfl, rfl, fun _ => ⟨hst, by omega⟩, fun hx => absurd hx (by decide), hq0, hjq, hkq, hfq, hfqF, hP, rfl, hT, hH, hRb, hVb, hRV, hfr⟩
    case round =>
      clear hT hH hRb hVb hRV hfr hP hq0 hjq hfq hfqF hst hkf hkq
      have hkf0 := trivial
      obtain ⟨ii, j, q0, fq, c', od, A', acc, es, rfl, hie, hi0, hi1, hq0, hjq, hkq, hfq, hfqF, hP, hod, hT, hH, hRb, hVb, hRV, hfr⟩ := hrel
      by_cases hlt2 : ii < 2
      rotate_left
      · obtain rfl : gk = 0 := by omega
        obtain rfl : ii = 2 := by omega
        go_wp2_with fail
        go_roundg f0
        case measure => omega
        case rel => exact ⟨kx + 1, j, q0, fq, c', false, A', acc, es, by go_num, by have := hi1 (by decide); omega, hq0, hjq, by have := hi1 (by decide); omega, hfq, hfqF, Lib.hid (by rw [hod] at hP; exact hP.out), rfl, hT, hH, hRb, hVb, hRV, hfr⟩
      obtain ⟨e0, rfl⟩ : ∃ z, gk = z + 1 := ⟨gk - 1, by omega⟩
      obtain ⟨g0, rfl⟩ : ∃ z, fq = z + 1 := ⟨fq - 1, by omega⟩
      have hk1 : IntKind.i64.wrap (d - 1) = d - 1 := by rw [IntKind.wrap_i64]; omega
      have hii : decide ((ii : Int) < 2) = true := decide_eq_true (by omega)
      have hiw : IntKind.i64.wrap ((ii : Int) + 1) = (ii : Int) + 1 := by rw [IntKind.wrap_i64]; omega
      have hwn : ((-1 : Int) == -1) = true := rfl
      have h2 := hH.cell 2
      simp only [List.getElem?_toArray, List.getElem?_cons_succ, List.getElem?_cons_zero] at h2
      rcases (show ii = 0 ∨ ii = 1 by omega) with rfl | rfl
      · have hst := (hi0 rfl).1
        have hi2 := (hi0 rfl).2
        clear hi0 hi1
        obtain rfl : od = false := hod
        have hP2 := hP.out
        rw [tI, if_neg hst] at hP2
        have HV := hV g0 (by omega) q0 wr.drew ⟨hT.blk, hT.sl.drew, hT.bd⟩ hfr.drew hq0 (by omega)
        obtain ⟨X, hX⟩ : ∃ X, tV b g0 (d - 1) q0 = X := ⟨_, rfl⟩
        rw [hX] at HV hP2
        have hXg : ∀ v q', X = .good v q' → q0 < q' ∧ q' ≤ n := fun v q' he => by have := ((tVM_good (b := b) (by omega) g0).1 _ _ _ _ (hX.trans he)).2; have h1 := this.lt; have h2 := this.le; rw [Int.toNat_natCast] at h1; omega
        clear hX hP
        have hRVd := hRV.below (Below.refl _ wr).drew
        have hcz : w.heap.size + 3 ≤ wr.heap.size := hVb.lt
        have p4 := hVb.cell 4
        simp only [List.getElem?_toArray, List.getElem?_cons_succ, List.getElem?_cons_zero] at p4
        go_upto_region 14 with fail
        go_cut [42] from 42 to 73 (fun s42 w' => s42 = .int .i64 ((0 : Nat) : Int) ∧ ∃ (t : Tr) (u : El) (p' kc : Int) (c3 : Nat) (A3 : Option Addr), RokI X t p' kc ∧ QR w' g A n c b p' kc ∧ Blk w' w.heap.size 36 #[.int .i64 5, .int .i64 0, .int .i64 (-1)] ∧ Blk w' (w.heap.size + 1) 28 #[.int .i64 0, .int .i64 0, .int .i64 0, .string ⟨#[]⟩, .slice none 0 0] ∧ Blk w' (w.heap.size + 2) 28 #[.int .i64 10, .int .i64 0, .int .i64 0, .string ⟨#[]⟩, .slice A3 (j + 1) c3] ∧ RV w' (w.heap.size + 3) A3 (j + 1) c3 (acc ++ [t]) (es ++ [u]) ∧ Fr [g] w w')
        case first =>
          clear hP2 hXg hV
          go_region_law (first
            | (go_simp; go_at_call 44; refine HV.mono ?_; rintro r w5 ⟨t, u, p', kc, rfl, hl5, ho5, hT5, hf5, hok⟩; have hO5 := Blk.ofFr (w := wr.drew) hVb hf5 (by omega); have hR5 := Blk.ofFr (w := wr.drew) hRb hf5 (by omega); have hH5 := Blk.ofFr (w := wr.drew) hH hf5 (by omega); have p5 : w5.cell? ⟨w.heap.size + 2, 4, none⟩ = some (.slice A' j c') := Blk.cell (cs := #[.int .i64 10, .int .i64 0, .int .i64 0, .string ⟨#[]⟩, .slice A' j c']) hO5 4; have p6 : (w5.alloc (.cells (valCells t u) 28)).cell? ⟨w.heap.size + 2, 4, none⟩ = some (.slice A' j c') := Blk.cell (cs := #[.int .i64 10, .int .i64 0, .int .i64 0, .string ⟨#[]⟩, .slice A' j c']) (Blk.alloc hO5 _) 4)
            | (refine step_val rfl (.tmp 59) (.tmp 64) rfl (hRVd.frg hf5 (by omega)) (by simp [Act.eval, Act.put]) rfl (by simp [Act.eval, Act.put]) hl5 (ho5.mono hcz) (hRVd.newOwn ho5) (by omega) (Nat.le_trans hcz hf5.size) ?_; intro A3 c3 w6 h6 hb6 hg6; have hO6 := hO5.below hb6 (by omega); have p7 := hO6.cell 4; have f7 := hO6.frozen 4; simp only [List.getElem?_toArray, List.getElem?_cons_succ, List.getElem?_cons_zero] at p7; obtain ⟨hE1, hE2, hE3, hE4, hE5, hE6⟩ := el_stepq hT5 (hfr.drew.trans hf5) hH5 hR5 hO5 h6 hb6 hgl (.slice A3 (j + 1) c3)))
          all_goals
            go_wp2_with fail
            go_meet
            case rel => exact ⟨rfl, t, u, p', kc, c3, A3, hok, hE1, hE2, hE3, hE4, hE5, hE6⟩
        case rest =>
          obtain ⟨rfl, t, u, p', kc, c3, A3, hok, hT3, hH3, hR3, hV3, hRV3, hfr3⟩ := hcut
          clear hT hH hRb hVb hRV hfr HV hRVd hcz p4 h2
          obtain ⟨c0, c1, c2⟩ := hT3.cells
          cases X with
          | bad cx =>
            obtain ⟨hkc, hcx⟩ := hok
            subst hkc
            have hcb : (kc != 0) = true := by simpa using hcx
            have HP := Lib.hid hP2
            clear hP2 hXg
            obtain ⟨x0, x1, x2, x3, x4, ⟨s0, t0⟩, ⟨s1, t1⟩, ⟨s2, t2⟩, ⟨s3, t3⟩, s4, t4⟩ := hR3.five (o := 0) (by simp) (.int .i64 (zeroT).k) (.int .i64 (zeroT).n) (.int .i64 (zeroT).x) (.string (zeroT).s)
            simp only [leafTr, zeroT] at s0 s1 s2 s3 s4 t0 t1 t2 t3 t4
            go_wp2_with fail
            exact finb _ _ wc _ hR3 hT3 hfr3 rfl (by rw [← HRR.out, ← HP.out]; exact ⟨rfl, hcx⟩)
          | good v q' =>
            obtain ⟨rfl, rfl, rfl⟩ := hok
            obtain ⟨hqa, hqb⟩ := hXg t q' rfl
            have HP : Hid (tI b g0 d true (!false) q' (acc ++ [t]) = R) := Lib.hid hP2
            clear hP2 hXg
            go_wp2_with fail
            go_roundg e0
            case measure => omega
            case rel => exact ⟨0 + 1, j + 1, q', g0, c3, !false, A3, acc ++ [t], es ++ [u], by go_num, by omega, fun hx => absurd hx (by omega), fun _ => ⟨by omega, by omega⟩, by omega, by omega, by omega, by omega, by omega, HP, by decide, hT3, hH3, hR3, hV3, hRV3, hfr3⟩
      · obtain rfl : od = true := hod
        have hi2 := hi1 (by decide)
        clear hi0 hi1
        have HE := i_tends g A n c b q0 wr hT
        by_cases hst : b[q0]? = some 255
        · rw [decide_eq_true hst] at HE
          have hP2 := hP.out
          rw [tI, if_pos hst, if_pos ⟨rfl, rfl⟩] at hP2
          have HP := Lib.hid hP2
          have HF := fun w1 (hb : Below wr.heap.size wr w1) => i_tfail g A n c b q0 1 w1 (hT.below hb hT.blk.lt)
          unfold FailQ at HF
          obtain ⟨Zt, hZt⟩ : ∃ Zt, zeroT = Zt := ⟨_, rfl⟩
          rw [hZt] at HF
          have HZt := Lib.hid hZt
          clear hZt hP hP2 hV
          go_wp2_with (first
            | (go_at_call 113; refine HE.mono ?_; rintro r w3 ⟨rfl, hb3⟩; have HF3 := HF _ hb3)
            | (go_at_call 75; refine HF3.mono ?_; rintro r w4 ⟨rfl, T5, hf5⟩; have R5 := Blk.ofFr (hRb.below hb3 hRb.lt) hf5 (by omega); obtain ⟨x0, x1, x2, x3, x4, ⟨s0, t0⟩, ⟨s1, t1⟩, ⟨s2, t2⟩, ⟨s3, t3⟩, s4, t4⟩ := R5.five (o := 0) (by simp) (.int .i64 (Zt).k) (.int .i64 (Zt).n) (.int .i64 (Zt).x) (.string (Zt).s)))
          have hz := HZt.out
          subst hz
          exact finb _ _ w4 _ R5 T5 ((hfr.trans (Fr.of_below hb3)).trans hf5) rfl (by rw [← HRR.out, ← HP.out]; exact ⟨rfl, by decide⟩)
        rw [decide_eq_false hst] at HE
        go_upto_region 14 with (go_at_call 113; refine HE.mono ?_; rintro r w3 ⟨rfl, hb3⟩)
        replace hT := hT.below hb3 hT.blk.lt
        replace hH := hH.below hb3 hH.lt
        replace hRb := hRb.below hb3 hRb.lt
        replace hVb := hVb.below hb3 hVb.lt
        replace hRV := hRV.below hb3
        replace hfr := hfr.trans (Fr.of_below hb3)
        clear HE hb3
        have hP2 := hP.out
        rw [tI, if_neg hst] at hP2
        have HV := hV g0 (by omega) q0 w3.drew ⟨hT.blk, hT.sl.drew, hT.bd⟩ hfr.drew hq0 (by omega)
        obtain ⟨X, hX⟩ : ∃ X, tV b g0 (d - 1) q0 = X := ⟨_, rfl⟩
        rw [hX] at HV hP2
        have hXg : ∀ v q', X = .good v q' → q0 < q' ∧ q' ≤ n := fun v q' he => by have := ((tVM_good (b := b) (by omega) g0).1 _ _ _ _ (hX.trans he)).2; have h1 := this.lt; have h2 := this.le; rw [Int.toNat_natCast] at h1; omega
        clear hX hP
        have hRVd := hRV.below (Below.refl _ w3).drew
        have hcz : w.heap.size + 3 ≤ w3.heap.size := hVb.lt
        have p4 := hVb.cell 4
        simp only [List.getElem?_toArray, List.getElem?_cons_succ, List.getElem?_cons_zero] at p4
        go_cut [42] from 42 to 73 (fun s42 w' => s42 = .int .i64 ((1 : Nat) : Int) ∧ ∃ (t : Tr) (u : El) (p' kc : Int) (c3 : Nat) (A3 : Option Addr), RokI X t p' kc ∧ QR w' g A n c b p' kc ∧ Blk w' w.heap.size 36 #[.int .i64 5, .int .i64 0, .int .i64 (-1)] ∧ Blk w' (w.heap.size + 1) 28 #[.int .i64 0, .int .i64 0, .int .i64 0, .string ⟨#[]⟩, .slice none 0 0] ∧ Blk w' (w.heap.size + 2) 28 #[.int .i64 10, .int .i64 0, .int .i64 0, .string ⟨#[]⟩, .slice A3 (j + 1) c3] ∧ RV w' (w.heap.size + 3) A3 (j + 1) c3 (acc ++ [t]) (es ++ [u]) ∧ Fr [g] w w')
        case first =>
          clear hP2 hXg hV
          go_region_law (first
            | (go_simp; go_at_call 44; refine HV.mono ?_; rintro r w5 ⟨t, u, p', kc, rfl, hl5, ho5, hT5, hf5, hok⟩; have hO5 := Blk.ofFr (w := w3.drew) hVb hf5 (by omega); have hR5 := Blk.ofFr (w := w3.drew) hRb hf5 (by omega); have hH5 := Blk.ofFr (w := w3.drew) hH hf5 (by omega); have p5 : w5.cell? ⟨w.heap.size + 2, 4, none⟩ = some (.slice A' j c') := Blk.cell (cs := #[.int .i64 10, .int .i64 0, .int .i64 0, .string ⟨#[]⟩, .slice A' j c']) hO5 4; have p6 : (w5.alloc (.cells (valCells t u) 28)).cell? ⟨w.heap.size + 2, 4, none⟩ = some (.slice A' j c') := Blk.cell (cs := #[.int .i64 10, .int .i64 0, .int .i64 0, .string ⟨#[]⟩, .slice A' j c']) (Blk.alloc hO5 _) 4)
            | (refine step_val rfl (.tmp 59) (.tmp 64) rfl (hRVd.frg hf5 (by omega)) (by simp [Act.eval, Act.put]) rfl (by simp [Act.eval, Act.put]) hl5 (ho5.mono hcz) (hRVd.newOwn ho5) (by omega) (Nat.le_trans hcz hf5.size) ?_; intro A3 c3 w6 h6 hb6 hg6; have hO6 := hO5.below hb6 (by omega); have p7 := hO6.cell 4; have f7 := hO6.frozen 4; simp only [List.getElem?_toArray, List.getElem?_cons_succ, List.getElem?_cons_zero] at p7; obtain ⟨hE1, hE2, hE3, hE4, hE5, hE6⟩ := el_stepq hT5 (hfr.drew.trans hf5) hH5 hR5 hO5 h6 hb6 hgl (.slice A3 (j + 1) c3)))
          all_goals
            go_wp2_with fail
            go_meet
            case rel => exact ⟨rfl, t, u, p', kc, c3, A3, hok, hE1, hE2, hE3, hE4, hE5, hE6⟩
        case rest =>
          obtain ⟨rfl, t, u, p', kc, c3, A3, hok, hT3, hH3, hR3, hV3, hRV3, hfr3⟩ := hcut
          clear hT hH hRb hVb hRV hfr HV hRVd hcz p4 h2
          obtain ⟨c0, c1, c2⟩ := hT3.cells
          cases X with
          | bad cx =>
            obtain ⟨hkc, hcx⟩ := hok
            subst hkc
            have hcb : (kc != 0) = true := by simpa using hcx
            have HP := Lib.hid hP2
            clear hP2 hXg
            obtain ⟨x0, x1, x2, x3, x4, ⟨s0, t0⟩, ⟨s1, t1⟩, ⟨s2, t2⟩, ⟨s3, t3⟩, s4, t4⟩ := hR3.five (o := 0) (by simp) (.int .i64 (zeroT).k) (.int .i64 (zeroT).n) (.int .i64 (zeroT).x) (.string (zeroT).s)
            simp only [leafTr, zeroT] at s0 s1 s2 s3 s4 t0 t1 t2 t3 t4
            go_wp2_with fail
            exact finb _ _ wc _ hR3 hT3 hfr3 rfl (by rw [← HRR.out, ← HP.out]; exact ⟨rfl, hcx⟩)
          | good v q' =>
            obtain ⟨rfl, rfl, rfl⟩ := hok
            obtain ⟨hqa, hqb⟩ := hXg t q' rfl
            have HP : Hid (tI b g0 d true (!true) q' (acc ++ [t]) = R) := Lib.hid hP2
            clear hP2 hXg
            go_wp2_with fail
            go_roundg e0
            case measure => omega
            case rel => exact ⟨1 + 1, j + 1, q', g0, c3, !true, A3, acc ++ [t], es ++ [u], by go_num, by omega, fun hx => absurd hx (by omega), fun _ => ⟨by omega, by omega⟩, by omega, by omega, by omega, by omega, by omega, HP, by decide, hT3, hH3, hR3, hV3, hRV3, hfr3⟩
end Go.Proofs.YtmelnaidjgpclaaGreatDoor
