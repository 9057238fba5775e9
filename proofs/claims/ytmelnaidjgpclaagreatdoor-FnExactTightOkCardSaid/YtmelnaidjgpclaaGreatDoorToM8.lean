/- The program's reader of the compact format: value at heads without elements. The program's reader of the compact format: value at texts, lists, maps, tags. The program's reader of the compact format: value, whole. GetTight: both sides. ReadTight: both sides. -/
import Derived.Test.YtmelnaidjgpclaaGreatDoorToM6
import Derived.Test.YtmelnaidjgpclaaGreatDoorToM7
import Derived.Test.YtmelnaidjgpclaaGreatDoorToM4
import Derived.Deep.Cut
import Derived.Deep.CutBlock
import Derived.Deep.DeepCutAuto
import Derived.Deep.RegionLaw
import Derived.Deep.RegionHeld3
import Derived.BigRegion
import Derived.Deep.QuietTactic
import Derived.BigQuiet
import Derived.Test.YtmelnaidjgpclaaGreatDoorToM5
import Derived.Test.YtmelnaidjgpclaaGreatDoorToBase
set_option linter.unusedVariables false
set_option maxRecDepth 100000
set_option linter.unusedSimpArgs false
namespace Go.Proofs.YtmelnaidjgpclaaGreatDoor
open Go.RowKit

theorem ls_one {w : World} {lo : Nat} {t : Tr} {u : El} (hl : LsAt w t.l u) (ho : Own w lo u.fp) (hlo : lo ≤ w.heap.size) :
    LsAt (w.alloc (.cells (valCells t u) 28)) [t] ⟨some ⟨w.heap.size, 0, none⟩, 1, 1, w.heap.size :: u.fp⟩ ∧ Own (w.alloc (.cells (valCells t u) 28)) lo (w.heap.size :: u.fp) := by
  have kb := Below.one w (.cells (valCells t u) 28)
  have hB := Blk.new w 28 (valCells t u)
  have hlt : ∀ g ∈ u.fp, g < w.heap.size := fun g hg => ho.lt hg
  have hfp : elFp [u] = u.fp := by simp [elFp]
  have one : ∀ (j : Nat) (t2 : Tr) (u2 : El), [t][j]? = some t2 → [u][j]? = some u2 → j = 0 ∧ t2 = t ∧ u2 = u := by
    intro j t2 u2 h1 h2
    cases j with
    | zero => simp at h1 h2; exact ⟨rfl, h1.symm, h2.symm⟩
    | succ j => simp at h1
  constructor
  · refine (lsAt_iff _ _).2 ⟨rfl, Nat.le_refl _, (show 1 ≤ maxLen by unfold maxLen; decide), [u], rfl, fun h => absurd (show (1 : Nat) = 0 from h) (by decide), fun _ => ⟨w.heap.size, 0, rfl, by rw [hfp], fun j t2 u2 h1 h2 => ?_⟩, fun j t2 u2 h1 h2 => ?_⟩
    · obtain ⟨rfl, rfl, rfl⟩ := one j t2 u2 h1 h2
      exact ⟨hB.cell 0, hB.cell 1, hB.cell 2, hB.cell 3, hB.cell 4⟩
    · obtain ⟨rfl, rfl, rfl⟩ := one j t2 u2 h1 h2
      exact (trAt_ls _ _).2 (hl.below hlt kb)
  · exact (ho.below hlt kb).cons (fun hx => Nat.lt_irrefl _ (hlt _ hx)) hlo ⟨_, _, hB⟩
set_option maxHeartbeats 8000000 in
theorem i_tv_deep (g : Nat) (A : Option Addr) (n c : Nat) (b : List UInt8) (i d : Int) (w : World) (h : QR w g A n c b i 0) (hi : -9223372036854775808 ≤ i ∧ i ≤ 9223372036854775807) (hd : d < 1) :
    Calls Tryz.prog 44 #[.pointer (some ⟨g, 0, none⟩), .int .i64 d] w fun r w' => ReadQ w w' g A n c b (Rd.bad 2) r := by
  have hgl := h.blk.lt
  have hbl := h.sl.blen
  have hbd := h.bd
  have k1 := Below.one w (.cells #[.int .i64 0, .int .i64 0, .int .i64 0, .string ⟨#[]⟩, .slice none 0 0] 28)
  have T1 := h.below k1 h.blk.lt
  have Z1 := Blk.new w 28 #[.int .i64 0, .int .i64 0, .int .i64 0, .string ⟨#[]⟩, .slice none 0 0]
  have fr1 := Fr.of_below (fp := [g]) k1
  obtain ⟨R, hR⟩ : ∃ R, Rd.bad 2 = R := ⟨_, rfl⟩
  rw [hR]
  have HR := Lib.hid hR
  clear hR
  have hdd : decide (d < 1) = true := decide_eq_true (by omega)
  go_enter Tryz.func44, Tryz.ntmps44
  go_upto_region 2 with fail
  generalize w.alloc (.cells #[.int .i64 0, .int .i64 0, .int .i64 0, .string ⟨#[]⟩, .slice none 0 0] 28) = wa at T1 Z1 fr1 ⊢
  have fin : ∀ (t : Tr) (u : El) (p k : Int) (lo : Nat) (wX : World) (tm : Array Value), Blk wX w.heap.size 28 #[.int .i64 0, .int .i64 0, .int .i64 0, .string ⟨#[]⟩, .slice none 0 0] → QR wX g A n c b p k → Fr [g] w wX → LsAt wX t.l u → Own wX lo u.fp → w.heap.size < lo → tm.getD 4 undef = .pointer (some ⟨w.heap.size, 0, none⟩) → RokI R t p k →
      bodyPost Tryz.prog Tryz.f44 (fun r w' => ReadQ w w' g A n c b R r) .ret ⟨tm, []⟩ (set5 wX w.heap.size 0 t u) := by
    intro t u p k lo wX tm hB hT hf hl ho hlo hp hRR
    have hn0 : w.heap.size ∉ u.fp := fun hx => by have := (ho.2 _ hx).1; omega
    have hblk : Blk (set5 wX w.heap.size 0 t u) w.heap.size 28 _ := Blk.five_ hB t u
    have hres := results_blk (P := Tryz.prog) (tmps := tm) Tryz.results44 Tryz.isAgg28 (by exact Tryz.sizeOf28) hp hblk
    refine bodyPost_ret hres rfl ?_
    exact ⟨t, u, p, k, rfl, hl.set5_ hn0, (ho.mono (by omega)).set5_ hn0, hT.set5_ hgl, fr_new5 hf (Nat.le_refl _), hRR⟩
  have zw : w.heap.size < wa.heap.size := Z1.lt
  have HF := i_tfail g A n c b i 2 wa T1
  unfold FailQ at HF
  obtain ⟨Zt, hZt⟩ : ∃ Zt, zeroT = Zt := ⟨_, rfl⟩
  rw [hZt] at HF
  have HZt := Lib.hid hZt
  clear hZt
  go_wp2_with (go_at_call 75; refine HF.mono ?_; rintro r w2 ⟨rfl, h2, hf2⟩; have BZ := Blk.ofFr Z1 hf2 (by omega); obtain ⟨x0, x1, x2, x3, x4, ⟨s0, t0⟩, ⟨s1, t1⟩, ⟨s2, t2⟩, ⟨s3, t3⟩, s4, t4⟩ := BZ.five (o := 0) (by simp) (.int .i64 (Zt).k) (.int .i64 (Zt).n) (.int .i64 (Zt).x) (.string (Zt).s))
  have hz := HZt.out
  subst hz
  exact fin zeroT ⟨none, 0, 0, []⟩ _ _ (w.heap.size + 1) w2 _ BZ h2 (fr1.trans hf2) (LsAt.nil_ _ _) (Own.nil_ _ _) (by omega) rfl (by rw [← HR.out]; exact ⟨rfl, by decide⟩)
set_option maxHeartbeats 8000000 in
theorem i_tv_head (g : Nat) (A : Option Addr) (n c : Nat) (b : List UInt8) (i d : Int) (w : World) (h : QR w g A n c b i 0) (hi : -9223372036854775808 ≤ i ∧ i ≤ 9223372036854775807) (hd : 1 ≤ d) (mj m wd q cd : Int) (hG : getHead b i = (mj, m, wd, q, cd)) (hcd : cd ≠ 0) :
    Calls Tryz.prog 44 #[.pointer (some ⟨g, 0, none⟩), .int .i64 d] w fun r w' => ReadQ w w' g A n c b (Rd.bad cd) r := by
  have hgl := h.blk.lt
  have hbl := h.sl.blen
  have hbd := h.bd
  have k1 := Below.one w (.cells #[.int .i64 0, .int .i64 0, .int .i64 0, .string ⟨#[]⟩, .slice none 0 0] 28)
  have T1 := h.below k1 h.blk.lt
  have Z1 := Blk.new w 28 #[.int .i64 0, .int .i64 0, .int .i64 0, .string ⟨#[]⟩, .slice none 0 0]
  have fr1 := Fr.of_below (fp := [g]) k1
  obtain ⟨R, hR⟩ : ∃ R, Rd.bad cd = R := ⟨_, rfl⟩
  rw [hR]
  have HR := Lib.hid hR
  clear hR
  have hdd : decide (d < 1) = false := decide_eq_false (by omega)
  go_enter Tryz.func44, Tryz.ntmps44
  go_upto_region 3 with fail
  generalize w.alloc (.cells #[.int .i64 0, .int .i64 0, .int .i64 0, .string ⟨#[]⟩, .slice none 0 0] 28) = wa at T1 Z1 fr1 ⊢
  have fin : ∀ (t : Tr) (u : El) (p k : Int) (lo : Nat) (wX : World) (tm : Array Value), Blk wX w.heap.size 28 #[.int .i64 0, .int .i64 0, .int .i64 0, .string ⟨#[]⟩, .slice none 0 0] → QR wX g A n c b p k → Fr [g] w wX → LsAt wX t.l u → Own wX lo u.fp → w.heap.size < lo → tm.getD 4 undef = .pointer (some ⟨w.heap.size, 0, none⟩) → RokI R t p k →
      bodyPost Tryz.prog Tryz.f44 (fun r w' => ReadQ w w' g A n c b R r) .ret ⟨tm, []⟩ (set5 wX w.heap.size 0 t u) := by
    intro t u p k lo wX tm hB hT hf hl ho hlo hp hRR
    have hn0 : w.heap.size ∉ u.fp := fun hx => by have := (ho.2 _ hx).1; omega
    have hblk : Blk (set5 wX w.heap.size 0 t u) w.heap.size 28 _ := Blk.five_ hB t u
    have hres := results_blk (P := Tryz.prog) (tmps := tm) Tryz.results44 Tryz.isAgg28 (by exact Tryz.sizeOf28) hp hblk
    refine bodyPost_ret hres rfl ?_
    exact ⟨t, u, p, k, rfl, hl.set5_ hn0, (ho.mono (by omega)).set5_ hn0, hT.set5_ hgl, fr_new5 hf (Nat.le_refl _), hRR⟩
  have zw : w.heap.size < wa.heap.size := Z1.lt
  have HH := i_thead_bad g A n c b i wa T1 hi mj m wd q cd hG hcd
  unfold HeadP at HH
  have hcb : (cd != 0) = true := by simpa using hcd
  go_upto_region 4 with (go_at_call 76; refine HH.mono ?_; rintro r w5 ⟨rfl, T5, hf5⟩)
  have kx := Below.one w5 (.cells #[.int .i64 0, .int .i64 0, .int .i64 0] 36)
  have T6 := T5.below kx T5.blk.lt
  have Z6 := (Blk.ofFr Z1 hf5 (by omega)).below kx (Blk.ofFr Z1 hf5 (by omega)).lt
  have fr6 := (fr1.trans hf5).trans (Fr.of_below kx)
  generalize w5.alloc (.cells #[.int .i64 0, .int .i64 0, .int .i64 0] 36) = w6 at T6 Z6 fr6 ⊢
  clear T1 Z1 fr1 T5 hf5 kx HH k1
  obtain ⟨c0, c1, c2⟩ := T6.cells
  obtain ⟨x0, x1, x2, x3, x4, ⟨s0, t0⟩, ⟨s1, t1⟩, ⟨s2, t2⟩, ⟨s3, t3⟩, s4, t4⟩ := Z6.five (o := 0) (by simp) (.int .i64 (zeroT).k) (.int .i64 (zeroT).n) (.int .i64 (zeroT).x) (.string (zeroT).s)
  simp only [leafTr, zeroT] at s0 s1 s2 s3 s4 t0 t1 t2 t3 t4
  go_wp2_with fail
  exact fin zeroT ⟨none, 0, 0, []⟩ _ _ (w.heap.size + 1) w6 _ Z6 T6 fr6 (LsAt.nil_ _ _) (Own.nil_ _ _) (by omega) rfl (by rw [← HR.out]; exact ⟨rfl, hcd⟩)
set_option maxHeartbeats 8000000 in
theorem i_tv_int (g : Nat) (A : Option Addr) (n c : Nat) (b : List UInt8) (i d : Int) (w : World) (h : QR w g A n c b i 0) (hi : -9223372036854775808 ≤ i ∧ i ≤ 9223372036854775807) (hd : 1 ≤ d) (m wd q : Int) (hG : getHead b i = (0, m, wd, q, 0)) :
    Calls Tryz.prog 44 #[.pointer (some ⟨g, 0, none⟩), .int .i64 d] w fun r w' => ReadQ w w' g A n c b (Rd.good (leafTr 3 m 0 ⟨#[]⟩) q.toNat) r := by
  have hgl := h.blk.lt
  have hbl := h.sl.blen
  have hbd := h.bd
  have k1 := Below.one w (.cells #[.int .i64 0, .int .i64 0, .int .i64 0, .string ⟨#[]⟩, .slice none 0 0] 28)
  have T1 := h.below k1 h.blk.lt
  have Z1 := Blk.new w 28 #[.int .i64 0, .int .i64 0, .int .i64 0, .string ⟨#[]⟩, .slice none 0 0]
  have fr1 := Fr.of_below (fp := [g]) k1
  obtain ⟨R, hR⟩ : ∃ R, Rd.good (leafTr 3 m 0 ⟨#[]⟩) q.toNat = R := ⟨_, rfl⟩
  rw [hR]
  have HR := Lib.hid hR
  clear hR
  have hdd : decide (d < 1) = false := decide_eq_false (by omega)
  go_enter Tryz.func44, Tryz.ntmps44
  go_upto_region 3 with fail
  generalize w.alloc (.cells #[.int .i64 0, .int .i64 0, .int .i64 0, .string ⟨#[]⟩, .slice none 0 0] 28) = wa at T1 Z1 fr1 ⊢
  have fin : ∀ (t : Tr) (u : El) (p k : Int) (lo : Nat) (wX : World) (tm : Array Value), Blk wX w.heap.size 28 #[.int .i64 0, .int .i64 0, .int .i64 0, .string ⟨#[]⟩, .slice none 0 0] → QR wX g A n c b p k → Fr [g] w wX → LsAt wX t.l u → Own wX lo u.fp → w.heap.size < lo → tm.getD 4 undef = .pointer (some ⟨w.heap.size, 0, none⟩) → RokI R t p k →
      bodyPost Tryz.prog Tryz.f44 (fun r w' => ReadQ w w' g A n c b R r) .ret ⟨tm, []⟩ (set5 wX w.heap.size 0 t u) := by
    intro t u p k lo wX tm hB hT hf hl ho hlo hp hRR
    have hn0 : w.heap.size ∉ u.fp := fun hx => by have := (ho.2 _ hx).1; omega
    have hblk : Blk (set5 wX w.heap.size 0 t u) w.heap.size 28 _ := Blk.five_ hB t u
    have hres := results_blk (P := Tryz.prog) (tmps := tm) Tryz.results44 Tryz.isAgg28 (by exact Tryz.sizeOf28) hp hblk
    refine bodyPost_ret hres rfl ?_
    exact ⟨t, u, p, k, rfl, hl.set5_ hn0, (ho.mono (by omega)).set5_ hn0, hT.set5_ hgl, fr_new5 hf (Nat.le_refl _), hRR⟩
  have zw : w.heap.size < wa.heap.size := Z1.lt
  have HH := i_thead_good g A n c b i wa T1 hi 0 m wd q 0 hG rfl
  unfold HeadP at HH
  go_upto_region 4 with (go_at_call 76; refine HH.mono ?_; rintro r w5 ⟨rfl, T5, hf5⟩)
  have kx := Below.one w5 (.cells #[.int .i64 0, .int .i64 m, .int .i64 wd] 36)
  have T6 := T5.below kx T5.blk.lt
  have Z6 := (Blk.ofFr Z1 hf5 (by omega)).below kx (Blk.ofFr Z1 hf5 (by omega)).lt
  have M6 := Blk.new w5 36 #[.int .i64 0, .int .i64 m, .int .i64 wd]
  have fr6 := (fr1.trans hf5).trans (Fr.of_below kx)
  have zw6 : w.heap.size < w5.heap.size := Nat.lt_of_lt_of_le zw hf5.size
  generalize w5.heap.size = bm at M6 zw6 ⊢
  generalize w5.alloc (.cells #[.int .i64 0, .int .i64 m, .int .i64 wd] 36) = w6 at T6 Z6 M6 fr6 ⊢
  clear T1 Z1 fr1 T5 hf5 kx HH k1 zw
  obtain ⟨c0, c1, c2⟩ := T6.cells
  have e0 := M6.cell 0
  have e1 := M6.cell 1
  have e2 := M6.cell 2
  simp only [List.getElem?_toArray, List.getElem?_cons_succ, List.getElem?_cons_zero] at e0 e1 e2
  have zb6 : bm < w6.heap.size := M6.lt
  have hqq : q = ((q.toNat : Nat) : Int) := by have := head_facts hG; omega
  have HQ := Lib.hid hqq
  clear hqq
  have HI := fun w1 => i_IntVal (m) w1
  obtain ⟨T, hT⟩ : ∃ T, leafTr 3 (m) 0 ⟨#[]⟩ = T := ⟨_, rfl⟩
  rw [hT] at HI
  have HT := Lib.hid hT
  clear hT
  go_wp2_with (go_at_call 77; refine (HI _).mono ?_; rintro r w7 ⟨rfl, hb7⟩; have Z7 := Z6.below hb7 Z6.lt; obtain ⟨x0, x1, x2, x3, x4, ⟨s0, t0⟩, ⟨s1, t1⟩, ⟨s2, t2⟩, ⟨s3, t3⟩, s4, t4⟩ := Z7.five (o := 0) (by simp) (.int .i64 (T).k) (.int .i64 (T).n) (.int .i64 (T).x) (.string (T).s))
  have hTl : T.l = [] := by rw [← HT.out]; rfl
  exact fin T ⟨none, 0, 0, []⟩ _ _ (w.heap.size + 1) w7 _ Z7 (T6.below hb7 T6.blk.lt) (fr6.trans (Fr.of_below hb7)) (by rw [hTl]; exact LsAt.nil_ _ _) (Own.nil_ _ _) (by omega) rfl (by rw [← HR.out, ← HT.out]; exact ⟨rfl, HQ.out, rfl⟩)
set_option maxHeartbeats 8000000 in
theorem i_tv_neg (g : Nat) (A : Option Addr) (n c : Nat) (b : List UInt8) (i d : Int) (w : World) (h : QR w g A n c b i 0) (hi : -9223372036854775808 ≤ i ∧ i ≤ 9223372036854775807) (hd : 1 ≤ d) (m wd q : Int) (hG : getHead b i = (1, m, wd, q, 0)) (hm : m < 1000000000000000) :
    Calls Tryz.prog 44 #[.pointer (some ⟨g, 0, none⟩), .int .i64 d] w fun r w' => ReadQ w w' g A n c b (Rd.good (leafTr 3 (-1 - m) 0 ⟨#[]⟩) q.toNat) r := by
  have hgl := h.blk.lt
  have hbl := h.sl.blen
  have hbd := h.bd
  have k1 := Below.one w (.cells #[.int .i64 0, .int .i64 0, .int .i64 0, .string ⟨#[]⟩, .slice none 0 0] 28)
  have T1 := h.below k1 h.blk.lt
  have Z1 := Blk.new w 28 #[.int .i64 0, .int .i64 0, .int .i64 0, .string ⟨#[]⟩, .slice none 0 0]
  have fr1 := Fr.of_below (fp := [g]) k1
  obtain ⟨R, hR⟩ : ∃ R, Rd.good (leafTr 3 (-1 - m) 0 ⟨#[]⟩) q.toNat = R := ⟨_, rfl⟩
  rw [hR]
  have HR := Lib.hid hR
  clear hR
  have hdd : decide (d < 1) = false := decide_eq_false (by omega)
  go_enter Tryz.func44, Tryz.ntmps44
  go_upto_region 3 with fail
  generalize w.alloc (.cells #[.int .i64 0, .int .i64 0, .int .i64 0, .string ⟨#[]⟩, .slice none 0 0] 28) = wa at T1 Z1 fr1 ⊢
  have fin : ∀ (t : Tr) (u : El) (p k : Int) (lo : Nat) (wX : World) (tm : Array Value), Blk wX w.heap.size 28 #[.int .i64 0, .int .i64 0, .int .i64 0, .string ⟨#[]⟩, .slice none 0 0] → QR wX g A n c b p k → Fr [g] w wX → LsAt wX t.l u → Own wX lo u.fp → w.heap.size < lo → tm.getD 4 undef = .pointer (some ⟨w.heap.size, 0, none⟩) → RokI R t p k →
      bodyPost Tryz.prog Tryz.f44 (fun r w' => ReadQ w w' g A n c b R r) .ret ⟨tm, []⟩ (set5 wX w.heap.size 0 t u) := by
    intro t u p k lo wX tm hB hT hf hl ho hlo hp hRR
    have hn0 : w.heap.size ∉ u.fp := fun hx => by have := (ho.2 _ hx).1; omega
    have hblk : Blk (set5 wX w.heap.size 0 t u) w.heap.size 28 _ := Blk.five_ hB t u
    have hres := results_blk (P := Tryz.prog) (tmps := tm) Tryz.results44 Tryz.isAgg28 (by exact Tryz.sizeOf28) hp hblk
    refine bodyPost_ret hres rfl ?_
    exact ⟨t, u, p, k, rfl, hl.set5_ hn0, (ho.mono (by omega)).set5_ hn0, hT.set5_ hgl, fr_new5 hf (Nat.le_refl _), hRR⟩
  have zw : w.heap.size < wa.heap.size := Z1.lt
  have HH := i_thead_good g A n c b i wa T1 hi 1 m wd q 0 hG rfl
  unfold HeadP at HH
  go_upto_region 4 with (go_at_call 76; refine HH.mono ?_; rintro r w5 ⟨rfl, T5, hf5⟩)
  have kx := Below.one w5 (.cells #[.int .i64 1, .int .i64 m, .int .i64 wd] 36)
  have T6 := T5.below kx T5.blk.lt
  have Z6 := (Blk.ofFr Z1 hf5 (by omega)).below kx (Blk.ofFr Z1 hf5 (by omega)).lt
  have M6 := Blk.new w5 36 #[.int .i64 1, .int .i64 m, .int .i64 wd]
  have fr6 := (fr1.trans hf5).trans (Fr.of_below kx)
  have zw6 : w.heap.size < w5.heap.size := Nat.lt_of_lt_of_le zw hf5.size
  generalize w5.heap.size = bm at M6 zw6 ⊢
  generalize w5.alloc (.cells #[.int .i64 1, .int .i64 m, .int .i64 wd] 36) = w6 at T6 Z6 M6 fr6 ⊢
  clear T1 Z1 fr1 T5 hf5 kx HH k1 zw
  obtain ⟨c0, c1, c2⟩ := T6.cells
  have e0 := M6.cell 0
  have e1 := M6.cell 1
  have e2 := M6.cell 2
  simp only [List.getElem?_toArray, List.getElem?_cons_succ, List.getElem?_cons_zero] at e0 e1 e2
  have zb6 : bm < w6.heap.size := M6.lt
  have hqq : q = ((q.toNat : Nat) : Int) ∧ 0 ≤ m := by have := head_facts hG; omega
  have HQ := Lib.hid hqq
  have hwm : IntKind.i64.wrap (-1 - m) = -1 - m := by rw [IntKind.wrap_i64]; omega
  clear hqq
  have hmd : decide (999999999999999 < m) = false := decide_eq_false (by omega)
  have HI := fun w1 => i_IntVal (-1 - m) w1
  obtain ⟨T, hT⟩ : ∃ T, leafTr 3 (-1 - m) 0 ⟨#[]⟩ = T := ⟨_, rfl⟩
  rw [hT] at HI
  have HT := Lib.hid hT
  clear hT
  go_wp2_with (go_at_call 77; refine (HI _).mono ?_; rintro r w7 ⟨rfl, hb7⟩; have Z7 := Z6.below hb7 Z6.lt; obtain ⟨x0, x1, x2, x3, x4, ⟨s0, t0⟩, ⟨s1, t1⟩, ⟨s2, t2⟩, ⟨s3, t3⟩, s4, t4⟩ := Z7.five (o := 0) (by simp) (.int .i64 (T).k) (.int .i64 (T).n) (.int .i64 (T).x) (.string (T).s))
  have hTl : T.l = [] := by rw [← HT.out]; rfl
  exact fin T ⟨none, 0, 0, []⟩ _ _ (w.heap.size + 1) w7 _ Z7 (T6.below hb7 T6.blk.lt) (fr6.trans (Fr.of_below hb7)) (by rw [hTl]; exact LsAt.nil_ _ _) (Own.nil_ _ _) (by omega) rfl (by rw [← HR.out, ← HT.out]; exact ⟨rfl, HQ.out.1, rfl⟩)
set_option maxHeartbeats 8000000 in
theorem i_tv_low (g : Nat) (A : Option Addr) (n c : Nat) (b : List UInt8) (i d : Int) (w : World) (h : QR w g A n c b i 0) (hi : -9223372036854775808 ≤ i ∧ i ≤ 9223372036854775807) (hd : 1 ≤ d) (m wd q : Int) (hG : getHead b i = (1, m, wd, q, 0)) (hm : 1000000000000000 ≤ m) :
    Calls Tryz.prog 44 #[.pointer (some ⟨g, 0, none⟩), .int .i64 d] w fun r w' => ReadQ w w' g A n c b (Rd.bad 2) r := by
  have hgl := h.blk.lt
  have hbl := h.sl.blen
  have hbd := h.bd
  have k1 := Below.one w (.cells #[.int .i64 0, .int .i64 0, .int .i64 0, .string ⟨#[]⟩, .slice none 0 0] 28)
  have T1 := h.below k1 h.blk.lt
  have Z1 := Blk.new w 28 #[.int .i64 0, .int .i64 0, .int .i64 0, .string ⟨#[]⟩, .slice none 0 0]
  have fr1 := Fr.of_below (fp := [g]) k1
  obtain ⟨R, hR⟩ : ∃ R, Rd.bad 2 = R := ⟨_, rfl⟩
  rw [hR]
  have HR := Lib.hid hR
  clear hR
  have hdd : decide (d < 1) = false := decide_eq_false (by omega)
  go_enter Tryz.func44, Tryz.ntmps44
  go_upto_region 3 with fail
  generalize w.alloc (.cells #[.int .i64 0, .int .i64 0, .int .i64 0, .string ⟨#[]⟩, .slice none 0 0] 28) = wa at T1 Z1 fr1 ⊢
  have fin : ∀ (t : Tr) (u : El) (p k : Int) (lo : Nat) (wX : World) (tm : Array Value), Blk wX w.heap.size 28 #[.int .i64 0, .int .i64 0, .int .i64 0, .string ⟨#[]⟩, .slice none 0 0] → QR wX g A n c b p k → Fr [g] w wX → LsAt wX t.l u → Own wX lo u.fp → w.heap.size < lo → tm.getD 4 undef = .pointer (some ⟨w.heap.size, 0, none⟩) → RokI R t p k →
      bodyPost Tryz.prog Tryz.f44 (fun r w' => ReadQ w w' g A n c b R r) .ret ⟨tm, []⟩ (set5 wX w.heap.size 0 t u) := by
    intro t u p k lo wX tm hB hT hf hl ho hlo hp hRR
    have hn0 : w.heap.size ∉ u.fp := fun hx => by have := (ho.2 _ hx).1; omega
    have hblk : Blk (set5 wX w.heap.size 0 t u) w.heap.size 28 _ := Blk.five_ hB t u
    have hres := results_blk (P := Tryz.prog) (tmps := tm) Tryz.results44 Tryz.isAgg28 (by exact Tryz.sizeOf28) hp hblk
    refine bodyPost_ret hres rfl ?_
    exact ⟨t, u, p, k, rfl, hl.set5_ hn0, (ho.mono (by omega)).set5_ hn0, hT.set5_ hgl, fr_new5 hf (Nat.le_refl _), hRR⟩
  have zw : w.heap.size < wa.heap.size := Z1.lt
  have HH := i_thead_good g A n c b i wa T1 hi 1 m wd q 0 hG rfl
  unfold HeadP at HH
  go_upto_region 4 with (go_at_call 76; refine HH.mono ?_; rintro r w5 ⟨rfl, T5, hf5⟩)
  have kx := Below.one w5 (.cells #[.int .i64 1, .int .i64 m, .int .i64 wd] 36)
  have T6 := T5.below kx T5.blk.lt
  have Z6 := (Blk.ofFr Z1 hf5 (by omega)).below kx (Blk.ofFr Z1 hf5 (by omega)).lt
  have M6 := Blk.new w5 36 #[.int .i64 1, .int .i64 m, .int .i64 wd]
  have fr6 := (fr1.trans hf5).trans (Fr.of_below kx)
  have zw6 : w.heap.size < w5.heap.size := Nat.lt_of_lt_of_le zw hf5.size
  generalize w5.heap.size = bm at M6 zw6 ⊢
  generalize w5.alloc (.cells #[.int .i64 1, .int .i64 m, .int .i64 wd] 36) = w6 at T6 Z6 M6 fr6 ⊢
  clear T1 Z1 fr1 T5 hf5 kx HH k1 zw
  obtain ⟨c0, c1, c2⟩ := T6.cells
  have e0 := M6.cell 0
  have e1 := M6.cell 1
  have e2 := M6.cell 2
  simp only [List.getElem?_toArray, List.getElem?_cons_succ, List.getElem?_cons_zero] at e0 e1 e2
  have zb6 : bm < w6.heap.size := M6.lt
  have hmd : decide (999999999999999 < m) = true := decide_eq_true (by omega)
  have HF := i_tfail g A n c b q 2 w6 T6
  unfold FailQ at HF
  obtain ⟨Zt, hZt⟩ : ∃ Zt, zeroT = Zt := ⟨_, rfl⟩
  rw [hZt] at HF
  have HZt := Lib.hid hZt
  clear hZt
  go_wp2_with (go_at_call 75; refine HF.mono ?_; rintro r w2 ⟨rfl, h2, hf2⟩; have BZ := Blk.ofFr Z6 hf2 (by omega); obtain ⟨x0, x1, x2, x3, x4, ⟨s0, t0⟩, ⟨s1, t1⟩, ⟨s2, t2⟩, ⟨s3, t3⟩, s4, t4⟩ := BZ.five (o := 0) (by simp) (.int .i64 (Zt).k) (.int .i64 (Zt).n) (.int .i64 (Zt).x) (.string (Zt).s))
  have hz := HZt.out
  subst hz
  exact fin zeroT ⟨none, 0, 0, []⟩ _ _ (w.heap.size + 1) w2 _ BZ h2 (fr6.trans hf2) (LsAt.nil_ _ _) (Own.nil_ _ _) (by omega) rfl (by rw [← HR.out]; exact ⟨rfl, by decide⟩)
end Go.Proofs.YtmelnaidjgpclaaGreatDoor

namespace Go.Proofs.YtmelnaidjgpclaaGreatDoor
open Go.RowKit

set_option maxHeartbeats 8000000 in
theorem i_tv_simp (g : Nat) (A : Option Addr) (n c : Nat) (b : List UInt8) (i d : Int) (w : World) (h : QR w g A n c b i 0) (hi : -9223372036854775808 ≤ i ∧ i ≤ 9223372036854775807) (hd : 1 ≤ d) (m wd q : Int) (hG : getHead b i = (7, m, wd, q, 0)) :
    Calls Tryz.prog 44 #[.pointer (some ⟨g, 0, none⟩), .int .i64 d] w fun r w' => ReadQ w w' g A n c b (simpR m wd q.toNat) r := by
  obtain ⟨qn, rfl⟩ := Int.eq_ofNat_of_zero_le (show 0 ≤ q by have := head_facts hG; omega)
  have hq : qn ≤ n := by have := head_facts hG; have := h.sl.blen; omega
  have hm0 := (head_facts hG).2.2.2.2.1
  rw [Int.toNat_natCast]
  have hgl := h.blk.lt
  have hbl := h.sl.blen
  have hbd := h.bd
  have k1 := Below.one w (.cells #[.int .i64 0, .int .i64 0, .int .i64 0, .string ⟨#[]⟩, .slice none 0 0] 28)
  have T1 := h.below k1 h.blk.lt
  have Z1 := Blk.new w 28 #[.int .i64 0, .int .i64 0, .int .i64 0, .string ⟨#[]⟩, .slice none 0 0]
  have fr1 := Fr.of_below (fp := [g]) k1
  obtain ⟨R, hR⟩ : ∃ R, simpR m wd qn = R := ⟨_, rfl⟩
  rw [hR]
  have HR := Lib.hid hR
  clear hR
  have hdd : decide (d < 1) = false := decide_eq_false (by omega)
  go_enter Tryz.func44, Tryz.ntmps44
  go_upto_region 3 with fail
  generalize w.alloc (.cells #[.int .i64 0, .int .i64 0, .int .i64 0, .string ⟨#[]⟩, .slice none 0 0] 28) = wa at T1 Z1 fr1 ⊢
  have fin : ∀ (t : Tr) (u : El) (p k : Int) (lo : Nat) (wX : World) (tm : Array Value), Blk wX w.heap.size 28 #[.int .i64 0, .int .i64 0, .int .i64 0, .string ⟨#[]⟩, .slice none 0 0] → QR wX g A n c b p k → Fr [g] w wX → LsAt wX t.l u → Own wX lo u.fp → w.heap.size < lo → tm.getD 4 undef = .pointer (some ⟨w.heap.size, 0, none⟩) → RokI R t p k →
      bodyPost Tryz.prog Tryz.f44 (fun r w' => ReadQ w w' g A n c b R r) .ret ⟨tm, []⟩ (set5 wX w.heap.size 0 t u) := by
    intro t u p k lo wX tm hB hT hf hl ho hlo hp hRR
    have hn0 : w.heap.size ∉ u.fp := fun hx => by have := (ho.2 _ hx).1; omega
    have hblk : Blk (set5 wX w.heap.size 0 t u) w.heap.size 28 _ := Blk.five_ hB t u
    have hres := results_blk (P := Tryz.prog) (tmps := tm) Tryz.results44 Tryz.isAgg28 (by exact Tryz.sizeOf28) hp hblk
    refine bodyPost_ret hres rfl ?_
    exact ⟨t, u, p, k, rfl, hl.set5_ hn0, (ho.mono (by omega)).set5_ hn0, hT.set5_ hgl, fr_new5 hf (Nat.le_refl _), hRR⟩
  have zw : w.heap.size < wa.heap.size := Z1.lt
  have HH := i_thead_good g A n c b i wa T1 hi 7 m wd qn 0 hG rfl
  unfold HeadP at HH
  go_upto_region 4 with (go_at_call 76; refine HH.mono ?_; rintro r w5 ⟨rfl, T5, hf5⟩)
  have kx := Below.one w5 (.cells #[.int .i64 7, .int .i64 m, .int .i64 wd] 36)
  have T6 := T5.below kx T5.blk.lt
  have Z6 := (Blk.ofFr Z1 hf5 (by omega)).below kx (Blk.ofFr Z1 hf5 (by omega)).lt
  have M6 := Blk.new w5 36 #[.int .i64 7, .int .i64 m, .int .i64 wd]
  have fr6 := (fr1.trans hf5).trans (Fr.of_below kx)
  have zw6 : w.heap.size < w5.heap.size := Nat.lt_of_lt_of_le zw hf5.size
  generalize w5.heap.size = bm at M6 zw6 ⊢
  generalize w5.alloc (.cells #[.int .i64 7, .int .i64 m, .int .i64 wd] 36) = w6 at T6 Z6 M6 fr6 ⊢
  clear T1 Z1 fr1 T5 hf5 kx HH k1 zw
  obtain ⟨c0, c1, c2⟩ := T6.cells
  have e0 := M6.cell 0
  have e1 := M6.cell 1
  have e2 := M6.cell 2
  simp only [List.getElem?_toArray, List.getElem?_cons_succ, List.getElem?_cons_zero] at e0 e1 e2
  have zb6 : bm < w6.heap.size := M6.lt
  have HC := i_tsimple g A n c b qn 7 m wd w6 T6 hm0
  unfold ReadQ at HC
  go_wp2_with (go_at_call 80; refine HC.mono ?_; rintro r w7 ⟨t, u, p', k', rfl, hl7, ho7, T7, hf7, hok⟩; have Z7 := Blk.ofFr Z6 hf7 (by omega); obtain ⟨x0, x1, x2, x3, x4, ⟨s0, t0⟩, ⟨s1, t1⟩, ⟨s2, t2⟩, ⟨s3, t3⟩, s4, t4⟩ := Z7.five (o := 0) (by simp) (.int .i64 (t).k) (.int .i64 (t).n) (.int .i64 (t).x) (.string (t).s))
  exact fin t u p' k' w6.heap.size w7 _ Z7 T7 (fr6.trans hf7) hl7 ho7 (by omega) rfl (by rw [← HR.out]; exact hok)
set_option maxHeartbeats 8000000 in
theorem i_tv_text2 (g : Nat) (A : Option Addr) (n c : Nat) (b : List UInt8) (i d : Int) (w : World) (h : QR w g A n c b i 0) (hi : -9223372036854775808 ≤ i ∧ i ≤ 9223372036854775807) (hd : 1 ≤ d) (m wd q : Int) (hG : getHead b i = (2, m, wd, q, 0)) (hw : wd ≠ -1) (hX : TXs w g) :
    Calls Tryz.prog 44 #[.pointer (some ⟨g, 0, none⟩), .int .i64 d] w fun r w' => ReadQ w w' g A n c b (closeS 2 (anyS b 2 m wd q.toNat)) r := by
  obtain ⟨qn, rfl⟩ := Int.eq_ofNat_of_zero_le (show 0 ≤ q by have := head_facts hG; omega)
  have hq : qn ≤ n := by have := head_facts hG; have := h.sl.blen; omega
  obtain ⟨mm, rfl⟩ := Int.eq_ofNat_of_zero_le (show 0 ≤ m by have := (head_facts hG).2.2.2.2.1; omega)
  have hmm : mm ≤ 1000000000000000 := by have := (head_facts hG).2.2.2.2.1; omega
  rw [Int.toNat_natCast]
  have hgl := h.blk.lt
  have hbl := h.sl.blen
  have hbd := h.bd
  have k1 := Below.one w (.cells #[.int .i64 0, .int .i64 0, .int .i64 0, .string ⟨#[]⟩, .slice none 0 0] 28)
  have T1 := h.below k1 h.blk.lt
  have Z1 := Blk.new w 28 #[.int .i64 0, .int .i64 0, .int .i64 0, .string ⟨#[]⟩, .slice none 0 0]
  have fr1 := Fr.of_below (fp := [g]) k1
  obtain ⟨R, hR⟩ : ∃ R, closeS 2 (anyS b 2 mm wd qn) = R := ⟨_, rfl⟩
  rw [hR]
  have HR := Lib.hid hR
  clear hR
  have hdd : decide (d < 1) = false := decide_eq_false (by omega)
  go_enter Tryz.func44, Tryz.ntmps44
  go_upto_region 3 with fail
  generalize w.alloc (.cells #[.int .i64 0, .int .i64 0, .int .i64 0, .string ⟨#[]⟩, .slice none 0 0] 28) = wa at T1 Z1 fr1 ⊢
  have fin : ∀ (t : Tr) (u : El) (p k : Int) (lo : Nat) (wX : World) (tm : Array Value), Blk wX w.heap.size 28 #[.int .i64 0, .int .i64 0, .int .i64 0, .string ⟨#[]⟩, .slice none 0 0] → QR wX g A n c b p k → Fr [g] w wX → LsAt wX t.l u → Own wX lo u.fp → w.heap.size < lo → tm.getD 4 undef = .pointer (some ⟨w.heap.size, 0, none⟩) → RokI R t p k →
      bodyPost Tryz.prog Tryz.f44 (fun r w' => ReadQ w w' g A n c b R r) .ret ⟨tm, []⟩ (set5 wX w.heap.size 0 t u) := by
    intro t u p k lo wX tm hB hT hf hl ho hlo hp hRR
    have hn0 : w.heap.size ∉ u.fp := fun hx => by have := (ho.2 _ hx).1; omega
    have hblk : Blk (set5 wX w.heap.size 0 t u) w.heap.size 28 _ := Blk.five_ hB t u
    have hres := results_blk (P := Tryz.prog) (tmps := tm) Tryz.results44 Tryz.isAgg28 (by exact Tryz.sizeOf28) hp hblk
    refine bodyPost_ret hres rfl ?_
    exact ⟨t, u, p, k, rfl, hl.set5_ hn0, (ho.mono (by omega)).set5_ hn0, hT.set5_ hgl, fr_new5 hf (Nat.le_refl _), hRR⟩
  have zw : w.heap.size < wa.heap.size := Z1.lt
  have HH := i_thead_good g A n c b i wa T1 hi 2 mm wd qn 0 hG rfl
  unfold HeadP at HH
  go_upto_region 4 with (go_at_call 76; refine HH.mono ?_; rintro r w5 ⟨rfl, T5, hf5⟩)
  have kx := Below.one w5 (.cells #[.int .i64 2, .int .i64 mm, .int .i64 wd] 36)
  have T6 := T5.below kx T5.blk.lt
  have Z6 := (Blk.ofFr Z1 hf5 (by omega)).below kx (Blk.ofFr Z1 hf5 (by omega)).lt
  have M6 := Blk.new w5 36 #[.int .i64 2, .int .i64 mm, .int .i64 wd]
  have fr6 := (fr1.trans hf5).trans (Fr.of_below kx)
  have zw6 : w.heap.size < w5.heap.size := Nat.lt_of_lt_of_le zw hf5.size
  generalize w5.heap.size = bm at M6 zw6 ⊢
  generalize w5.alloc (.cells #[.int .i64 2, .int .i64 mm, .int .i64 wd] 36) = w6 at T6 Z6 M6 fr6 ⊢
  clear T1 Z1 fr1 T5 hf5 kx HH k1 zw
  obtain ⟨c0, c1, c2⟩ := T6.cells
  have e0 := M6.cell 0
  have e1 := M6.cell 1
  have e2 := M6.cell 2
  simp only [List.getElem?_toArray, List.getElem?_cons_succ, List.getElem?_cons_zero] at e0 e1 e2
  have zb6 : bm < w6.heap.size := M6.lt
  have HC := i_ttext2 g A n c b qn mm wd w6 T6 hq hmm hw (hX.fr fr6)
  unfold ReadQ at HC
  go_wp2_with (go_at_call 78; refine HC.mono ?_; rintro r w7 ⟨t, u, p', k', rfl, hl7, ho7, T7, hf7, hok⟩; have Z7 := Blk.ofFr Z6 hf7 (by omega); obtain ⟨x0, x1, x2, x3, x4, ⟨s0, t0⟩, ⟨s1, t1⟩, ⟨s2, t2⟩, ⟨s3, t3⟩, s4, t4⟩ := Z7.five (o := 0) (by simp) (.int .i64 (t).k) (.int .i64 (t).n) (.int .i64 (t).x) (.string (t).s))
  exact fin t u p' k' w6.heap.size w7 _ Z7 T7 (fr6.trans hf7) hl7 ho7 (by omega) rfl (by rw [← HR.out]; exact hok)
set_option maxHeartbeats 8000000 in
theorem i_tv_text2i (g : Nat) (A : Option Addr) (n c : Nat) (b : List UInt8) (i d : Int) (w : World) (h : QR w g A n c b i 0) (hi : -9223372036854775808 ≤ i ∧ i ≤ 9223372036854775807) (hd : 1 ≤ d) (q : Int) (hG : getHead b i = (2, 0, -1, q, 0)) (hX : TXs w g) :
    Calls Tryz.prog 44 #[.pointer (some ⟨g, 0, none⟩), .int .i64 d] w fun r w' => ReadQ w w' g A n c b (closeS 2 (anyS b 2 0 (-1) q.toNat)) r := by
  obtain ⟨qn, rfl⟩ := Int.eq_ofNat_of_zero_le (show 0 ≤ q by have := head_facts hG; omega)
  have hq : qn ≤ n := by have := head_facts hG; have := h.sl.blen; omega
  rw [Int.toNat_natCast]
  have hgl := h.blk.lt
  have hbl := h.sl.blen
  have hbd := h.bd
  have k1 := Below.one w (.cells #[.int .i64 0, .int .i64 0, .int .i64 0, .string ⟨#[]⟩, .slice none 0 0] 28)
  have T1 := h.below k1 h.blk.lt
  have Z1 := Blk.new w 28 #[.int .i64 0, .int .i64 0, .int .i64 0, .string ⟨#[]⟩, .slice none 0 0]
  have fr1 := Fr.of_below (fp := [g]) k1
  obtain ⟨R, hR⟩ : ∃ R, closeS 2 (anyS b 2 0 (-1) qn) = R := ⟨_, rfl⟩
  rw [hR]
  have HR := Lib.hid hR
  clear hR
  have hdd : decide (d < 1) = false := decide_eq_false (by omega)
  go_enter Tryz.func44, Tryz.ntmps44
  go_upto_region 3 with fail
  generalize w.alloc (.cells #[.int .i64 0, .int .i64 0, .int .i64 0, .string ⟨#[]⟩, .slice none 0 0] 28) = wa at T1 Z1 fr1 ⊢
  have fin : ∀ (t : Tr) (u : El) (p k : Int) (lo : Nat) (wX : World) (tm : Array Value), Blk wX w.heap.size 28 #[.int .i64 0, .int .i64 0, .int .i64 0, .string ⟨#[]⟩, .slice none 0 0] → QR wX g A n c b p k → Fr [g] w wX → LsAt wX t.l u → Own wX lo u.fp → w.heap.size < lo → tm.getD 4 undef = .pointer (some ⟨w.heap.size, 0, none⟩) → RokI R t p k →
      bodyPost Tryz.prog Tryz.f44 (fun r w' => ReadQ w w' g A n c b R r) .ret ⟨tm, []⟩ (set5 wX w.heap.size 0 t u) := by
    intro t u p k lo wX tm hB hT hf hl ho hlo hp hRR
    have hn0 : w.heap.size ∉ u.fp := fun hx => by have := (ho.2 _ hx).1; omega
    have hblk : Blk (set5 wX w.heap.size 0 t u) w.heap.size 28 _ := Blk.five_ hB t u
    have hres := results_blk (P := Tryz.prog) (tmps := tm) Tryz.results44 Tryz.isAgg28 (by exact Tryz.sizeOf28) hp hblk
    refine bodyPost_ret hres rfl ?_
    exact ⟨t, u, p, k, rfl, hl.set5_ hn0, (ho.mono (by omega)).set5_ hn0, hT.set5_ hgl, fr_new5 hf (Nat.le_refl _), hRR⟩
  have zw : w.heap.size < wa.heap.size := Z1.lt
  have HH := i_thead_good g A n c b i wa T1 hi 2 0 (-1) qn 0 hG rfl
  unfold HeadP at HH
  go_upto_region 4 with (go_at_call 76; refine HH.mono ?_; rintro r w5 ⟨rfl, T5, hf5⟩)
  have kx := Below.one w5 (.cells #[.int .i64 2, .int .i64 0, .int .i64 (-1)] 36)
  have T6 := T5.below kx T5.blk.lt
  have Z6 := (Blk.ofFr Z1 hf5 (by omega)).below kx (Blk.ofFr Z1 hf5 (by omega)).lt
  have M6 := Blk.new w5 36 #[.int .i64 2, .int .i64 0, .int .i64 (-1)]
  have fr6 := (fr1.trans hf5).trans (Fr.of_below kx)
  have zw6 : w.heap.size < w5.heap.size := Nat.lt_of_lt_of_le zw hf5.size
  generalize w5.heap.size = bm at M6 zw6 ⊢
  generalize w5.alloc (.cells #[.int .i64 2, .int .i64 0, .int .i64 (-1)] 36) = w6 at T6 Z6 M6 fr6 ⊢
  clear T1 Z1 fr1 T5 hf5 kx HH k1 zw
  obtain ⟨c0, c1, c2⟩ := T6.cells
  have e0 := M6.cell 0
  have e1 := M6.cell 1
  have e2 := M6.cell 2
  simp only [List.getElem?_toArray, List.getElem?_cons_succ, List.getElem?_cons_zero] at e0 e1 e2
  have zb6 : bm < w6.heap.size := M6.lt
  have HC := i_ttext2i g A n c b qn w6 T6 hq (hX.fr fr6)
  unfold ReadQ at HC
  go_wp2_with (go_at_call 78; refine HC.mono ?_; rintro r w7 ⟨t, u, p', k', rfl, hl7, ho7, T7, hf7, hok⟩; have Z7 := Blk.ofFr Z6 hf7 (by omega); obtain ⟨x0, x1, x2, x3, x4, ⟨s0, t0⟩, ⟨s1, t1⟩, ⟨s2, t2⟩, ⟨s3, t3⟩, s4, t4⟩ := Z7.five (o := 0) (by simp) (.int .i64 (t).k) (.int .i64 (t).n) (.int .i64 (t).x) (.string (t).s))
  exact fin t u p' k' w6.heap.size w7 _ Z7 T7 (fr6.trans hf7) hl7 ho7 (by omega) rfl (by rw [← HR.out]; exact hok)
set_option maxHeartbeats 8000000 in
theorem i_tv_text3 (g : Nat) (A : Option Addr) (n c : Nat) (b : List UInt8) (i d : Int) (w : World) (h : QR w g A n c b i 0) (hi : -9223372036854775808 ≤ i ∧ i ≤ 9223372036854775807) (hd : 1 ≤ d) (m wd q : Int) (hG : getHead b i = (3, m, wd, q, 0)) (hw : wd ≠ -1) (hX : TXs w g) :
    Calls Tryz.prog 44 #[.pointer (some ⟨g, 0, none⟩), .int .i64 d] w fun r w' => ReadQ w w' g A n c b (closeS 3 (anyS b 3 m wd q.toNat)) r := by
  obtain ⟨qn, rfl⟩ := Int.eq_ofNat_of_zero_le (show 0 ≤ q by have := head_facts hG; omega)
  have hq : qn ≤ n := by have := head_facts hG; have := h.sl.blen; omega
  obtain ⟨mm, rfl⟩ := Int.eq_ofNat_of_zero_le (show 0 ≤ m by have := (head_facts hG).2.2.2.2.1; omega)
  have hmm : mm ≤ 1000000000000000 := by have := (head_facts hG).2.2.2.2.1; omega
  rw [Int.toNat_natCast]
  have hgl := h.blk.lt
  have hbl := h.sl.blen
  have hbd := h.bd
  have k1 := Below.one w (.cells #[.int .i64 0, .int .i64 0, .int .i64 0, .string ⟨#[]⟩, .slice none 0 0] 28)
  have T1 := h.below k1 h.blk.lt
  have Z1 := Blk.new w 28 #[.int .i64 0, .int .i64 0, .int .i64 0, .string ⟨#[]⟩, .slice none 0 0]
  have fr1 := Fr.of_below (fp := [g]) k1
  obtain ⟨R, hR⟩ : ∃ R, closeS 3 (anyS b 3 mm wd qn) = R := ⟨_, rfl⟩
  rw [hR]
  have HR := Lib.hid hR
  clear hR
  have hdd : decide (d < 1) = false := decide_eq_false (by omega)
  go_enter Tryz.func44, Tryz.ntmps44
  go_upto_region 3 with fail
  generalize w.alloc (.cells #[.int .i64 0, .int .i64 0, .int .i64 0, .string ⟨#[]⟩, .slice none 0 0] 28) = wa at T1 Z1 fr1 ⊢
  have fin : ∀ (t : Tr) (u : El) (p k : Int) (lo : Nat) (wX : World) (tm : Array Value), Blk wX w.heap.size 28 #[.int .i64 0, .int .i64 0, .int .i64 0, .string ⟨#[]⟩, .slice none 0 0] → QR wX g A n c b p k → Fr [g] w wX → LsAt wX t.l u → Own wX lo u.fp → w.heap.size < lo → tm.getD 4 undef = .pointer (some ⟨w.heap.size, 0, none⟩) → RokI R t p k →
      bodyPost Tryz.prog Tryz.f44 (fun r w' => ReadQ w w' g A n c b R r) .ret ⟨tm, []⟩ (set5 wX w.heap.size 0 t u) := by
    intro t u p k lo wX tm hB hT hf hl ho hlo hp hRR
    have hn0 : w.heap.size ∉ u.fp := fun hx => by have := (ho.2 _ hx).1; omega
    have hblk : Blk (set5 wX w.heap.size 0 t u) w.heap.size 28 _ := Blk.five_ hB t u
    have hres := results_blk (P := Tryz.prog) (tmps := tm) Tryz.results44 Tryz.isAgg28 (by exact Tryz.sizeOf28) hp hblk
    refine bodyPost_ret hres rfl ?_
    exact ⟨t, u, p, k, rfl, hl.set5_ hn0, (ho.mono (by omega)).set5_ hn0, hT.set5_ hgl, fr_new5 hf (Nat.le_refl _), hRR⟩
  have zw : w.heap.size < wa.heap.size := Z1.lt
  have HH := i_thead_good g A n c b i wa T1 hi 3 mm wd qn 0 hG rfl
  unfold HeadP at HH
  go_upto_region 4 with (go_at_call 76; refine HH.mono ?_; rintro r w5 ⟨rfl, T5, hf5⟩)
  have kx := Below.one w5 (.cells #[.int .i64 3, .int .i64 mm, .int .i64 wd] 36)
  have T6 := T5.below kx T5.blk.lt
  have Z6 := (Blk.ofFr Z1 hf5 (by omega)).below kx (Blk.ofFr Z1 hf5 (by omega)).lt
  have M6 := Blk.new w5 36 #[.int .i64 3, .int .i64 mm, .int .i64 wd]
  have fr6 := (fr1.trans hf5).trans (Fr.of_below kx)
  have zw6 : w.heap.size < w5.heap.size := Nat.lt_of_lt_of_le zw hf5.size
  generalize w5.heap.size = bm at M6 zw6 ⊢
  generalize w5.alloc (.cells #[.int .i64 3, .int .i64 mm, .int .i64 wd] 36) = w6 at T6 Z6 M6 fr6 ⊢
  clear T1 Z1 fr1 T5 hf5 kx HH k1 zw
  obtain ⟨c0, c1, c2⟩ := T6.cells
  have e0 := M6.cell 0
  have e1 := M6.cell 1
  have e2 := M6.cell 2
  simp only [List.getElem?_toArray, List.getElem?_cons_succ, List.getElem?_cons_zero] at e0 e1 e2
  have zb6 : bm < w6.heap.size := M6.lt
  have HC := i_ttext3 g A n c b qn mm wd w6 T6 hq hmm hw (hX.fr fr6)
  unfold ReadQ at HC
  go_wp2_with (go_at_call 78; refine HC.mono ?_; rintro r w7 ⟨t, u, p', k', rfl, hl7, ho7, T7, hf7, hok⟩; have Z7 := Blk.ofFr Z6 hf7 (by omega); obtain ⟨x0, x1, x2, x3, x4, ⟨s0, t0⟩, ⟨s1, t1⟩, ⟨s2, t2⟩, ⟨s3, t3⟩, s4, t4⟩ := Z7.five (o := 0) (by simp) (.int .i64 (t).k) (.int .i64 (t).n) (.int .i64 (t).x) (.string (t).s))
  exact fin t u p' k' w6.heap.size w7 _ Z7 T7 (fr6.trans hf7) hl7 ho7 (by omega) rfl (by rw [← HR.out]; exact hok)
set_option maxHeartbeats 8000000 in
theorem i_tv_text3i (g : Nat) (A : Option Addr) (n c : Nat) (b : List UInt8) (i d : Int) (w : World) (h : QR w g A n c b i 0) (hi : -9223372036854775808 ≤ i ∧ i ≤ 9223372036854775807) (hd : 1 ≤ d) (q : Int) (hG : getHead b i = (3, 0, -1, q, 0)) (hX : TXs w g) :
    Calls Tryz.prog 44 #[.pointer (some ⟨g, 0, none⟩), .int .i64 d] w fun r w' => ReadQ w w' g A n c b (closeS 3 (anyS b 3 0 (-1) q.toNat)) r := by
  obtain ⟨qn, rfl⟩ := Int.eq_ofNat_of_zero_le (show 0 ≤ q by have := head_facts hG; omega)
  have hq : qn ≤ n := by have := head_facts hG; have := h.sl.blen; omega
  rw [Int.toNat_natCast]
  have hgl := h.blk.lt
  have hbl := h.sl.blen
  have hbd := h.bd
  have k1 := Below.one w (.cells #[.int .i64 0, .int .i64 0, .int .i64 0, .string ⟨#[]⟩, .slice none 0 0] 28)
  have T1 := h.below k1 h.blk.lt
  have Z1 := Blk.new w 28 #[.int .i64 0, .int .i64 0, .int .i64 0, .string ⟨#[]⟩, .slice none 0 0]
  have fr1 := Fr.of_below (fp := [g]) k1
  obtain ⟨R, hR⟩ : ∃ R, closeS 3 (anyS b 3 0 (-1) qn) = R := ⟨_, rfl⟩
  rw [hR]
  have HR := Lib.hid hR
  clear hR
  have hdd : decide (d < 1) = false := decide_eq_false (by omega)
  go_enter Tryz.func44, Tryz.ntmps44
  go_upto_region 3 with fail
  generalize w.alloc (.cells #[.int .i64 0, .int .i64 0, .int .i64 0, .string ⟨#[]⟩, .slice none 0 0] 28) = wa at T1 Z1 fr1 ⊢
  have fin : ∀ (t : Tr) (u : El) (p k : Int) (lo : Nat) (wX : World) (tm : Array Value), Blk wX w.heap.size 28 #[.int .i64 0, .int .i64 0, .int .i64 0, .string ⟨#[]⟩, .slice none 0 0] → QR wX g A n c b p k → Fr [g] w wX → LsAt wX t.l u → Own wX lo u.fp → w.heap.size < lo → tm.getD 4 undef = .pointer (some ⟨w.heap.size, 0, none⟩) → RokI R t p k →
      bodyPost Tryz.prog Tryz.f44 (fun r w' => ReadQ w w' g A n c b R r) .ret ⟨tm, []⟩ (set5 wX w.heap.size 0 t u) := by
    intro t u p k lo wX tm hB hT hf hl ho hlo hp hRR
    have hn0 : w.heap.size ∉ u.fp := fun hx => by have := (ho.2 _ hx).1; omega
    have hblk : Blk (set5 wX w.heap.size 0 t u) w.heap.size 28 _ := Blk.five_ hB t u
    have hres := results_blk (P := Tryz.prog) (tmps := tm) Tryz.results44 Tryz.isAgg28 (by exact Tryz.sizeOf28) hp hblk
    refine bodyPost_ret hres rfl ?_
    exact ⟨t, u, p, k, rfl, hl.set5_ hn0, (ho.mono (by omega)).set5_ hn0, hT.set5_ hgl, fr_new5 hf (Nat.le_refl _), hRR⟩
  have zw : w.heap.size < wa.heap.size := Z1.lt
  have HH := i_thead_good g A n c b i wa T1 hi 3 0 (-1) qn 0 hG rfl
  unfold HeadP at HH
  go_upto_region 4 with (go_at_call 76; refine HH.mono ?_; rintro r w5 ⟨rfl, T5, hf5⟩)
  have kx := Below.one w5 (.cells #[.int .i64 3, .int .i64 0, .int .i64 (-1)] 36)
  have T6 := T5.below kx T5.blk.lt
  have Z6 := (Blk.ofFr Z1 hf5 (by omega)).below kx (Blk.ofFr Z1 hf5 (by omega)).lt
  have M6 := Blk.new w5 36 #[.int .i64 3, .int .i64 0, .int .i64 (-1)]
  have fr6 := (fr1.trans hf5).trans (Fr.of_below kx)
  have zw6 : w.heap.size < w5.heap.size := Nat.lt_of_lt_of_le zw hf5.size
  generalize w5.heap.size = bm at M6 zw6 ⊢
  generalize w5.alloc (.cells #[.int .i64 3, .int .i64 0, .int .i64 (-1)] 36) = w6 at T6 Z6 M6 fr6 ⊢
  clear T1 Z1 fr1 T5 hf5 kx HH k1 zw
  obtain ⟨c0, c1, c2⟩ := T6.cells
  have e0 := M6.cell 0
  have e1 := M6.cell 1
  have e2 := M6.cell 2
  simp only [List.getElem?_toArray, List.getElem?_cons_succ, List.getElem?_cons_zero] at e0 e1 e2
  have zb6 : bm < w6.heap.size := M6.lt
  have HC := i_ttext3i g A n c b qn w6 T6 hq (hX.fr fr6)
  unfold ReadQ at HC
  go_wp2_with (go_at_call 78; refine HC.mono ?_; rintro r w7 ⟨t, u, p', k', rfl, hl7, ho7, T7, hf7, hok⟩; have Z7 := Blk.ofFr Z6 hf7 (by omega); obtain ⟨x0, x1, x2, x3, x4, ⟨s0, t0⟩, ⟨s1, t1⟩, ⟨s2, t2⟩, ⟨s3, t3⟩, s4, t4⟩ := Z7.five (o := 0) (by simp) (.int .i64 (t).k) (.int .i64 (t).n) (.int .i64 (t).x) (.string (t).s))
  exact fin t u p' k' w6.heap.size w7 _ Z7 T7 (fr6.trans hf7) hl7 ho7 (by omega) rfl (by rw [← HR.out]; exact hok)
set_option maxHeartbeats 8000000 in
theorem i_tv_el4 (g : Nat) (A : Option Addr) (n c : Nat) (b : List UInt8) (i d : Int) (w : World) (h : QR w g A n c b i 0) (hi : -9223372036854775808 ≤ i ∧ i ≤ 9223372036854775807) (hd : 1 ≤ d) (m wd q : Int) (hG : getHead b i = (4, m, wd, q, 0)) (hw : wd ≠ -1) (hd2 : d ≤ 9223372036854775807) (F1 : Nat) (hF1 : 2 * (n - q.toNat) + 4 ≤ F1) (hV : ∀ g0, g0 < F1 → ∀ (q0 : Nat) w1, QR w1 g A n c b q0 0 → Fr [g] w w1 → q0 ≤ n → 2 * (n - q0) + 3 ≤ g0 → Calls Tryz.prog 44 #[.pointer (some ⟨g, 0, none⟩), .int .i64 (d - 1)] w1 fun r w' => ReadQ w1 w' g A n c b (tV b g0 (d - 1) q0) r) :
    Calls Tryz.prog 44 #[.pointer (some ⟨g, 0, none⟩), .int .i64 d] w fun r w' => ReadQ w w' g A n c b (closeH 4 m (tM b F1 d (manyH 4 m) q.toNat [])) r := by
  obtain ⟨qn, rfl⟩ := Int.eq_ofNat_of_zero_le (show 0 ≤ q by have := head_facts hG; omega)
  have hq : qn ≤ n := by have := head_facts hG; have := h.sl.blen; omega
  obtain ⟨mm, rfl⟩ := Int.eq_ofNat_of_zero_le (show 0 ≤ m by have := (head_facts hG).2.2.2.2.1; omega)
  have hmm : mm ≤ 1000000000000000 := by have := (head_facts hG).2.2.2.2.1; omega
  rw [Int.toNat_natCast] at hF1 ⊢
  rw [show manyH 4 (mm : Int) = mm by unfold manyH; simp]
  have hgl := h.blk.lt
  have hbl := h.sl.blen
  have hbd := h.bd
  have k1 := Below.one w (.cells #[.int .i64 0, .int .i64 0, .int .i64 0, .string ⟨#[]⟩, .slice none 0 0] 28)
  have T1 := h.below k1 h.blk.lt
  have Z1 := Blk.new w 28 #[.int .i64 0, .int .i64 0, .int .i64 0, .string ⟨#[]⟩, .slice none 0 0]
  have fr1 := Fr.of_below (fp := [g]) k1
  obtain ⟨R, hR⟩ : ∃ R, closeH 4 mm (tM b F1 d (mm) qn []) = R := ⟨_, rfl⟩
  rw [hR]
  have HR := Lib.hid hR
  clear hR
  have hdd : decide (d < 1) = false := decide_eq_false (by omega)
  go_enter Tryz.func44, Tryz.ntmps44
  go_upto_region 3 with fail
  generalize w.alloc (.cells #[.int .i64 0, .int .i64 0, .int .i64 0, .string ⟨#[]⟩, .slice none 0 0] 28) = wa at T1 Z1 fr1 ⊢
  have fin : ∀ (t : Tr) (u : El) (p k : Int) (lo : Nat) (wX : World) (tm : Array Value), Blk wX w.heap.size 28 #[.int .i64 0, .int .i64 0, .int .i64 0, .string ⟨#[]⟩, .slice none 0 0] → QR wX g A n c b p k → Fr [g] w wX → LsAt wX t.l u → Own wX lo u.fp → w.heap.size < lo → tm.getD 4 undef = .pointer (some ⟨w.heap.size, 0, none⟩) → RokI R t p k →
      bodyPost Tryz.prog Tryz.f44 (fun r w' => ReadQ w w' g A n c b R r) .ret ⟨tm, []⟩ (set5 wX w.heap.size 0 t u) := by
    intro t u p k lo wX tm hB hT hf hl ho hlo hp hRR
    have hn0 : w.heap.size ∉ u.fp := fun hx => by have := (ho.2 _ hx).1; omega
    have hblk : Blk (set5 wX w.heap.size 0 t u) w.heap.size 28 _ := Blk.five_ hB t u
    have hres := results_blk (P := Tryz.prog) (tmps := tm) Tryz.results44 Tryz.isAgg28 (by exact Tryz.sizeOf28) hp hblk
    refine bodyPost_ret hres rfl ?_
    exact ⟨t, u, p, k, rfl, hl.set5_ hn0, (ho.mono (by omega)).set5_ hn0, hT.set5_ hgl, fr_new5 hf (Nat.le_refl _), hRR⟩
  have zw : w.heap.size < wa.heap.size := Z1.lt
  have HH := i_thead_good g A n c b i wa T1 hi 4 mm wd qn 0 hG rfl
  unfold HeadP at HH
  go_upto_region 4 with (go_at_call 76; refine HH.mono ?_; rintro r w5 ⟨rfl, T5, hf5⟩)
  have kx := Below.one w5 (.cells #[.int .i64 4, .int .i64 mm, .int .i64 wd] 36)
  have T6 := T5.below kx T5.blk.lt
  have Z6 := (Blk.ofFr Z1 hf5 (by omega)).below kx (Blk.ofFr Z1 hf5 (by omega)).lt
  have M6 := Blk.new w5 36 #[.int .i64 4, .int .i64 mm, .int .i64 wd]
  have fr6 := (fr1.trans hf5).trans (Fr.of_below kx)
  have zw6 : w.heap.size < w5.heap.size := Nat.lt_of_lt_of_le zw hf5.size
  generalize w5.heap.size = bm at M6 zw6 ⊢
  generalize w5.alloc (.cells #[.int .i64 4, .int .i64 mm, .int .i64 wd] 36) = w6 at T6 Z6 M6 fr6 ⊢
  clear T1 Z1 fr1 T5 hf5 kx HH k1 zw
  obtain ⟨c0, c1, c2⟩ := T6.cells
  have e0 := M6.cell 0
  have e1 := M6.cell 1
  have e2 := M6.cell 2
  simp only [List.getElem?_toArray, List.getElem?_cons_succ, List.getElem?_cons_zero] at e0 e1 e2
  have zb6 : bm < w6.heap.size := M6.lt
  have hV6 := fun g0 (hg0 : g0 < F1) (q0 : Nat) w1 h1 (hf1 : Fr [g] w6 w1) h3 h4 => hV g0 hg0 q0 w1 h1 (fr6.trans hf1) h3 h4
  have HC := i_telems4 g A n c b qn mm wd d w6 T6 hq hmm hw hd hd2 F1 hF1 hV6
  unfold ReadQ at HC
  go_wp2_with (go_at_call 79; refine HC.mono ?_; rintro r w7 ⟨t, u, p', k', rfl, hl7, ho7, T7, hf7, hok⟩; have Z7 := Blk.ofFr Z6 hf7 (by omega); obtain ⟨x0, x1, x2, x3, x4, ⟨s0, t0⟩, ⟨s1, t1⟩, ⟨s2, t2⟩, ⟨s3, t3⟩, s4, t4⟩ := Z7.five (o := 0) (by simp) (.int .i64 (t).k) (.int .i64 (t).n) (.int .i64 (t).x) (.string (t).s))
  exact fin t u p' k' w6.heap.size w7 _ Z7 T7 (fr6.trans hf7) hl7 ho7 (by omega) rfl (by rw [← HR.out]; exact hok)
set_option maxHeartbeats 8000000 in
theorem i_tv_el4i (g : Nat) (A : Option Addr) (n c : Nat) (b : List UInt8) (i d : Int) (w : World) (h : QR w g A n c b i 0) (hi : -9223372036854775808 ≤ i ∧ i ≤ 9223372036854775807) (hd : 1 ≤ d) (q : Int) (hG : getHead b i = (4, 0, -1, q, 0)) (hd2 : d ≤ 9223372036854775807) (F1 : Nat) (hF1 : 2 * (n - q.toNat) + 4 ≤ F1) (hV : ∀ g0, g0 < F1 → ∀ (q0 : Nat) w1, QR w1 g A n c b q0 0 → Fr [g] w w1 → q0 ≤ n → 2 * (n - q0) + 3 ≤ g0 → Calls Tryz.prog 44 #[.pointer (some ⟨g, 0, none⟩), .int .i64 (d - 1)] w1 fun r w' => ReadQ w1 w' g A n c b (tV b g0 (d - 1) q0) r) :
    Calls Tryz.prog 44 #[.pointer (some ⟨g, 0, none⟩), .int .i64 d] w fun r w' => ReadQ w w' g A n c b (closeH 4 0 (tI b F1 d false false q.toNat [])) r := by
  obtain ⟨qn, rfl⟩ := Int.eq_ofNat_of_zero_le (show 0 ≤ q by have := head_facts hG; omega)
  have hq : qn ≤ n := by have := head_facts hG; have := h.sl.blen; omega
  rw [Int.toNat_natCast] at hF1 ⊢
  have hgl := h.blk.lt
  have hbl := h.sl.blen
  have hbd := h.bd
  have k1 := Below.one w (.cells #[.int .i64 0, .int .i64 0, .int .i64 0, .string ⟨#[]⟩, .slice none 0 0] 28)
  have T1 := h.below k1 h.blk.lt
  have Z1 := Blk.new w 28 #[.int .i64 0, .int .i64 0, .int .i64 0, .string ⟨#[]⟩, .slice none 0 0]
  have fr1 := Fr.of_below (fp := [g]) k1
  obtain ⟨R, hR⟩ : ∃ R, closeH 4 0 (tI b F1 d false false qn []) = R := ⟨_, rfl⟩
  rw [hR]
  have HR := Lib.hid hR
  clear hR
  have hdd : decide (d < 1) = false := decide_eq_false (by omega)
  go_enter Tryz.func44, Tryz.ntmps44
  go_upto_region 3 with fail
  generalize w.alloc (.cells #[.int .i64 0, .int .i64 0, .int .i64 0, .string ⟨#[]⟩, .slice none 0 0] 28) = wa at T1 Z1 fr1 ⊢
  have fin : ∀ (t : Tr) (u : El) (p k : Int) (lo : Nat) (wX : World) (tm : Array Value), Blk wX w.heap.size 28 #[.int .i64 0, .int .i64 0, .int .i64 0, .string ⟨#[]⟩, .slice none 0 0] → QR wX g A n c b p k → Fr [g] w wX → LsAt wX t.l u → Own wX lo u.fp → w.heap.size < lo → tm.getD 4 undef = .pointer (some ⟨w.heap.size, 0, none⟩) → RokI R t p k →
      bodyPost Tryz.prog Tryz.f44 (fun r w' => ReadQ w w' g A n c b R r) .ret ⟨tm, []⟩ (set5 wX w.heap.size 0 t u) := by
    intro t u p k lo wX tm hB hT hf hl ho hlo hp hRR
    have hn0 : w.heap.size ∉ u.fp := fun hx => by have := (ho.2 _ hx).1; omega
    have hblk : Blk (set5 wX w.heap.size 0 t u) w.heap.size 28 _ := Blk.five_ hB t u
    have hres := results_blk (P := Tryz.prog) (tmps := tm) Tryz.results44 Tryz.isAgg28 (by exact Tryz.sizeOf28) hp hblk
    refine bodyPost_ret hres rfl ?_
    exact ⟨t, u, p, k, rfl, hl.set5_ hn0, (ho.mono (by omega)).set5_ hn0, hT.set5_ hgl, fr_new5 hf (Nat.le_refl _), hRR⟩
  have zw : w.heap.size < wa.heap.size := Z1.lt
  have HH := i_thead_good g A n c b i wa T1 hi 4 0 (-1) qn 0 hG rfl
  unfold HeadP at HH
  go_upto_region 4 with (go_at_call 76; refine HH.mono ?_; rintro r w5 ⟨rfl, T5, hf5⟩)
  have kx := Below.one w5 (.cells #[.int .i64 4, .int .i64 0, .int .i64 (-1)] 36)
  have T6 := T5.below kx T5.blk.lt
  have Z6 := (Blk.ofFr Z1 hf5 (by omega)).below kx (Blk.ofFr Z1 hf5 (by omega)).lt
  have M6 := Blk.new w5 36 #[.int .i64 4, .int .i64 0, .int .i64 (-1)]
  have fr6 := (fr1.trans hf5).trans (Fr.of_below kx)
  have zw6 : w.heap.size < w5.heap.size := Nat.lt_of_lt_of_le zw hf5.size
  generalize w5.heap.size = bm at M6 zw6 ⊢
  generalize w5.alloc (.cells #[.int .i64 4, .int .i64 0, .int .i64 (-1)] 36) = w6 at T6 Z6 M6 fr6 ⊢
  clear T1 Z1 fr1 T5 hf5 kx HH k1 zw
  obtain ⟨c0, c1, c2⟩ := T6.cells
  have e0 := M6.cell 0
  have e1 := M6.cell 1
  have e2 := M6.cell 2
  simp only [List.getElem?_toArray, List.getElem?_cons_succ, List.getElem?_cons_zero] at e0 e1 e2
  have zb6 : bm < w6.heap.size := M6.lt
  have hV6 := fun g0 (hg0 : g0 < F1) (q0 : Nat) w1 h1 (hf1 : Fr [g] w6 w1) h3 h4 => hV g0 hg0 q0 w1 h1 (fr6.trans hf1) h3 h4
  have HC := i_telems4i g A n c b qn d w6 T6 hq hd hd2 F1 hF1 hV6
  unfold ReadQ at HC
  go_wp2_with (go_at_call 79; refine HC.mono ?_; rintro r w7 ⟨t, u, p', k', rfl, hl7, ho7, T7, hf7, hok⟩; have Z7 := Blk.ofFr Z6 hf7 (by omega); obtain ⟨x0, x1, x2, x3, x4, ⟨s0, t0⟩, ⟨s1, t1⟩, ⟨s2, t2⟩, ⟨s3, t3⟩, s4, t4⟩ := Z7.five (o := 0) (by simp) (.int .i64 (t).k) (.int .i64 (t).n) (.int .i64 (t).x) (.string (t).s))
  exact fin t u p' k' w6.heap.size w7 _ Z7 T7 (fr6.trans hf7) hl7 ho7 (by omega) rfl (by rw [← HR.out]; exact hok)
set_option maxHeartbeats 8000000 in
theorem i_tv_el5 (g : Nat) (A : Option Addr) (n c : Nat) (b : List UInt8) (i d : Int) (w : World) (h : QR w g A n c b i 0) (hi : -9223372036854775808 ≤ i ∧ i ≤ 9223372036854775807) (hd : 1 ≤ d) (m wd q : Int) (hG : getHead b i = (5, m, wd, q, 0)) (hw : wd ≠ -1) (hd2 : d ≤ 9223372036854775807) (F1 : Nat) (hF1 : 2 * (n - q.toNat) + 4 ≤ F1) (hV : ∀ g0, g0 < F1 → ∀ (q0 : Nat) w1, QR w1 g A n c b q0 0 → Fr [g] w w1 → q0 ≤ n → 2 * (n - q0) + 3 ≤ g0 → Calls Tryz.prog 44 #[.pointer (some ⟨g, 0, none⟩), .int .i64 (d - 1)] w1 fun r w' => ReadQ w1 w' g A n c b (tV b g0 (d - 1) q0) r) :
    Calls Tryz.prog 44 #[.pointer (some ⟨g, 0, none⟩), .int .i64 d] w fun r w' => ReadQ w w' g A n c b (closeH 5 m (tM b F1 d (manyH 5 m) q.toNat [])) r := by
  obtain ⟨qn, rfl⟩ := Int.eq_ofNat_of_zero_le (show 0 ≤ q by have := head_facts hG; omega)
  have hq : qn ≤ n := by have := head_facts hG; have := h.sl.blen; omega
  obtain ⟨mm, rfl⟩ := Int.eq_ofNat_of_zero_le (show 0 ≤ m by have := (head_facts hG).2.2.2.2.1; omega)
  have hmm : mm ≤ 1000000000000000 := by have := (head_facts hG).2.2.2.2.1; omega
  rw [Int.toNat_natCast] at hF1 ⊢
  rw [show manyH 5 (mm : Int) = 2 * mm by unfold manyH; simp]
  have hgl := h.blk.lt
  have hbl := h.sl.blen
  have hbd := h.bd
  have k1 := Below.one w (.cells #[.int .i64 0, .int .i64 0, .int .i64 0, .string ⟨#[]⟩, .slice none 0 0] 28)
  have T1 := h.below k1 h.blk.lt
  have Z1 := Blk.new w 28 #[.int .i64 0, .int .i64 0, .int .i64 0, .string ⟨#[]⟩, .slice none 0 0]
  have fr1 := Fr.of_below (fp := [g]) k1
  obtain ⟨R, hR⟩ : ∃ R, closeH 5 mm (tM b F1 d (2 * mm) qn []) = R := ⟨_, rfl⟩
  rw [hR]
  have HR := Lib.hid hR
  clear hR
  have hdd : decide (d < 1) = false := decide_eq_false (by omega)
  go_enter Tryz.func44, Tryz.ntmps44
  go_upto_region 3 with fail
  generalize w.alloc (.cells #[.int .i64 0, .int .i64 0, .int .i64 0, .string ⟨#[]⟩, .slice none 0 0] 28) = wa at T1 Z1 fr1 ⊢
  have fin : ∀ (t : Tr) (u : El) (p k : Int) (lo : Nat) (wX : World) (tm : Array Value), Blk wX w.heap.size 28 #[.int .i64 0, .int .i64 0, .int .i64 0, .string ⟨#[]⟩, .slice none 0 0] → QR wX g A n c b p k → Fr [g] w wX → LsAt wX t.l u → Own wX lo u.fp → w.heap.size < lo → tm.getD 4 undef = .pointer (some ⟨w.heap.size, 0, none⟩) → RokI R t p k →
      bodyPost Tryz.prog Tryz.f44 (fun r w' => ReadQ w w' g A n c b R r) .ret ⟨tm, []⟩ (set5 wX w.heap.size 0 t u) := by
    intro t u p k lo wX tm hB hT hf hl ho hlo hp hRR
    have hn0 : w.heap.size ∉ u.fp := fun hx => by have := (ho.2 _ hx).1; omega
    have hblk : Blk (set5 wX w.heap.size 0 t u) w.heap.size 28 _ := Blk.five_ hB t u
    have hres := results_blk (P := Tryz.prog) (tmps := tm) Tryz.results44 Tryz.isAgg28 (by exact Tryz.sizeOf28) hp hblk
    refine bodyPost_ret hres rfl ?_
    exact ⟨t, u, p, k, rfl, hl.set5_ hn0, (ho.mono (by omega)).set5_ hn0, hT.set5_ hgl, fr_new5 hf (Nat.le_refl _), hRR⟩
  have zw : w.heap.size < wa.heap.size := Z1.lt
  have HH := i_thead_good g A n c b i wa T1 hi 5 mm wd qn 0 hG rfl
  unfold HeadP at HH
  go_upto_region 4 with (go_at_call 76; refine HH.mono ?_; rintro r w5 ⟨rfl, T5, hf5⟩)
  have kx := Below.one w5 (.cells #[.int .i64 5, .int .i64 mm, .int .i64 wd] 36)
  have T6 := T5.below kx T5.blk.lt
  have Z6 := (Blk.ofFr Z1 hf5 (by omega)).below kx (Blk.ofFr Z1 hf5 (by omega)).lt
  have M6 := Blk.new w5 36 #[.int .i64 5, .int .i64 mm, .int .i64 wd]
  have fr6 := (fr1.trans hf5).trans (Fr.of_below kx)
  have zw6 : w.heap.size < w5.heap.size := Nat.lt_of_lt_of_le zw hf5.size
  generalize w5.heap.size = bm at M6 zw6 ⊢
  generalize w5.alloc (.cells #[.int .i64 5, .int .i64 mm, .int .i64 wd] 36) = w6 at T6 Z6 M6 fr6 ⊢
  clear T1 Z1 fr1 T5 hf5 kx HH k1 zw
  obtain ⟨c0, c1, c2⟩ := T6.cells
  have e0 := M6.cell 0
  have e1 := M6.cell 1
  have e2 := M6.cell 2
  simp only [List.getElem?_toArray, List.getElem?_cons_succ, List.getElem?_cons_zero] at e0 e1 e2
  have zb6 : bm < w6.heap.size := M6.lt
  have hV6 := fun g0 (hg0 : g0 < F1) (q0 : Nat) w1 h1 (hf1 : Fr [g] w6 w1) h3 h4 => hV g0 hg0 q0 w1 h1 (fr6.trans hf1) h3 h4
  have HC := i_telems5 g A n c b qn mm wd d w6 T6 hq hmm hw hd hd2 F1 hF1 hV6
  unfold ReadQ at HC
  go_wp2_with (go_at_call 79; refine HC.mono ?_; rintro r w7 ⟨t, u, p', k', rfl, hl7, ho7, T7, hf7, hok⟩; have Z7 := Blk.ofFr Z6 hf7 (by omega); obtain ⟨x0, x1, x2, x3, x4, ⟨s0, t0⟩, ⟨s1, t1⟩, ⟨s2, t2⟩, ⟨s3, t3⟩, s4, t4⟩ := Z7.five (o := 0) (by simp) (.int .i64 (t).k) (.int .i64 (t).n) (.int .i64 (t).x) (.string (t).s))
  exact fin t u p' k' w6.heap.size w7 _ Z7 T7 (fr6.trans hf7) hl7 ho7 (by omega) rfl (by rw [← HR.out]; exact hok)
set_option maxHeartbeats 8000000 in
theorem i_tv_el5i (g : Nat) (A : Option Addr) (n c : Nat) (b : List UInt8) (i d : Int) (w : World) (h : QR w g A n c b i 0) (hi : -9223372036854775808 ≤ i ∧ i ≤ 9223372036854775807) (hd : 1 ≤ d) (q : Int) (hG : getHead b i = (5, 0, -1, q, 0)) (hd2 : d ≤ 9223372036854775807) (F1 : Nat) (hF1 : 2 * (n - q.toNat) + 4 ≤ F1) (hV : ∀ g0, g0 < F1 → ∀ (q0 : Nat) w1, QR w1 g A n c b q0 0 → Fr [g] w w1 → q0 ≤ n → 2 * (n - q0) + 3 ≤ g0 → Calls Tryz.prog 44 #[.pointer (some ⟨g, 0, none⟩), .int .i64 (d - 1)] w1 fun r w' => ReadQ w1 w' g A n c b (tV b g0 (d - 1) q0) r) :
    Calls Tryz.prog 44 #[.pointer (some ⟨g, 0, none⟩), .int .i64 d] w fun r w' => ReadQ w w' g A n c b (closeH 5 0 (tI b F1 d true false q.toNat [])) r := by
  obtain ⟨qn, rfl⟩ := Int.eq_ofNat_of_zero_le (show 0 ≤ q by have := head_facts hG; omega)
  have hq : qn ≤ n := by have := head_facts hG; have := h.sl.blen; omega
  rw [Int.toNat_natCast] at hF1 ⊢
  have hgl := h.blk.lt
  have hbl := h.sl.blen
  have hbd := h.bd
  have k1 := Below.one w (.cells #[.int .i64 0, .int .i64 0, .int .i64 0, .string ⟨#[]⟩, .slice none 0 0] 28)
  have T1 := h.below k1 h.blk.lt
  have Z1 := Blk.new w 28 #[.int .i64 0, .int .i64 0, .int .i64 0, .string ⟨#[]⟩, .slice none 0 0]
  have fr1 := Fr.of_below (fp := [g]) k1
  obtain ⟨R, hR⟩ : ∃ R, closeH 5 0 (tI b F1 d true false qn []) = R := ⟨_, rfl⟩
  rw [hR]
  have HR := Lib.hid hR
  clear hR
  have hdd : decide (d < 1) = false := decide_eq_false (by omega)
  go_enter Tryz.func44, Tryz.ntmps44
  go_upto_region 3 with fail
  generalize w.alloc (.cells #[.int .i64 0, .int .i64 0, .int .i64 0, .string ⟨#[]⟩, .slice none 0 0] 28) = wa at T1 Z1 fr1 ⊢
  have fin : ∀ (t : Tr) (u : El) (p k : Int) (lo : Nat) (wX : World) (tm : Array Value), Blk wX w.heap.size 28 #[.int .i64 0, .int .i64 0, .int .i64 0, .string ⟨#[]⟩, .slice none 0 0] → QR wX g A n c b p k → Fr [g] w wX → LsAt wX t.l u → Own wX lo u.fp → w.heap.size < lo → tm.getD 4 undef = .pointer (some ⟨w.heap.size, 0, none⟩) → RokI R t p k →
      bodyPost Tryz.prog Tryz.f44 (fun r w' => ReadQ w w' g A n c b R r) .ret ⟨tm, []⟩ (set5 wX w.heap.size 0 t u) := by
    intro t u p k lo wX tm hB hT hf hl ho hlo hp hRR
    have hn0 : w.heap.size ∉ u.fp := fun hx => by have := (ho.2 _ hx).1; omega
    have hblk : Blk (set5 wX w.heap.size 0 t u) w.heap.size 28 _ := Blk.five_ hB t u
    have hres := results_blk (P := Tryz.prog) (tmps := tm) Tryz.results44 Tryz.isAgg28 (by exact Tryz.sizeOf28) hp hblk
    refine bodyPost_ret hres rfl ?_
    exact ⟨t, u, p, k, rfl, hl.set5_ hn0, (ho.mono (by omega)).set5_ hn0, hT.set5_ hgl, fr_new5 hf (Nat.le_refl _), hRR⟩
  have zw : w.heap.size < wa.heap.size := Z1.lt
  have HH := i_thead_good g A n c b i wa T1 hi 5 0 (-1) qn 0 hG rfl
  unfold HeadP at HH
  go_upto_region 4 with (go_at_call 76; refine HH.mono ?_; rintro r w5 ⟨rfl, T5, hf5⟩)
  have kx := Below.one w5 (.cells #[.int .i64 5, .int .i64 0, .int .i64 (-1)] 36)
  have T6 := T5.below kx T5.blk.lt
  have Z6 := (Blk.ofFr Z1 hf5 (by omega)).below kx (Blk.ofFr Z1 hf5 (by omega)).lt
  have M6 := Blk.new w5 36 #[.int .i64 5, .int .i64 0, .int .i64 (-1)]
  have fr6 := (fr1.trans hf5).trans (Fr.of_below kx)
  have zw6 : w.heap.size < w5.heap.size := Nat.lt_of_lt_of_le zw hf5.size
  generalize w5.heap.size = bm at M6 zw6 ⊢
  generalize w5.alloc (.cells #[.int .i64 5, .int .i64 0, .int .i64 (-1)] 36) = w6 at T6 Z6 M6 fr6 ⊢
  clear T1 Z1 fr1 T5 hf5 kx HH k1 zw
  obtain ⟨c0, c1, c2⟩ := T6.cells
  have e0 := M6.cell 0
  have e1 := M6.cell 1
  have e2 := M6.cell 2
  simp only [List.getElem?_toArray, List.getElem?_cons_succ, List.getElem?_cons_zero] at e0 e1 e2
  have zb6 : bm < w6.heap.size := M6.lt
  have hV6 := fun g0 (hg0 : g0 < F1) (q0 : Nat) w1 h1 (hf1 : Fr [g] w6 w1) h3 h4 => hV g0 hg0 q0 w1 h1 (fr6.trans hf1) h3 h4
  have HC := i_telems5i g A n c b qn d w6 T6 hq hd hd2 F1 hF1 hV6
  unfold ReadQ at HC
  go_wp2_with (go_at_call 79; refine HC.mono ?_; rintro r w7 ⟨t, u, p', k', rfl, hl7, ho7, T7, hf7, hok⟩; have Z7 := Blk.ofFr Z6 hf7 (by omega); obtain ⟨x0, x1, x2, x3, x4, ⟨s0, t0⟩, ⟨s1, t1⟩, ⟨s2, t2⟩, ⟨s3, t3⟩, s4, t4⟩ := Z7.five (o := 0) (by simp) (.int .i64 (t).k) (.int .i64 (t).n) (.int .i64 (t).x) (.string (t).s))
  exact fin t u p' k' w6.heap.size w7 _ Z7 T7 (fr6.trans hf7) hl7 ho7 (by omega) rfl (by rw [← HR.out]; exact hok)
set_option maxHeartbeats 8000000 in
theorem i_tv_tag (g : Nat) (A : Option Addr) (n c : Nat) (b : List UInt8) (i d : Int) (w : World) (h : QR w g A n c b i 0) (hi : -9223372036854775808 ≤ i ∧ i ≤ 9223372036854775807) (hd : 1 ≤ d) (m wd q : Int) (hG : getHead b i = (6, m, wd, q, 0)) (hd2 : d ≤ 9223372036854775807) (g0 : Nat) (hF1 : 2 * (n - q.toNat) + 4 ≤ (g0 + 2)) (hV : ∀ g1, g1 < (g0 + 2) → ∀ (q0 : Nat) w1, QR w1 g A n c b q0 0 → Fr [g] w w1 → q0 ≤ n → 2 * (n - q0) + 3 ≤ g1 → Calls Tryz.prog 44 #[.pointer (some ⟨g, 0, none⟩), .int .i64 (d - 1)] w1 fun r w' => ReadQ w1 w' g A n c b (tV b g1 (d - 1) q0) r) :
    Calls Tryz.prog 44 #[.pointer (some ⟨g, 0, none⟩), .int .i64 d] w fun r w' => ReadQ w w' g A n c b (closeH 6 m (tM b (g0 + 2) d 1 q.toNat [])) r := by
  obtain ⟨qn, rfl⟩ := Int.eq_ofNat_of_zero_le (show 0 ≤ q by have := head_facts hG; omega)
  have hq : qn ≤ n := by have := head_facts hG; have := h.sl.blen; omega
  obtain ⟨mm, rfl⟩ := Int.eq_ofNat_of_zero_le (show 0 ≤ m by have := (head_facts hG).2.2.2.2.1; omega)
  have hmm : mm ≤ 1000000000000000 := by have := (head_facts hG).2.2.2.2.1; omega
  rw [Int.toNat_natCast] at hF1 ⊢
  have hgl := h.blk.lt
  have hbl := h.sl.blen
  have hbd := h.bd
  have k1 := Below.one w (.cells #[.int .i64 0, .int .i64 0, .int .i64 0, .string ⟨#[]⟩, .slice none 0 0] 28)
  have T1 := h.below k1 h.blk.lt
  have Z1 := Blk.new w 28 #[.int .i64 0, .int .i64 0, .int .i64 0, .string ⟨#[]⟩, .slice none 0 0]
  have fr1 := Fr.of_below (fp := [g]) k1
  obtain ⟨R, hR⟩ : ∃ R, closeH 6 mm (tM b (g0 + 2) d 1 qn []) = R := ⟨_, rfl⟩
  rw [hR]
  have HR := Lib.hid hR
  clear hR
  have hdd : decide (d < 1) = false := decide_eq_false (by omega)
  go_enter Tryz.func44, Tryz.ntmps44
  go_upto_region 3 with fail
  generalize w.alloc (.cells #[.int .i64 0, .int .i64 0, .int .i64 0, .string ⟨#[]⟩, .slice none 0 0] 28) = wa at T1 Z1 fr1 ⊢
  have fin : ∀ (t : Tr) (u : El) (p k : Int) (lo : Nat) (wX : World) (tm : Array Value), Blk wX w.heap.size 28 #[.int .i64 0, .int .i64 0, .int .i64 0, .string ⟨#[]⟩, .slice none 0 0] → QR wX g A n c b p k → Fr [g] w wX → LsAt wX t.l u → Own wX lo u.fp → w.heap.size < lo → tm.getD 4 undef = .pointer (some ⟨w.heap.size, 0, none⟩) → RokI R t p k →
      bodyPost Tryz.prog Tryz.f44 (fun r w' => ReadQ w w' g A n c b R r) .ret ⟨tm, []⟩ (set5 wX w.heap.size 0 t u) := by
    intro t u p k lo wX tm hB hT hf hl ho hlo hp hRR
    have hn0 : w.heap.size ∉ u.fp := fun hx => by have := (ho.2 _ hx).1; omega
    have hblk : Blk (set5 wX w.heap.size 0 t u) w.heap.size 28 _ := Blk.five_ hB t u
    have hres := results_blk (P := Tryz.prog) (tmps := tm) Tryz.results44 Tryz.isAgg28 (by exact Tryz.sizeOf28) hp hblk
    refine bodyPost_ret hres rfl ?_
    exact ⟨t, u, p, k, rfl, hl.set5_ hn0, (ho.mono (by omega)).set5_ hn0, hT.set5_ hgl, fr_new5 hf (Nat.le_refl _), hRR⟩
  have zw : w.heap.size < wa.heap.size := Z1.lt
  have HH := i_thead_good g A n c b i wa T1 hi 6 mm wd qn 0 hG rfl
  unfold HeadP at HH
  go_upto_region 4 with (go_at_call 76; refine HH.mono ?_; rintro r w5 ⟨rfl, T5, hf5⟩)
  have kx := Below.one w5 (.cells #[.int .i64 6, .int .i64 mm, .int .i64 wd] 36)
  have T6 := T5.below kx T5.blk.lt
  have Z6 := (Blk.ofFr Z1 hf5 (by omega)).below kx (Blk.ofFr Z1 hf5 (by omega)).lt
  have M6 := Blk.new w5 36 #[.int .i64 6, .int .i64 mm, .int .i64 wd]
  have fr6 := (fr1.trans hf5).trans (Fr.of_below kx)
  have zw6 : w.heap.size < w5.heap.size := Nat.lt_of_lt_of_le zw hf5.size
  generalize w5.heap.size = bm at M6 zw6 ⊢
  generalize w5.alloc (.cells #[.int .i64 6, .int .i64 mm, .int .i64 wd] 36) = w6 at T6 Z6 M6 fr6 ⊢
  clear T1 Z1 fr1 T5 hf5 kx HH k1 zw
  obtain ⟨c0, c1, c2⟩ := T6.cells
  have e0 := M6.cell 0
  have e1 := M6.cell 1
  have e2 := M6.cell 2
  simp only [List.getElem?_toArray, List.getElem?_cons_succ, List.getElem?_cons_zero] at e0 e1 e2
  have zb6 : bm < w6.heap.size := M6.lt
  have hk1 : IntKind.i64.wrap (d - 1) = d - 1 := by rw [IntKind.wrap_i64]; omega
  have HC := hV (g0 + 1) (by omega) qn w6 T6 fr6 hq (by omega)
  unfold ReadQ at HC
  obtain ⟨X, hX⟩ : ∃ X, tV b (g0 + 1) (d - 1) qn = X := ⟨_, rfl⟩
  rw [hX] at HC
  have HX := Lib.hid hX
  clear hX hV
  go_upto_region 21 with (go_at_call 44; refine HC.mono ?_; rintro r w7 ⟨t, u, p', k', rfl, hl7, ho7, T7, hf7, hok⟩)
  have ky := Below.one w7 (.cells (valCells t u) 28)
  have T8 := T7.below ky T7.blk.lt
  have Z8 := (Blk.ofFr Z6 hf7 (by omega)).below ky (Blk.ofFr Z6 hf7 (by omega)).lt
  have M8 := (Blk.ofFr M6 hf7 (by omega)).below ky (Blk.ofFr M6 hf7 (by omega)).lt
  have X8 := Blk.new w7 28 (valCells t u)
  have l8 := hl7.below (fun g hg => ho7.lt hg) ky
  have o8 := ho7.below (fun g hg => ho7.lt hg) ky
  have fr8 := (fr6.trans hf7).trans (Fr.of_below ky)
  have zz8 : w6.heap.size ≤ (w7.alloc (.cells (valCells t u) 28)).heap.size := Nat.le_trans hf7.size ky.size
  generalize w7.heap.size = bx at X8 ⊢
  change Code.wp _ _ _ _ (w7.alloc (.cells (valCells t u) 28))
  generalize w7.alloc (.cells (valCells t u) 28) = w8 at T8 Z8 M8 X8 l8 o8 fr8 zz8 ⊢
  clear T6 Z6 M6 fr6 HC hl7 ho7 T7 hf7 ky c0 c1 c2 e0 e1 e2
  have e1 := M8.cell 1
  simp only [List.getElem?_toArray, List.getElem?_cons_succ, List.getElem?_cons_zero] at e1
  obtain ⟨v0, v1, v2, v3, v4⟩ := X8.boxV
  have kz := Below.one w8 (.cells (valCells t u) 28)
  obtain ⟨hL, hO⟩ := ls_one l8 o8 zz8
  have T9 := T8.below kz T8.blk.lt
  have Z9 := Z8.below kz Z8.lt
  have fr9 := fr8.trans (Fr.of_below kz)
  obtain ⟨x0, x1, x2, x3, x4, ⟨s0, t0⟩, ⟨s1, t1⟩, ⟨s2, t2⟩, ⟨s3, t3⟩, s4, t4⟩ := Z9.five (o := 0) (by simp) (.int .i64 ((⟨11, mm, 0, ⟨#[]⟩, [t]⟩ : Tr)).k) (.int .i64 ((⟨11, mm, 0, ⟨#[]⟩, [t]⟩ : Tr)).n) (.int .i64 ((⟨11, mm, 0, ⟨#[]⟩, [t]⟩ : Tr)).x) (.string ((⟨11, mm, 0, ⟨#[]⟩, [t]⟩ : Tr)).s)
  go_wp2_with fail
  refine fin ⟨11, mm, 0, ⟨#[]⟩, [t]⟩ ⟨some ⟨w8.heap.size, 0, none⟩, 1, 1, w8.heap.size :: u.fp⟩ p' k' w6.heap.size _ _ Z9 T9 fr9 hL hO (by omega) rfl ?_
  rw [← HR.out, show g0 + 2 = (g0 + 1) + 1 by omega, tM, HX.out]
  cases X with
  | bad cx => exact hok
  | good tx qx =>
    obtain ⟨rfl, rfl, rfl⟩ := hok
    simp only [tM]
    exact ⟨rfl, rfl, rfl⟩
end Go.Proofs.YtmelnaidjgpclaaGreatDoor

namespace Go.Proofs.YtmelnaidjgpclaaGreatDoor
open Go.RowKit

def TVSays (W : World) (g : Nat) (A : Option Addr) (n c : Nat) (b : List UInt8) (f : Nat) : Prop :=
  ∀ (i d : Int) (w : World), QR w g A n c b i 0 → Below W.heap.size W w → 2 * (n - i.toNat) + 3 ≤ f → (-9223372036854775808 ≤ i ∧ i ≤ 9223372036854775807) → (-9223372036854775808 ≤ d ∧ d ≤ 9223372036854775807) →
    Calls Tryz.prog 44 #[.pointer (some ⟨g, 0, none⟩), .int .i64 d] w fun r w' => ReadQ w w' g A n c b (tV b f d i) r
theorem tV_headI {b : List UInt8} {f : Nat} {d i mj m wd q : Int} (hd : 1 ≤ d) (hG : getHead b i = (mj, m, wd, q, 0)) :
    tV b (f + 2) d i = (if mj = 4 ∨ mj = 5 ∨ mj = 6 then closeH mj m (if wd = -1 then tI b (f + 1) d (decide (mj = 5)) false q.toNat [] else tM b (f + 1) d (manyH mj m) q.toNat []) else leafH b mj m wd q.toNat) := by
  rw [tV, if_neg (by omega), hG]
  simp only [ne_eq, not_true_eq_false, if_false]
theorem i_tvalue {W : World} {g : Nat} {A : Option Addr} {n c : Nat} {b : List UInt8} (hWg : W.heap.size ≤ g) (hT : Lib.Utf8Tabs 0 1 W) (f : Nat) : TVSays W g A n c b f := by
  induction f using Nat.strongRecOn with
  | _ f ih =>
    intro i d w h hB hf hi hd
    have hbl := h.sl.blen
    have hbd := h.bd
    obtain ⟨f, rfl⟩ : ∃ z, f = z + 2 := ⟨f - 2, by omega⟩
    by_cases hd1 : d < 1
    · have e : tV b (f + 2) d i = .bad 2 := by rw [tV, if_pos hd1]
      rw [e]
      exact i_tv_deep g A n c b i d w h hi hd1
    have hd2 : 1 ≤ d := by omega
    obtain ⟨⟨mj, m, wd, q, cd⟩, hG⟩ : ∃ x, getHead b i = x := ⟨_, rfl⟩
    by_cases hcd : cd = 0
    rotate_left
    · have e : tV b (f + 2) d i = .bad cd := by rw [tV, if_neg hd1, hG]; simp only; rw [if_pos hcd]
      rw [e]
      exact i_tv_head g A n c b i d w h hi hd2 mj m wd q cd hG hcd
    subst hcd
    have hg := head_facts hG
    have hBf : ∀ w1, Fr [g] w w1 → Below W.heap.size W w1 := fun w1 hf1 => hB.trans (hf1.below (by simpa using hWg) hB.size)
    have hX : TXs w g := fun s w1 hs hf1 => i_TextOk s w1 (by omega) (Utf8Tabs_below hT (hBf w1 hf1))
    have hV : ∀ g0, g0 < f + 1 → ∀ (q0 : Nat) w1, QR w1 g A n c b q0 0 → Fr [g] w w1 → q0 ≤ n → 2 * (n - q0) + 3 ≤ g0 → Calls Tryz.prog 44 #[.pointer (some ⟨g, 0, none⟩), .int .i64 (d - 1)] w1 fun r w' => ReadQ w1 w' g A n c b (tV b g0 (d - 1) q0) r :=
      fun g0 hg0 q0 w1 h1 hf1 hq0 hfg => ih g0 (by omega) q0 (d - 1) w1 h1 (hBf w1 hf1) (by rw [Int.toNat_natCast]; exact hfg) (by omega) (by omega)
    have hF1 : 2 * (n - q.toNat) + 4 ≤ f + 1 := by omega
    have hmj : mj = 0 ∨ mj = 1 ∨ mj = 2 ∨ mj = 3 ∨ mj = 4 ∨ mj = 5 ∨ mj = 6 ∨ mj = 7 := by omega
    rw [tV_headI hd2 hG]
    rcases hmj with rfl | rfl | rfl | rfl | rfl | rfl | rfl | rfl
    · rw [if_neg (by decide)]
      unfold leafH
      rw [if_pos rfl]
      exact i_tv_int g A n c b i d w h hi hd2 m wd q hG
    · rw [if_neg (by decide)]
      unfold leafH
      rw [if_neg (by decide), if_pos rfl]
      by_cases hm : 1000000000000000 ≤ m
      · rw [if_pos hm]
        exact i_tv_low g A n c b i d w h hi hd2 m wd q hG hm
      · rw [if_neg hm]
        exact i_tv_neg g A n c b i d w h hi hd2 m wd q hG (by omega)
    · rw [if_neg (by decide)]
      unfold leafH
      rw [if_neg (by decide), if_neg (by decide), if_pos (by decide)]
      by_cases hw : wd = -1
      · obtain rfl : m = 0 := by omega
        subst hw
        exact i_tv_text2i g A n c b i d w h hi hd2 q hG hX
      · exact i_tv_text2 g A n c b i d w h hi hd2 m wd q hG hw hX
    · rw [if_neg (by decide)]
      unfold leafH
      rw [if_neg (by decide), if_neg (by decide), if_pos (by decide)]
      by_cases hw : wd = -1
      · obtain rfl : m = 0 := by omega
        subst hw
        exact i_tv_text3i g A n c b i d w h hi hd2 q hG hX
      · exact i_tv_text3 g A n c b i d w h hi hd2 m wd q hG hw hX
    · rw [if_pos (by decide)]
      by_cases hw : wd = -1
      · obtain rfl : m = 0 := by omega
        subst hw
        rw [if_pos rfl, decide_eq_false (by decide)]
        exact i_tv_el4i g A n c b i d w h hi hd2 q hG hd.2 (f + 1) hF1 hV
      · rw [if_neg hw]
        exact i_tv_el4 g A n c b i d w h hi hd2 m wd q hG hw hd.2 (f + 1) hF1 hV
    · rw [if_pos (by decide)]
      by_cases hw : wd = -1
      · obtain rfl : m = 0 := by omega
        subst hw
        rw [if_pos rfl, decide_eq_true rfl]
        exact i_tv_el5i g A n c b i d w h hi hd2 q hG hd.2 (f + 1) hF1 hV
      · rw [if_neg hw]
        exact i_tv_el5 g A n c b i d w h hi hd2 m wd q hG hw hd.2 (f + 1) hF1 hV
    · rw [if_pos (by decide)]
      have hw : wd ≠ -1 := by omega
      rw [if_neg hw]
      obtain ⟨f, rfl⟩ : ∃ z, f = z + 1 := ⟨f - 1, by omega⟩
      exact i_tv_tag g A n c b i d w h hi hd2 m wd q hG hd.2 f hF1 hV
    · rw [if_neg (by decide)]
      unfold leafH
      rw [if_neg (by decide), if_neg (by decide), if_neg (by decide)]
      exact i_tv_simp g A n c b i d w h hi hd2 m wd q hG
end Go.Proofs.YtmelnaidjgpclaaGreatDoor

namespace Go.Proofs.YtmelnaidjgpclaaGreatDoor
open Go.RowKit

set_option maxHeartbeats 4000000 in
theorem i_GetTight (A : Option Addr) (n c : Nat) (b : List UInt8) (i d : Int) (w : World) (hs : Sl w w.heap.size 1 A n c (u8s b)) (hn : n ≤ 1048576) (hi : -9223372036854775808 ≤ i ∧ i ≤ 9223372036854775807) (hd : -9223372036854775808 ≤ d ∧ d ≤ 9223372036854775807) (hU : Lib.Utf8Tabs 0 1 w) :
    Calls Tryz.prog 22 #[.slice A n c, .int .i64 i, .int .i64 d] w fun r w' => GetRes w w' (resR (tightR b i d)).1 (resP (tightR b i d)) (resR (tightR b i d)).2 r := by
  have hl := hs.blen
  have k2 := Below.two w (.cells #[.int .i64 0, .int .i64 0, .int .i64 0, .string ⟨#[]⟩, .slice none 0 0] 28) (.cells #[.slice A n c, .int .i64 i, .int .i64 0] 55)
  have hR : Blk ((w.alloc (.cells #[.int .i64 0, .int .i64 0, .int .i64 0, .string ⟨#[]⟩, .slice none 0 0] 28)).alloc (.cells #[.slice A n c, .int .i64 i, .int .i64 0] 55)) w.heap.size 28 #[.int .i64 0, .int .i64 0, .int .i64 0, .string ⟨#[]⟩, .slice none 0 0] := (Blk.new w _ _).alloc _
  have hG : Blk ((w.alloc (.cells #[.int .i64 0, .int .i64 0, .int .i64 0, .string ⟨#[]⟩, .slice none 0 0] 28)).alloc (.cells #[.slice A n c, .int .i64 i, .int .i64 0] 55)) (w.heap.size + 1) 55 #[.slice A n c, .int .i64 i, .int .i64 0] := by simpa using Blk.new (w.alloc (.cells #[.int .i64 0, .int .i64 0, .int .i64 0, .string ⟨#[]⟩, .slice none 0 0] 28)) 55 #[.slice A n c, .int .i64 i, .int .i64 0]
  have hT : QR ((w.alloc (.cells #[.int .i64 0, .int .i64 0, .int .i64 0, .string ⟨#[]⟩, .slice none 0 0] 28)).alloc (.cells #[.slice A n c, .int .i64 i, .int .i64 0] 55)) (w.heap.size + 1) A n c b i 0 := ⟨hG, (hs.below k2).more (Nat.le_succ _), hn⟩
  have hcm : capD d = min d 10000 := by unfold capD; rw [Int.min_def]; split <;> split <;> omega
  have hcd : -9223372036854775808 ≤ min d 10000 ∧ min d 10000 ≤ 9223372036854775807 := by rw [Int.min_def]; split <;> omega
  have HV := i_tvalue (W := w) (Nat.le_succ _) hU (2 * b.length + 3) i (min d 10000) _ hT k2 (by omega) hi hcd
  rw [show tightR b i d = tV b (2 * b.length + 3) (min d 10000) i by unfold tightR; rw [hcm]]
  clear hcm hcd
  obtain ⟨X, hXX⟩ : ∃ X, tV b (2 * b.length + 3) (min d 10000) i = X := ⟨_, rfl⟩
  rw [hXX] at HV ⊢
  clear hXX hs hl hU
  go_enter Tryz.func22, Tryz.ntmps22
  go_upto_region 2 with fail
  generalize (w.alloc (.cells #[.int .i64 0, .int .i64 0, .int .i64 0, .string ⟨#[]⟩, .slice none 0 0] 28)).alloc (.cells #[.slice A n c, .int .i64 i, .int .i64 0] 55) = wa at k2 hR hG hT HV ⊢
  go_upto_region 3 with (go_at_call 44; refine HV.mono ?_; rintro r w5 ⟨t, u, p', kc, rfl, hl5, ho5, hT5, hf5, hok⟩)
  have hzG : w.heap.size + 1 < wa.heap.size := hG.lt
  have kx := Below.one w5 (.cells #[.int .i64 t.k, .int .i64 t.n, .int .i64 t.x, .string t.s, .slice u.A u.n u.c] 28)
  have E1 := hT5.below kx hT5.blk.lt
  have E2 := (Blk.ofFr hR hf5 (by omega)).below kx (Blk.ofFr hR hf5 (by omega)).lt
  have EB := Blk.new w5 28 #[.int .i64 t.k, .int .i64 t.n, .int .i64 t.x, .string t.s, .slice u.A u.n u.c]
  have E3 := hl5.below (fun g hg => ho5.lt hg) kx
  have E4 := (ho5.below (fun g hg => ho5.lt hg) kx).mono (lo2 := w.heap.size + 2) hzG
  have E5 : Below w.heap.size w (w5.alloc (.cells #[.int .i64 t.k, .int .i64 t.n, .int .i64 t.x, .string t.s, .slice u.A u.n u.c] 28)) := k2.trans (((hf5.below (B := w.heap.size) (by simp) (by omega))).trans (kx.mono (Nat.le_trans (by omega) hf5.size)))
  have zb : w.heap.size + 1 < w5.heap.size := Nat.lt_of_lt_of_le hzG hf5.size
  generalize w5.heap.size = bx at EB zb ⊢
  generalize w5.alloc (.cells #[.int .i64 t.k, .int .i64 t.n, .int .i64 t.x, .string t.s, .slice u.A u.n u.c] 28) = wb at E1 E2 E3 E4 E5 EB ⊢
  clear hR hG hT k2 HV hl5 ho5 hT5 hf5 kx hzG
  obtain ⟨d0, d1, d2⟩ := E1.cells
  cases X with
  | bad cd =>
    obtain ⟨hkc, hc0⟩ := hok
    subst hkc

    have hcb : (kc != 0) = true := by simpa using hc0
    have hcb2 : (kc == 0) = false := by simpa using hc0
    have BZ := E2
    obtain ⟨x0, x1, x2, x3, x4, ⟨s0, t0⟩, ⟨s1, t1⟩, ⟨s2, t2⟩, ⟨s3, t3⟩, s4, t4⟩ := BZ.five (o := 0) (by simp) (.int .i64 0) (.int .i64 0) (.int .i64 0) (.string ⟨#[]⟩)
    go_wp2_with fail
    go_region
    go_wp2_with fail
    have hblk : Blk ((set5 wb w.heap.size 0 zeroT ⟨none, 0, 0, []⟩).drew) w.heap.size 28 _ := (Blk.five_ BZ zeroT ⟨none, 0, 0, []⟩).drew
    have hfr9 : Below w.heap.size w ((set5 wb w.heap.size 0 zeroT ⟨none, 0, 0, []⟩).drew) := (below_set5 E5 (Nat.le_refl _)).drew
    have hres := fun (tm : Array Value) (hp : tm.getD 6 undef = .pointer (some ⟨w.heap.size, 0, none⟩)) => results_blk3 (P := Tryz.prog) (tmps := tm) Tryz.results22 Tryz.isAgg28 (by exact Tryz.sizeOf28) hp hblk
    refine bodyPost_ret (hres _ rfl) rfl ?_
    exact ⟨⟨none, 0, 0, []⟩, rfl, LsAt.nil_ _ _, Own.nil_ _ _, hfr9⟩
  | good v0 q0 =>
    obtain ⟨rfl, rfl, rfl⟩ := hok

    have hn0 : w.heap.size ∉ u.fp := fun hx => by have := (E4.2 _ hx).1; omega
    have BZ := E2
    obtain ⟨x0, x1, x2, x3, x4, ⟨s0, t0⟩, ⟨s1, t1⟩, ⟨s2, t2⟩, ⟨s3, t3⟩, s4, t4⟩ := BZ.five (o := 0) (by simp) (.int .i64 t.k) (.int .i64 t.n) (.int .i64 t.x) (.string t.s)
    have v0 := EB.cell 0
    have v1 := EB.cell 1
    have v2 := EB.cell 2
    have v3 := EB.cell 3
    have v4 := EB.cell 4
    simp only [List.getElem?_toArray, List.getElem?_cons_succ, List.getElem?_cons_zero] at v0 v1 v2 v3 v4
    go_wp2_with fail
    go_region
    go_wp2_with fail
    have hblk : Blk ((set5 wb w.heap.size 0 t u).drew) w.heap.size 28 _ := (Blk.five_ BZ t u).drew
    have hls5 := E3.set5_ (e2 := u) (g := w.heap.size) (o := 0) (t := t) hn0
    have how5 := (E4.mono (lo2 := w.heap.size) (by omega)).set5_ (g := w.heap.size) (o := 0) (t := t) (e := u) hn0
    have hfr9 : Below w.heap.size w ((set5 wb w.heap.size 0 t u).drew) := (below_set5 E5 (Nat.le_refl _)).drew
    have hres := fun (tm : Array Value) (hp : tm.getD 6 undef = .pointer (some ⟨w.heap.size, 0, none⟩)) => results_blk3 (P := Tryz.prog) (tmps := tm) Tryz.results22 Tryz.isAgg28 (by exact Tryz.sizeOf28) hp hblk
    refine bodyPost_ret (hres _ rfl) rfl ?_
    have kd := (Below.refl (set5 wb w.heap.size 0 t u).heap.size (set5 wb w.heap.size 0 t u)).drew
    have hls6 := hls5.below (fun g hg => how5.lt hg) kd
    have how6 := how5.below (fun g hg => how5.lt hg) kd
    exact ⟨u, rfl, hls6, how6, hfr9⟩
theorem s_GetTight (A : Option Addr) (n c : Nat) (b : List UInt8) (i d : Int) (w : World) (h : Sl w w.heap.size 1 A n c (u8s b)) (hn : n ≤ 1048576) (hi : -9223372036854775808 ≤ i ∧ i ≤ 9223372036854775807) (hd : -9223372036854775808 ≤ d ∧ d ≤ 9223372036854775807) :
    Calls Tryz.prog 19 #[.slice A n c, .int .i64 i, .int .i64 d] w fun r w' => GetRes w w' (resR (tightR b i d)).1 (resP (tightR b i d)) (resR (tightR b i d)).2 r := by
  have hl := h.blen
  exact s_getT hn (2 * b.length + 3) i d w h (Nat.le_refl _) (by omega) hi hd
end Go.Proofs.YtmelnaidjgpclaaGreatDoor

namespace Go.Proofs.YtmelnaidjgpclaaGreatDoor
open Go.RowKit

noncomputable def readTight (b : List UInt8) (d : Int) : Tr × Int := match tightR b 0 d with
  | .bad c => (zeroT, c)
  | .good t q => if q = b.length then (t, 0) else (zeroT, 1)
theorem readTight_cnt {b : List UInt8} (hb : b.length ≤ 1048576) (d : Int) : cntL (readTight b d).1.l ≤ 4 * b.length := by
  have h := tightR_cnt hb 0 d
  unfold readTight
  cases hx : tightR b 0 d with
  | bad c => simp only [zeroT, leafTr, cntL_nil]; omega
  | good t q =>
    rw [hx] at h
    simp only [resR] at h ⊢
    split
    · exact h
    · simp only [zeroT, leafTr, cntL_nil]; omega
set_option maxHeartbeats 4000000 in
theorem i_ReadTight (A : Option Addr) (n c : Nat) (b : List UInt8) (d : Int) (w : World) (hs : Sl w w.heap.size 1 A n c (u8s b)) (hn : n ≤ 1048576) (hd : -9223372036854775808 ≤ d ∧ d ≤ 9223372036854775807) (hU : Lib.Utf8Tabs 0 1 w) :
    Calls Tryz.prog 13 #[.slice A n c, .int .i64 d] w fun r w' => ReadRes w w' (readTight b d).1 (readTight b d).2 r := by
  have hl := hs.blen
  have K := Below.one w (.cells #[.int .i64 0, .int .i64 0, .int .i64 0, .string ⟨#[]⟩, .slice none 0 0] 28)
  have hR := Blk.new w 28 #[.int .i64 0, .int .i64 0, .int .i64 0, .string ⟨#[]⟩, .slice none 0 0]
  have HT := i_GetTight A n c b 0 d (w.alloc (.cells #[.int .i64 0, .int .i64 0, .int .i64 0, .string ⟨#[]⟩, .slice none 0 0] 28)) ((hs.below K).more (by simp)) hn (by decide) hd (Utf8Tabs_below hU K)
  have hbad := fun c0 (h : tightR b 0 d = .bad c0) => (tVM_bad b (2 * b.length + 3)).1 _ _ _ h
  have hgd := fun t0 q0 (h : tightR b 0 d = .good t0 q0) => (fun d i t q (h : tV b (2 * b.length + 3) (capD d) i = .good t q) => ((tVM_good (b := b) (by omega) (2 * b.length + 3)).1 _ i t q h).2.le) _ _ _ _ h
  unfold GetRes at HT
  unfold ReadRes readTight
  obtain ⟨X, hXX⟩ : ∃ X, tightR b 0 d = X := ⟨_, rfl⟩
  rw [hXX] at HT ⊢
  rw [hXX] at hbad hgd
  clear hXX hs
  cases X with
  | bad kc =>
    have hc0 := hbad kc rfl
    have hcb : (kc != 0) = true := by simpa using hc0
    have hcb2 : (kc == 0) = false := by simpa using hc0
    simp only [resR, resP] at HT ⊢
    clear hbad hgd hl
    go_enter Tryz.func13, Tryz.ntmps13
    go_wp2_with (go_at_call 22; refine HT.mono ?_; rintro r w5 ⟨u, rfl, hl5, ho5, hb5⟩; have BZ := (hR.below hb5 hR.lt).below (Below.one w5 (.cells (valCells zeroT u) 28)) (hR.below hb5 hR.lt).lt; obtain ⟨x0, x1, x2, x3, x4, ⟨s0, t0⟩, ⟨s1, t1⟩, ⟨s2, t2⟩, ⟨s3, t3⟩, s4, t4⟩ := BZ.five (o := 0) (by simp) (.int .i64 0) (.int .i64 0) (.int .i64 0) (.string ⟨#[]⟩))
    have hblk : Blk (set5 (w5.alloc (.cells (valCells zeroT u) 28)) w.heap.size 0 zeroT ⟨none, 0, 0, []⟩) w.heap.size 28 _ := Blk.five_ BZ zeroT ⟨none, 0, 0, []⟩
    have hfr9 : Below w.heap.size w (set5 (w5.alloc (.cells (valCells zeroT u) 28)) w.heap.size 0 zeroT ⟨none, 0, 0, []⟩) := below_set5 ((K.up hb5).up (Below.one _ _)) (Nat.le_refl _)
    have hres := fun (tm : Array Value) (hp : tm.getD 4 undef = .pointer (some ⟨w.heap.size, 0, none⟩)) => results_blk2 (P := Tryz.prog) (tmps := tm) Tryz.results13 Tryz.isAgg28 (by exact Tryz.sizeOf28) hp hblk
    refine bodyPost_ret (hres _ rfl) rfl ?_
    exact ⟨⟨none, 0, 0, []⟩, rfl, LsAt.nil_ _ _, Own.nil_ _ _, hfr9⟩
  | good t q =>
    have hqn := hgd t q rfl
    simp only [resR, resP] at HT ⊢
    have h00 : ((0 : Int) == 0) = true := rfl
    have h01 : ((0 : Int) != 0) = false := rfl
    by_cases hq : q = b.length
    · rw [if_pos hq]
      have hlt : decide ((q : Int) < (n : Int)) = false := by simp; omega
      have hqi : (q : Int) = (n : Int) := by omega
      have hne : ((q : Int) != (n : Int)) = false := by simp; omega
      have hlt2 : ¬ (q : Int) < (n : Int) := by omega
      have hlt3 : ¬ q < n := by omega
      have hlt4 : decide (q < n) = false := by simp; omega
      have hne2 : (q != n) = false := by simp; omega
      clear hqi hbad hgd hqn hl
      go_enter Tryz.func13, Tryz.ntmps13
      go_wp2_with (go_at_call 22; refine HT.mono ?_; rintro r w5 ⟨u, rfl, hl5, ho5, hb5⟩; have kx := Below.one w5 (.cells (valCells t u) 28); have BZ := (hR.below hb5 hR.lt).below kx (hR.below hb5 hR.lt).lt; obtain ⟨x0, x1, x2, x3, x4, ⟨s0, t0⟩, ⟨s1, t1⟩, ⟨s2, t2⟩, ⟨s3, t3⟩, s4, t4⟩ := BZ.five (o := 0) (by simp) (.int .i64 t.k) (.int .i64 t.n) (.int .i64 t.x) (.string t.s); obtain ⟨v0, v1, v2, v3, v4⟩ := (Blk.new w5 28 (valCells t u)).boxV)
      have hn0 : w.heap.size ∉ u.fp := fun hx => by have := (ho5.2 _ hx).1; simp at this; omega
      have hblk : Blk (set5 (w5.alloc (.cells (valCells t u) 28)) w.heap.size 0 t u) w.heap.size 28 _ := Blk.five_ BZ t u
      have hls5 := (hl5.below (fun g hg => ho5.lt hg) kx).set5_ (e2 := u) (g := w.heap.size) (o := 0) (t := t) hn0
      have how5 := ((ho5.below (fun g hg => ho5.lt hg) kx).mono (lo2 := w.heap.size) (by simp)).set5_ (g := w.heap.size) (o := 0) (t := t) (e := u) hn0
      have hfr9 : Below w.heap.size w (set5 (w5.alloc (.cells (valCells t u) 28)) w.heap.size 0 t u) := below_set5 ((K.up hb5).up kx) (Nat.le_refl _)
      have hres := fun (tm : Array Value) (hp : tm.getD 4 undef = .pointer (some ⟨w.heap.size, 0, none⟩)) => results_blk2 (P := Tryz.prog) (tmps := tm) Tryz.results13 Tryz.isAgg28 (by exact Tryz.sizeOf28) hp hblk
      refine bodyPost_ret (hres _ rfl) rfl ?_
      exact ⟨u, rfl, hls5, how5, hfr9⟩
    · rw [if_neg hq]
      have hlt : decide ((q : Int) < (n : Int)) = true := by simp; omega
      have hne : ((q : Int) != (n : Int)) = true := by simp; omega
      have hlt2 : (q : Int) < (n : Int) := by omega
      have hlt3 : q < n := by omega
      have hlt4 : decide (q < n) = true := by simp; omega
      have hne2 : (q != n) = true := by simp; omega
      clear hbad hgd hqn hl
      go_enter Tryz.func13, Tryz.ntmps13
      go_wp2_with (go_at_call 22; refine HT.mono ?_; rintro r w5 ⟨u, rfl, hl5, ho5, hb5⟩; have BZ := (hR.below hb5 hR.lt).below (Below.one w5 (.cells (valCells t u) 28)) (hR.below hb5 hR.lt).lt; obtain ⟨x0, x1, x2, x3, x4, ⟨s0, t0⟩, ⟨s1, t1⟩, ⟨s2, t2⟩, ⟨s3, t3⟩, s4, t4⟩ := BZ.five (o := 0) (by simp) (.int .i64 0) (.int .i64 0) (.int .i64 0) (.string ⟨#[]⟩))
      have hblk : Blk (set5 (w5.alloc (.cells (valCells t u) 28)) w.heap.size 0 zeroT ⟨none, 0, 0, []⟩) w.heap.size 28 _ := Blk.five_ BZ zeroT ⟨none, 0, 0, []⟩
      have hfr9 : Below w.heap.size w (set5 (w5.alloc (.cells (valCells t u) 28)) w.heap.size 0 zeroT ⟨none, 0, 0, []⟩) := below_set5 ((K.up hb5).up (Below.one _ _)) (Nat.le_refl _)
      have hres := fun (tm : Array Value) (hp : tm.getD 4 undef = .pointer (some ⟨w.heap.size, 0, none⟩)) => results_blk2 (P := Tryz.prog) (tmps := tm) Tryz.results13 Tryz.isAgg28 (by exact Tryz.sizeOf28) hp hblk
      refine bodyPost_ret (hres _ rfl) rfl ?_
      exact ⟨⟨none, 0, 0, []⟩, rfl, LsAt.nil_ _ _, Own.nil_ _ _, hfr9⟩
set_option maxHeartbeats 4000000 in
theorem s_ReadTight (A : Option Addr) (n c : Nat) (b : List UInt8) (d : Int) (w : World) (hs : Sl w w.heap.size 1 A n c (u8s b)) (hn : n ≤ 1048576) (hd : -9223372036854775808 ≤ d ∧ d ≤ 9223372036854775807) :
    Calls Tryz.prog 11 #[.slice A n c, .int .i64 d] w fun r w' => ReadRes w w' (readTight b d).1 (readTight b d).2 r := by
  have hl := hs.blen
  have K := Below.one w (.cells #[.int .i64 0, .int .i64 0, .int .i64 0, .string ⟨#[]⟩, .slice none 0 0] 28)
  have hR := Blk.new w 28 #[.int .i64 0, .int .i64 0, .int .i64 0, .string ⟨#[]⟩, .slice none 0 0]
  have HT := s_GetTight A n c b 0 d (w.alloc (.cells #[.int .i64 0, .int .i64 0, .int .i64 0, .string ⟨#[]⟩, .slice none 0 0] 28)) ((hs.below K).more (by simp)) hn (by decide) hd
  have hbad := fun c0 (h : tightR b 0 d = .bad c0) => (tVM_bad b (2 * b.length + 3)).1 _ _ _ h
  have hgd := fun t0 q0 (h : tightR b 0 d = .good t0 q0) => (fun d i t q (h : tV b (2 * b.length + 3) (capD d) i = .good t q) => ((tVM_good (b := b) (by omega) (2 * b.length + 3)).1 _ i t q h).2.le) _ _ _ _ h
  unfold GetRes at HT
  unfold ReadRes readTight
  obtain ⟨X, hXX⟩ : ∃ X, tightR b 0 d = X := ⟨_, rfl⟩
  rw [hXX] at HT ⊢
  rw [hXX] at hbad hgd
  clear hXX hs
  cases X with
  | bad kc =>
    have hc0 := hbad kc rfl
    have hcb : (kc != 0) = true := by simpa using hc0
    have hcb2 : (kc == 0) = false := by simpa using hc0
    simp only [resR, resP] at HT ⊢
    clear hbad hgd hl
    go_enter Tryz.func11, Tryz.ntmps11
    go_wp2_with (go_at_call 19; refine HT.mono ?_; rintro r w5 ⟨u, rfl, hl5, ho5, hb5⟩; have BZ := (hR.below hb5 hR.lt).below (Below.one w5 (.cells (valCells zeroT u) 28)) (hR.below hb5 hR.lt).lt; obtain ⟨x0, x1, x2, x3, x4, ⟨s0, t0⟩, ⟨s1, t1⟩, ⟨s2, t2⟩, ⟨s3, t3⟩, s4, t4⟩ := BZ.five (o := 0) (by simp) (.int .i64 0) (.int .i64 0) (.int .i64 0) (.string ⟨#[]⟩))
    have hblk : Blk (set5 (w5.alloc (.cells (valCells zeroT u) 28)) w.heap.size 0 zeroT ⟨none, 0, 0, []⟩) w.heap.size 28 _ := Blk.five_ BZ zeroT ⟨none, 0, 0, []⟩
    have hfr9 : Below w.heap.size w (set5 (w5.alloc (.cells (valCells zeroT u) 28)) w.heap.size 0 zeroT ⟨none, 0, 0, []⟩) := below_set5 ((K.up hb5).up (Below.one _ _)) (Nat.le_refl _)
    have hres := fun (tm : Array Value) (hp : tm.getD 4 undef = .pointer (some ⟨w.heap.size, 0, none⟩)) => results_blk2 (P := Tryz.prog) (tmps := tm) Tryz.results11 Tryz.isAgg28 (by exact Tryz.sizeOf28) hp hblk
    refine bodyPost_ret (hres _ rfl) rfl ?_
    exact ⟨⟨none, 0, 0, []⟩, rfl, LsAt.nil_ _ _, Own.nil_ _ _, hfr9⟩
  | good t q =>
    have hqn := hgd t q rfl
    simp only [resR, resP] at HT ⊢
    have h00 : ((0 : Int) == 0) = true := rfl
    have h01 : ((0 : Int) != 0) = false := rfl
    by_cases hq : q = b.length
    · rw [if_pos hq]
      have hlt : decide ((q : Int) < (n : Int)) = false := by simp; omega
      have hqi : (q : Int) = (n : Int) := by omega
      have hne : ((q : Int) != (n : Int)) = false := by simp; omega
      have hlt2 : ¬ (q : Int) < (n : Int) := by omega
      have hlt3 : ¬ q < n := by omega
      have hlt4 : decide (q < n) = false := by simp; omega
      have hne2 : (q != n) = false := by simp; omega
      clear hqi hbad hgd hqn hl
      go_enter Tryz.func11, Tryz.ntmps11
      go_wp2_with (go_at_call 19; refine HT.mono ?_; rintro r w5 ⟨u, rfl, hl5, ho5, hb5⟩; have kx := Below.one w5 (.cells (valCells t u) 28); have BZ := (hR.below hb5 hR.lt).below kx (hR.below hb5 hR.lt).lt; obtain ⟨x0, x1, x2, x3, x4, ⟨s0, t0⟩, ⟨s1, t1⟩, ⟨s2, t2⟩, ⟨s3, t3⟩, s4, t4⟩ := BZ.five (o := 0) (by simp) (.int .i64 t.k) (.int .i64 t.n) (.int .i64 t.x) (.string t.s); obtain ⟨v0, v1, v2, v3, v4⟩ := (Blk.new w5 28 (valCells t u)).boxV)
      have hn0 : w.heap.size ∉ u.fp := fun hx => by have := (ho5.2 _ hx).1; simp at this; omega
      have hblk : Blk (set5 (w5.alloc (.cells (valCells t u) 28)) w.heap.size 0 t u) w.heap.size 28 _ := Blk.five_ BZ t u
      have hls5 := (hl5.below (fun g hg => ho5.lt hg) kx).set5_ (e2 := u) (g := w.heap.size) (o := 0) (t := t) hn0
      have how5 := ((ho5.below (fun g hg => ho5.lt hg) kx).mono (lo2 := w.heap.size) (by simp)).set5_ (g := w.heap.size) (o := 0) (t := t) (e := u) hn0
      have hfr9 : Below w.heap.size w (set5 (w5.alloc (.cells (valCells t u) 28)) w.heap.size 0 t u) := below_set5 ((K.up hb5).up kx) (Nat.le_refl _)
      have hres := fun (tm : Array Value) (hp : tm.getD 4 undef = .pointer (some ⟨w.heap.size, 0, none⟩)) => results_blk2 (P := Tryz.prog) (tmps := tm) Tryz.results11 Tryz.isAgg28 (by exact Tryz.sizeOf28) hp hblk
      refine bodyPost_ret (hres _ rfl) rfl ?_
      exact ⟨u, rfl, hls5, how5, hfr9⟩
    · rw [if_neg hq]
      have hlt : decide ((q : Int) < (n : Int)) = true := by simp; omega
      have hne : ((q : Int) != (n : Int)) = true := by simp; omega
      have hlt2 : (q : Int) < (n : Int) := by omega
      have hlt3 : q < n := by omega
      have hlt4 : decide (q < n) = true := by simp; omega
      have hne2 : (q != n) = true := by simp; omega
      clear hbad hgd hqn hl
      go_enter Tryz.func11, Tryz.ntmps11
      go_wp2_with (go_at_call 19; refine HT.mono ?_; rintro r w5 ⟨u, rfl, hl5, ho5, hb5⟩; have BZ := (hR.below hb5 hR.lt).below (Below.one w5 (.cells (valCells t u) 28)) (hR.below hb5 hR.lt).lt; obtain ⟨x0, x1, x2, x3, x4, ⟨s0, t0⟩, ⟨s1, t1⟩, ⟨s2, t2⟩, ⟨s3, t3⟩, s4, t4⟩ := BZ.five (o := 0) (by simp) (.int .i64 0) (.int .i64 0) (.int .i64 0) (.string ⟨#[]⟩))
      have hblk : Blk (set5 (w5.alloc (.cells (valCells t u) 28)) w.heap.size 0 zeroT ⟨none, 0, 0, []⟩) w.heap.size 28 _ := Blk.five_ BZ zeroT ⟨none, 0, 0, []⟩
      have hfr9 : Below w.heap.size w (set5 (w5.alloc (.cells (valCells t u) 28)) w.heap.size 0 zeroT ⟨none, 0, 0, []⟩) := below_set5 ((K.up hb5).up (Below.one _ _)) (Nat.le_refl _)
      have hres := fun (tm : Array Value) (hp : tm.getD 4 undef = .pointer (some ⟨w.heap.size, 0, none⟩)) => results_blk2 (P := Tryz.prog) (tmps := tm) Tryz.results11 Tryz.isAgg28 (by exact Tryz.sizeOf28) hp hblk
      refine bodyPost_ret (hres _ rfl) rfl ?_
      exact ⟨⟨none, 0, 0, []⟩, rfl, LsAt.nil_ _ _, Own.nil_ _ _, hfr9⟩
end Go.Proofs.YtmelnaidjgpclaaGreatDoor
