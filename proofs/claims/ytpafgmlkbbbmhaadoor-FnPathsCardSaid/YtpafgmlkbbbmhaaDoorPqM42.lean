/- Draws of steps and of paths: l8Step, l8Path. The draw of PutAt. -/
import Derived.Test.YtpafgmlkbbbmhaaDoorPqPathsS
import Derived.Test.YtpafgmlkbbbmhaaDoorPqPathsM
import Derived.Test.YtpafgmlkbbbmhaaDoorPqM15
import Derived.Test.YtpafgmlkbbbmhaaDoorPqM41
import Derived.Deep.RegionWith
set_option linter.unusedVariables false
set_option maxRecDepth 100000
set_option linter.unusedSimpArgs false
namespace Go.Proofs.YtpafgmlkbbbmhaaDoor
open Go.RowKit

def StOk (p : Int × Bool) : Prop := -9223372036854775808 ≤ p.1 ∧ p.1 ≤ 9223372036854775807
theorem Fr.belB {fp : List Nat} {w w1 w2 : World} {B : Nat} (h : Fr fp w w1) (hb : Below B w1 w2) (hB : w.heap.size ≤ B) : Fr fp w w2 :=
  ⟨hb.os.trans h.os, hb.tape.trans h.tape, hb.output.trans h.output, Nat.le_trans h.size hb.size, fun k hk hn => (hb.block k (Nat.lt_of_lt_of_le hk hB)).trans (h.block k hk hn)⟩
theorem step_fit {a b : Int} (ha : 0 ≤ a ∧ a < 4) (hb : 0 ≤ b ∧ b < 8) : (IntKind.i64.wrap (b.tdiv 7) = b / 7) ∧ IntKind.i64.wrap (a - b / 7) = a - b / 7 ∧ -1 ≤ a - b / 7 ∧ a - b / 7 ≤ 3 := by
  have e : b.tdiv 7 = b / 7 := Int.tdiv_eq_ediv_of_nonneg hb.1
  rw [e]
  refine ⟨?_, ?_, by omega, by omega⟩ <;> rw [IntKind.wrap_i64] <;> omega
def StepDrawn (w w' : World) (B g n c : Nat) (A : Option Addr) (b : List UInt8) (r : Ending) : Prop :=
  ∃ p : Int × Bool, r = .returned (.agg #[.int .i64 p.1, .bool p.2]) ∧ StOk p ∧ Cur w' B g A n c b ∧ Fr [g] w w'
set_option maxHeartbeats 4000000 in
theorem s_l8Step (B g n c : Nat) (A : Option Addr) (b : List UInt8) (w : World) (h : Cur w B g A n c b) :
    Calls Tryd.prog 30 #[.pointer (some ⟨g, 0, none⟩)] w fun r w' => StepDrawn w w' B g n c A b r := by
  unfold StepDrawn
  have hgl := h.lt
  have hgn : w.heap.size ≠ g := by omega
  have hC0 := h.below (Below.one w (.cells #[.int .i64 0, .bool false] 34))
  have hF0 : Fr [g] w (w.alloc (.cells #[.int .i64 0, .bool false] 34)) := Fr.of_below (Below.one _ _)
  have hB0 := Blk.new w 34 #[.int .i64 0, .bool false]
  go_enter Tryd.func30, Tryd.ntmps30
  go_upto_region 1 with fail
  generalize (w.alloc (.cells #[.int .i64 0, .bool false] 34)) = w0 at hC0 hF0 hB0 ⊢
  go_wp2_with fail
  refine (s_l1Below B g n c A b 4 _ hC0 (by decide)).mono ?_; rintro r w1 ⟨z1, rfl, hz1, hC1, hf1⟩
  have y1 := hz1.2 (by decide)
  have hB1 := hB0.fr_' hf1 (by simpa using hgn)
  have hF1 := hF0.trans hf1
  clear hz1 hB0 hF0 hC0 hf1
  go_wp2_with fail
  refine (s_l1Below B g n c A b 8 _ hC1 (by decide)).mono ?_; rintro r w2 ⟨z2, rfl, hz2, hC2, hf2⟩
  have y2 := hz2.2 (by decide)
  have hB2 := hB1.fr_' hf2 (by simpa using hgn)
  have hF2 := hF1.trans hf2
  clear hz2 hB1 hF1 hC1 hf2
  obtain ⟨f1, f2, f3⟩ := step_fit y1 y2
  obtain ⟨y1a, y1b⟩ := y1
  obtain ⟨y2a, y2b⟩ := y2
  go_wp2_with fail
  refine (s_l1Once B g n c A b 5 _ hC2 (by decide)).mono ?_; rintro r w3 ⟨x3, rfl, hC3, hf3⟩
  have hB3 := hB2.fr_' hf3 (by simpa using hgn)
  have hF3 := hF2.trans hf3
  clear hB2 hF2 hC2 hf3
  have r0 := hB3.cell 0
  have r1 := hB3.cell 1
  have e0 := hB3.frozen 0
  have e1 := hB3.frozen 1
  go_wp2_with fail
  exact bodyPost_ret (results_blk Tryd.results30 Tryd.isAgg34 (by exact Tryd.sizeOf34) rfl (hB3.two _ _)) rfl ⟨(z1 - z2 / 7, x3), rfl, ⟨by simp only []; omega, by simp only []; omega⟩, cur_two hC3 hgn hgl, (hF3.new_ (p := ⟨w.heap.size, 0, none⟩) (Nat.le_refl _) _).new_ (p := ⟨w.heap.size, 1, none⟩) (Nat.le_refl _) _⟩
def PathDrawn (t : Tr) (w w' : World) (B g n c : Nat) (A : Option Addr) (b : List UInt8) (r : Ending) : Prop :=
  ∃ (A' : Option Addr) (m c' : Nat) (ps : Pth), r = .returned (.slice A' m c') ∧ SS w' w.heap.size A' m c' ps ∧ m ≤ t.sz + 1 ∧ (∀ p ∈ ps, StOk p) ∧ Cur w' B g A n c b ∧ Fr [g] w w'
set_option maxHeartbeats 4000000 in
theorem s_l8Path (B g n c : Nat) (A : Option Addr) (b : List UInt8) (w : World) (h : Cur w B g A n c b) (t : Tr) (e : El) (hl : LsAt w t.l e) (hel : e.lt w.heap.size) (hge : g ∉ e.fp) (hm : t.sz ≤ 1048576) :
    Calls Tryd.prog 26 #[.pointer (some ⟨g, 0, none⟩), trV t e] w fun r w' => PathDrawn t w w' B g n c A b r := by
  unfold PathDrawn
  have hgl := h.lt
  have k1 := Below.one w (.cells (valCells t e) 26)
  have BX := Blk.new w 26 (valCells t e)
  have hAP := s_AllPaths t e (w.alloc (.cells (valCells t e) 26)) (hl.below hel k1) (hel.mono k1.size) hm
  have hG := goodPs t []
  have hlen := (pathsT_bd t []).1
  have hhd := pathsT_eq t []
  have hqs : ∀ q ∈ pathsT t [], q.length ≤ t.sz ∧ ∀ p ∈ q, StOk p := fun q hq => by
    refine ⟨by have := (pathsT_bd t []).2 q hq; simpa using this, fun p hp => ?_⟩
    rcases hG.st q hq p hp with h1 | h1
    · cases h1
    · unfold StOk; omega
  have hpos : 0 < (pathsT t []).length := by rw [hhd]; simp
  generalize pathsT t [] = L at hAP hlen hqs hpos
  obtain ⟨p0, p1, p2, p3, p4⟩ := BX.boxV
  have hC0 := h.below k1
  clear hG hhd hl
  go_enter Tryd.func26, Tryd.ntmps26
  go_wp2_with fail
  refine hAP.mono ?_; rintro r w1 ⟨A1, n1, c1, rs, rfl, hR, hb1⟩
  have hC1 := hC0.below hb1
  have hF1 : Fr [g] w w1 := (Fr.of_below k1).trans (Fr.of_below hb1)
  have hn1 := hR.len
  have hlo : w.heap.size < (w.alloc (.cells (valCells t e) 26)).heap.size := by simp
  have hlz := hb1.size
  generalize (w.alloc (.cells (valCells t e) 26)).heap.size = lo at hR hlo hlz
  have hn9 : n1 ≤ 1048577 := by omega
  have hn0 : 0 < n1 := by omega
  clear p0 p1 p2 p3 p4 BX hC0 hAP
  go_wp2_with fail
  refine (s_l1Below B g n c A b n1 _ hC1 (by omega)).mono ?_; rintro r w2 ⟨z2, rfl, hz2, hC2, hf2⟩
  obtain ⟨y1, y2⟩ := hz2.2 (by omega)
  obtain ⟨j, rfl⟩ := Int.eq_ofNat_of_zero_le y1
  have hR2 := hR.fr hf2 (fun x hx => by have := (row_lt hR.row hx).1; simp; omega) (fun x hx => by have := (hR.kid hx).1; simp; omega)
  have hF2 := hF1.trans hf2
  have hj : j < n1 := by omega
  have hl2 : lo ≤ w2.heap.size := Nat.le_trans hlz hf2.size
  clear hz2 hf2 hR hF1 hC1
  obtain ⟨gA, hjl, hjr, rfl, hgA, hgA2, hcell, hS⟩ := hR2.elem hj
  have hq := hqs L[j] (List.getElem_mem hjl)
  have hmq := hS.len
  generalize rs[j] = pl at hcell hS hmq
  generalize L[j] = q at hS hq hmq
  obtain ⟨pA, pn, pc⟩ := pl
  simp only at hcell hS hmq
  have hpl : ∀ x ∈ blkOf pA, lo ≤ x := fun x hx => (hS.lt hx).1
  clear hR2 hqs hpos hlen hn1
  go_wp2_with fail
  refine (s_l1Once B g n c A b 4 _ hC2 (by decide)).mono ?_; rintro r w3 ⟨x3, rfl, hC3, hf3⟩
  have hS3 := hS.fr hf3 (fun x hx => by have := hpl x hx; simp; omega)
  have hF3 := hF2.trans hf3
  have hl3 : lo ≤ w3.heap.size := Nat.le_trans hl2 hf3.size
  clear hf3 hF2 hC2 hS hcell
  cases x3 with
  | false =>
    go_wp2_with fail
    go_ret
    exact ⟨pA, pn, pc, q, rfl, hS3.mono (by omega), by omega, hq.2, hC3, hF3⟩
  | true =>
    go_wp2_with fail
    refine (s_l8Step B g n c A b _ hC3).mono ?_; rintro r w4 ⟨p, rfl, hp, hC4, hf4⟩
    have hS4 := hS3.fr hf4 (fun x hx => by have := hpl x hx; simp; omega)
    have hF4 := hF3.trans hf4
    have hz4 := hf4.size
    have hz3 := hF3.size
    have hC5 := hC4.below (Below.one w4 (.cells #[.int .i64 p.1, .bool p.2] 34))
    have hF5 := hF4.trans (Fr.of_below (Below.one w4 (.cells #[.int .i64 p.1, .bool p.2] 34)))
    have hS5 := hS4.below (Below.one w4 (.cells #[.int .i64 p.1, .bool p.2] 34))
    have hlit := lit_step w4 p
    have hlo5 : lo ≤ (w4.alloc (.cells #[.int .i64 p.1, .bool p.2] 34)).heap.size := by
      have := Below.size (Below.one w4 (.cells #[.int .i64 p.1, .bool p.2] 34)); omega
    clear hf4 hF3 hC3 hS3
    go_wp2_with (at_builtin; refine app_st rfl _ _ rfl hS5 rfl hlit rfl (by omega) hlo5 ?_; intro A6 c6 w6 h6 hb6)
    go_ret
    exact ⟨A6, pn + 1, c6, q ++ [p], rfl, h6.mono (by omega), by omega, fun y hy => by
      rcases List.mem_append.1 hy with hy | hy
      · exact hq.2 y hy
      · rw [List.mem_singleton] at hy; subst hy; exact hp, Cur.belowB hC5 hb6 (by omega), hF5.belB hb6 (by omega)⟩
end Go.Proofs.YtpafgmlkbbbmhaaDoor

namespace Go.Proofs.YtpafgmlkbbbmhaaDoor
open Go.RowKit

theorem results_btb {P : Program} {fn : Func} {p q u : Tmp} {ty : TypeId} {tmps : Array Value} {w : World} {g g2 : Nat} {t t2 : TypeId} {cs cs2 : Array Value} (h : fn.results = #[.cell p ty, .tmp u, .cell q ty])
    (ha : ∀ w, (isAgg ty).run P w = .ok true w) (hs : ∀ w, (sizeOf ty).run P w = .ok cs.size w) (hsz : cs2.size = cs.size) (hp : tmps.getD p undef = .pointer (some ⟨g, 0, none⟩)) (hq : tmps.getD q undef = .pointer (some ⟨g2, 0, none⟩)) (hb : Blk w g t cs) (hb2 : Blk w g2 t2 cs2) :
    (results fn tmps).run P w = .ok (.tuple #[.agg cs, tmps.getD u undef, .agg cs2]) w := by
  have hl := run_loadVar_blk ha hs hb
  have hl2 := run_loadVar_blk ha (by rw [hsz]; exact hs) hb2
  have hp2 : tmps[p]?.getD undef = .pointer (some ⟨g, 0, none⟩) := by simpa using hp
  have hq2 : tmps[q]?.getD undef = .pointer (some ⟨g2, 0, none⟩) := by simpa using hq
  simp [results, h, hp2, hq2, asAddr, Sem.run_bind, hl, hl2, Result.andThen]
def bdT : Nat → Nat
  | 0 => 1000
  | d + 1 => 1006 + 6 * bdT d
theorem drT_sz : ∀ (d : Nat) (t : Tr), drT d t → t.sz ≤ bdT d
  | 0, t, h => by
    have h1 := t.sz_eq
    have h2 : t.s.size ≤ 1000 := h.2.2.2.1
    have h3 : t.l = [] := h.1
    rw [h3] at h1
    simp [szL] at h1
    simp only [bdT]
    omega
  | d + 1, t, h => by
    have h1 := t.sz_eq
    have h2 : t.s.size ≤ 1000 := h.2.2.1
    have h3 : t.l.length ≤ 6 := h.2.2.2.2.1
    have h9 := drT_sz d
    simp only [bdT]
    generalize bdT d = M at h9 ⊢
    have h4 : ∀ l : List Tr, (∀ x ∈ l, drT d x) → (l.map Tr.sz).sum ≤ l.length * M := by
      intro l
      induction l with
      | nil => intro _; simp
      | cons a l ih =>
        intro hl
        have h5 := ih fun x hx => hl x (List.mem_cons_of_mem _ hx)
        have h6 := h9 a (hl a List.mem_cons_self)
        simp only [List.map_cons, List.sum_cons, List.length_cons, Nat.succ_mul]
        omega
    have h5 := h4 t.l h.2.2.2.2.2
    have h6 : t.l.length * M ≤ 6 * M := Nat.mul_le_mul_right _ h3
    unfold szL at h1
    omega
theorem drT_small {d : Nat} {t : Tr} (hd : d ≤ 3) (h : drT d t) : t.sz ≤ 1048576 := by
  have h1 := drT_sz 3 t (drT_le h hd)
  have h2 : bdT 3 ≤ 1048576 := by decide
  omega
/-- What drawing a tree, a path and a tree to put there gives. -/
def PutDrawnV (w w' : World) (r : Ending) : Prop :=
  ∃ (v x : Tr) (e ex : El) (A' : Option Addr) (m c' : Nat) (ps : Pth), r = .returned (.tuple #[trV v e, .slice A' m c', trV x ex]) ∧ LsAt w' v.l e ∧ e.lt w'.heap.size ∧ v.sz ≤ 1048576 ∧ LsAt w' x.l ex ∧ ex.lt w'.heap.size ∧ x.sz ≤ 1048576 ∧ Sl w' w'.heap.size 2 A' m c' (stC ps) ∧ m ≤ 1048577 ∧ (∀ p ∈ ps, StOk p) ∧ Below w.heap.size w w'
theorem fr1_below {w w' : World} {g B : Nat} (h : Fr [g] w w') (hg : B ≤ g) (hw : B ≤ w.heap.size) : Below B w w' := h.below (by simpa using hg) hw
theorem LsAt.fr1 {w w' : World} {l : List Tr} {e : El} {g : Nat} (h : LsAt w l e) (hl : e.lt w.heap.size) (hf : Fr [g] w w') (hg : g ∉ e.fp) : LsAt w' l e :=
  h.keep fun x hx o => World.cell?_of_block (a := ⟨x, o, none⟩) (hf.block x (hl x hx) (by simp; exact fun e2 => hg (e2 ▸ hx)))
/-- Where the results' boxes and the rest stand. -/
structure PutSt (w w' : World) (t2 g q n c m3 c3 : Nat) (A A3 : Option Addr) (b : List UInt8) (v : Tr) (e : El) (ps : Pth) (c2 c4 : Array Value) : Prop where
  b2 : Blk w' t2 26 c2
  b4 : Blk w' (t2 + 1) 26 c4
  bv : Blk w' q 26 (valCells v e)
  ls : LsAt w' v.l e
  lt : e.lt w'.heap.size
  ss : SS w' t2 A3 m3 c3 ps
  cur : Cur w' t2 g A n c b
  be : Below t2 w w'
  f1 : ∀ x ∈ e.fp, t2 + 2 ≤ x ∧ x ≠ g
  f2 : ∀ x ∈ blkOf A3, t2 + 2 ≤ x ∧ x ≠ g
  o1 : t2 + 2 ≤ g
  o2 : g < q
section
variable {w w' w2 : World} {t2 g q n c m3 c3 : Nat} {A A3 : Option Addr} {b : List UInt8} {v x : Tr} {e ex : El} {ps : Pth} {c2 c4 : Array Value}
theorem PutSt.drew (h : PutSt w w' t2 g q n c m3 c3 A A3 b v e ps c2 c4) : PutSt w w'.drew t2 g q n c m3 c3 A A3 b v e ps c2 c4 := by
  have hb := (Below.refl w'.heap.size w').drew
  exact ⟨h.b2.drew, h.b4.drew, h.bv.drew, h.ls.below h.lt hb, h.lt.mono hb.size, h.ss.below hb, h.cur.below hb, h.be.drew, h.f1, h.f2, h.o1, h.o2⟩
theorem PutSt.call (h : PutSt w w' t2 g q n c m3 c3 A A3 b v e ps c2 c4) (hC : Cur w2 t2 g A n c b) (hf : Fr [g] w' w2) : PutSt w w2 t2 g q n c m3 c3 A A3 b v e ps c2 c4 := by
  have h1 := h.o1
  have h2 := h.o2
  exact ⟨h.b2.fr_' hf (by simp; omega), h.b4.fr_' hf (by simp; omega), h.bv.fr_' hf (by simp; omega), h.ls.fr1 h.lt hf (fun hx => (h.f1 _ hx).2 rfl), h.lt.mono hf.size, h.ss.fr hf (fun x hx => by simpa using (h.f2 x hx).2), hC, h.be.trans (fr1_below hf (by omega) (by have := h.b2.lt; omega)), h.f1, h.f2, h.o1, h.o2⟩
theorem PutSt.put2 {y0 y1 y2 y3 y4 : Value} (h : PutSt w w' t2 g q n c m3 c3 A A3 b v e ps #[y0, y1, y2, y3, y4] c4) (x : Tr) (ex : El) : PutSt w (set5 w' t2 0 x ex) t2 g q n c m3 c3 A A3 b v e ps (valCells x ex) c4 := by
  have h1 := h.o1
  have h2 := h.o2
  refine ⟨h.b2.five_ x ex, h.b4.far5 (by omega), h.bv.far5 (by omega), h.ls.set5_ (fun hx => by have := (h.f1 _ hx).1; omega), by rw [El.lt, set5_size]; exact h.lt, ?_, ?_, below_set5 h.be (Nat.le_refl _), h.f1, h.f2, h.o1, h.o2⟩
  · exact h.ss.fr (fp := [t2]) fr_put5 (fun y hy => by have := (h.f2 y hy).1; simp; omega)
  · obtain ⟨a1, a2, a3, i, hh, a4, a5⟩ := h.cur
    exact ⟨a1, a2, ((((a3.setCell (Nat.le_refl _) _).setCell (Nat.le_refl _) _).setCell (Nat.le_refl _) _).setCell (Nat.le_refl _) _).setCell (Nat.le_refl _) _, i, hh, a4, a5.far5 (by omega)⟩
theorem PutSt.put4 {y0 y1 y2 y3 y4 : Value} (h : PutSt w w' t2 g q n c m3 c3 A A3 b v e ps c2 #[y0, y1, y2, y3, y4]) (x : Tr) (ex : El) : PutSt w (set5 w' (t2 + 1) 0 x ex) t2 g q n c m3 c3 A A3 b v e ps c2 (valCells x ex) := by
  have h1 := h.o1
  have h2 := h.o2
  refine ⟨h.b2.far5 (by omega), h.b4.five_ x ex, h.bv.far5 (by omega), h.ls.set5_ (fun hx => by have := (h.f1 _ hx).1; omega), by rw [El.lt, set5_size]; exact h.lt, ?_, ?_, below_set5 h.be (Nat.le_succ _), h.f1, h.f2, h.o1, h.o2⟩
  · exact h.ss.fr (fp := [t2 + 1]) fr_put5 (fun y hy => by have := (h.f2 y hy).1; simp; omega)
  · obtain ⟨a1, a2, a3, i, hh, a4, a5⟩ := h.cur
    exact ⟨a1, a2, ((((a3.setCell (Nat.le_succ _) _).setCell (Nat.le_succ _) _).setCell (Nat.le_succ _) _).setCell (Nat.le_succ _) _).setCell (Nat.le_succ _) _, i, hh, a4, a5.far5 (by omega)⟩
end
end Go.Proofs.YtpafgmlkbbbmhaaDoor
