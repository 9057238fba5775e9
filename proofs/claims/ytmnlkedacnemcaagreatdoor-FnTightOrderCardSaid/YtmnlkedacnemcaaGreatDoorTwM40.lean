/- Trees drawn (3): l6Val. Written by gen/markdraws.py. Draws of pairs: DrawLessBytes, DrawLessTight. Written by gen/nmdraws.py. -/
import Derived.Test.YtmnlkedacnemcaaGreatDoorTwDrawTree
import Derived.Test.YtmnlkedacnemcaaGreatDoorTwM27
import Derived.Test.YtmnlkedacnemcaaGreatDoorTwM18
import Derived.Deep.RegionHeld3
set_option linter.unusedVariables false
set_option maxRecDepth 100000
set_option linter.unusedSimpArgs false
namespace Go.Proofs.YtmnlkedacnemcaaGreatDoor
open Go.RowKit

theorem drT_up : ∀ (d : Nat) (t : Tr), drT d t → drT (d + 1) t
  | 0, t, h => drT_leaf h 1
  | d + 1, t, h => ⟨h.1, h.2.1, h.2.2.1, h.2.2.2.1, h.2.2.2.2.1, fun x hx => drT_up d x (h.2.2.2.2.2 x hx)⟩
theorem drT_le {d e : Nat} {t : Tr} (h : drT d t) (hd : d ≤ e) : drT e t := by
  obtain ⟨k, rfl⟩ : ∃ k, e = d + k := ⟨e - d, by omega⟩
  clear hd
  induction k with
  | zero => exact h
  | succ k ih => exact drT_up _ _ ih
set_option maxHeartbeats 4000000 in
theorem s_l6Val (B g n c : Nat) (A : Option Addr) (b : List UInt8) (w : World) (h : Cur w B g A n c b) :
    Calls Tryz.prog 20 #[.pointer (some ⟨g, 0, none⟩)] w fun r w' => TreeDrawn 3 w w' B g n c A b r := by
  unfold TreeDrawn
  have hgl := h.lt
  have hgn : w.heap.size ≠ g := by omega
  have hC0 := h.below (Below.one w (.cells #[.int .i64 0, .int .i64 0, .int .i64 0, .string ⟨#[]⟩, .slice none 0 0] 26))
  have hF0 : Fr [g] w (w.alloc (.cells #[.int .i64 0, .int .i64 0, .int .i64 0, .string ⟨#[]⟩, .slice none 0 0] 26)) := Fr.of_below (Below.one _ _)
  have hB0 := Blk.new w 26 #[.int .i64 0, .int .i64 0, .int .i64 0, .string ⟨#[]⟩, .slice none 0 0]
  go_enter Tryz.func20, Tryz.ntmps20
  go_upto_region 1 with fail
  generalize (w.alloc (.cells #[.int .i64 0, .int .i64 0, .int .i64 0, .string ⟨#[]⟩, .slice none 0 0] 26)) = w0 at hC0 hF0 hB0 ⊢
  go_wp2_with fail
  refine (s_l1Below B g n c A b 4 _ hC0 (by decide)).mono ?_; rintro r w1 ⟨z1, rfl, hz1, hC1, hf1⟩
  obtain ⟨y1, v1⟩ := hz1.2 (by decide)
  clear hz1
  have hB1 := hB0.fr_' hf1 (by simpa using hgn)
  have hF1 := hF0.trans hf1
  obtain ⟨d, rfl⟩ : ∃ d : Nat, z1 = d := ⟨z1.toNat, by omega⟩
  have hz1 := hB1.lt
  go_wp2_with fail
  refine (s_l6Draw B g n c A b d (by omega) _ hC1).mono ?_; rintro r w2 ⟨t, u, rfl, hl, ho, ht, ⟨es, hr⟩, hC2, hf2⟩
  have hB2 := hB1.fr_' hf2 (by simpa using hgn)
  have hF2 := hF1.trans hf2
  have hrn : w.heap.size ∉ u.fp := fun hx => by have := (ho.2 _ hx).1; omega
  obtain ⟨x0, x1, x2, x3, x4, ⟨s0, t0⟩, ⟨s1, t1⟩, ⟨s2, t2⟩, ⟨s3, t3⟩, s4, t4⟩ := hB2.five (o := 0) (by simp) (.int .i64 t.k) (.int .i64 t.n) (.int .i64 t.x) (.string t.s)
  have hE := leaf_put hB2 hC2 hF2 (Nat.le_refl _) hgl t u
  have hT : drT 3 t := drT_le ht (by omega)
  have hL6 := hl.set5_ (o := 0) (t := t) (e2 := u) hrn
  have hR6 := (hr.frg (g := w.heap.size) (fr_put5 (t := t) (e := u)) (by omega)).mono (lo' := w.heap.size) (by omega)
  have hO6 := (ho.set5_ (o := 0) (t := t) (e := u) hrn).mono (lo2 := w.heap.size) (by omega)
  clear hl ho hr ht hB2 hC2 hF2 hB1 hC1 hF1 hB0 hC0 hF0
  go_wp2_with fail
  exact bodyPost_ret (results_blk Tryz.results20 Tryz.isAgg26 (by exact Tryz.sizeOf26) rfl hE.1) rfl ⟨t, u, rfl, hL6, hO6, hT, ⟨_, hR6⟩, hE.2.1, hE.2.2⟩
end Go.Proofs.YtmnlkedacnemcaaGreatDoor

namespace Go.Proofs.YtmnlkedacnemcaaGreatDoor
open Go.RowKit

theorem results_tt {P : Program} {fn : Func} {p q : Tmp} {ty : TypeId} {tmps : Array Value} {w : World} {g g2 : Nat} {t t2 : TypeId} {cs cs2 : Array Value} (h : fn.results = #[.cell p ty, .cell q ty])
    (ha : ∀ w, (isAgg ty).run P w = .ok true w) (hs : ∀ w, (sizeOf ty).run P w = .ok cs.size w) (hsz : cs2.size = cs.size) (hp : tmps.getD p undef = .pointer (some ⟨g, 0, none⟩)) (hq : tmps.getD q undef = .pointer (some ⟨g2, 0, none⟩)) (hb : Blk w g t cs) (hb2 : Blk w g2 t2 cs2) :
    (results fn tmps).run P w = .ok (.tuple #[.agg cs, .agg cs2]) w := by
  have hl := run_loadVar_blk ha hs hb
  have hl2 := run_loadVar_blk ha (by rw [hsz]; exact hs) hb2
  have hp2 : tmps[p]?.getD undef = .pointer (some ⟨g, 0, none⟩) := by simpa using hp
  have hq2 : tmps[q]?.getD undef = .pointer (some ⟨g2, 0, none⟩) := by simpa using hq
  simp [results, h, hp2, hq2, asAddr, Sem.run_bind, hl, hl2, Result.andThen]
def bdT : Nat → Nat
  | 0 => 1000
  | d + 1 => 1006 + 6 * bdT d
theorem drT_sz : ∀ (d : Nat) (t : Tr), drT d t → t.sz ≤ bdT d
  | 0, t, h => by
    have h1 := t.sz_eq
    have h2 : t.s.size ≤ 1000 := h.2.2.2.1
    have h3 : t.l = [] := h.1
    rw [h3] at h1
    simp [szL] at h1
    simp only [bdT]
    omega
  | d + 1, t, h => by
    have h1 := t.sz_eq
    have h2 : t.s.size ≤ 1000 := h.2.2.1
    have h3 : t.l.length ≤ 6 := h.2.2.2.2.1
    have h9 := drT_sz d
    simp only [bdT]
    generalize bdT d = M at h9 ⊢
    have h4 : ∀ l : List Tr, (∀ x ∈ l, drT d x) → (l.map Tr.sz).sum ≤ l.length * M := by
      intro l
      induction l with
      | nil => intro _; simp
      | cons a l ih =>
        intro hl
        have h5 := ih fun x hx => hl x (List.mem_cons_of_mem _ hx)
        have h6 := h9 a (hl a List.mem_cons_self)
        simp only [List.map_cons, List.sum_cons, List.length_cons, Nat.succ_mul]
        omega
    have h5 := h4 t.l h.2.2.2.2.2
    have h6 : t.l.length * M ≤ 6 * M := Nat.mul_le_mul_right _ h3
    unfold szL at h1
    omega
theorem drT_small {d : Nat} {t : Tr} (hd : d ≤ 3) (h : drT d t) : t.sz ≤ 1048576 := by
  have h1 := drT_sz 3 t (drT_le h hd)
  have h2 : bdT 3 ≤ 1048576 := by decide
  omega
theorem drT_wf : ∀ (d : Nat) (t : Tr), drT d t → t.wf
  | 0, t, h => by
    obtain ⟨h1, h2, h3, h4, h5⟩ := h
    refine (Tr.wf_iff t).2 ⟨by omega, h2, h3, by unfold maxLen; omega, ?_⟩
    rw [h1]; intro x hx; cases hx
  | d + 1, t, h => by
    obtain ⟨h1, h2, h3, h4, h5, h6⟩ := h
    exact (Tr.wf_iff t).2 ⟨by omega, h1, h2, by unfold maxLen; omega, fun u hu => drT_wf d u (h6 u hu)⟩
theorem lsAt_same {w w' : World} {l : List Tr} {e : El} (h : LsAt w l e) (hw : w = w') : LsAt w' l e := hw ▸ h
/-- What drawing two trees gives. -/
def LtDrawn (w w' : World) (r : Ending) : Prop :=
  ∃ (v x : Tr) (e ex : El), r = .returned (.tuple #[trV v e, trV x ex]) ∧ LsAt w' v.l e ∧ e.lt w'.heap.size ∧ LsAt w' x.l ex ∧ ex.lt w'.heap.size ∧ drT 3 v ∧ drT 3 x ∧ Below w.heap.size w w'
theorem fr1_below {w w' : World} {g B : Nat} (h : Fr [g] w w') (hg : B ≤ g) (hw : B ≤ w.heap.size) : Below B w w' := h.below (by simpa using hg) hw
theorem LsAt.fr1 {w w' : World} {l : List Tr} {e : El} {g : Nat} (h : LsAt w l e) (hl : e.lt w.heap.size) (hf : Fr [g] w w') (hg : g ∉ e.fp) : LsAt w' l e :=
  h.keep fun x hx o => World.cell?_of_block (a := ⟨x, o, none⟩) (hf.block x (hl x hx) (by simp; exact fun e2 => hg (e2 ▸ hx)))
/-- Where the results' boxes and the rest stand. -/
structure LtSt (w w' : World) (t2 g q n c : Nat) (A : Option Addr) (b : List UInt8) (v : Tr) (e : El) (c2 c4 : Array Value) : Prop where
  b2 : Blk w' t2 26 c2
  b4 : Blk w' (t2 + 1) 26 c4
  bv : Blk w' q 26 (valCells v e)
  ls : LsAt w' v.l e
  lt : e.lt w'.heap.size
  cur : Cur w' t2 g A n c b
  be : Below t2 w w'
  f1 : ∀ x ∈ e.fp, t2 + 2 ≤ x ∧ x ≠ g
  o1 : t2 + 2 ≤ g
  o2 : g < q
section
variable {w w' w2 : World} {t2 g q n c : Nat} {A : Option Addr} {b : List UInt8} {v x : Tr} {e ex : El} {c2 c4 : Array Value}
theorem LtSt.drew (h : LtSt w w' t2 g q n c A b v e c2 c4) : LtSt w w'.drew t2 g q n c A b v e c2 c4 := by
  have hb := (Below.refl w'.heap.size w').drew
  exact ⟨h.b2.drew, h.b4.drew, h.bv.drew, h.ls.below h.lt hb, h.lt.mono hb.size, h.cur.below hb, h.be.drew, h.f1, h.o1, h.o2⟩
theorem LtSt.call (h : LtSt w w' t2 g q n c A b v e c2 c4) (hC : Cur w2 t2 g A n c b) (hf : Fr [g] w' w2) : LtSt w w2 t2 g q n c A b v e c2 c4 := by
  have h1 := h.o1
  have h2 := h.o2
  exact ⟨h.b2.fr_' hf (by simp; omega), h.b4.fr_' hf (by simp; omega), h.bv.fr_' hf (by simp; omega), h.ls.fr1 h.lt hf (fun hx => (h.f1 _ hx).2 rfl), h.lt.mono hf.size, hC, h.be.trans (fr1_below hf (by omega) (by have := h.b2.lt; omega)), h.f1, h.o1, h.o2⟩
theorem LtSt.put2 {y0 y1 y2 y3 y4 : Value} (h : LtSt w w' t2 g q n c A b v e #[y0, y1, y2, y3, y4] c4) (x : Tr) (ex : El) : LtSt w (set5 w' t2 0 x ex) t2 g q n c A b v e (valCells x ex) c4 := by
  have h1 := h.o1
  have h2 := h.o2
  refine ⟨h.b2.five_ x ex, h.b4.far5 (by omega), h.bv.far5 (by omega), h.ls.set5_ (fun hx => by have := (h.f1 _ hx).1; omega), by rw [El.lt, set5_size]; exact h.lt, ?_, below_set5 h.be (Nat.le_refl _), h.f1, h.o1, h.o2⟩
  · obtain ⟨a1, a2, a3, i, hh, a4, a5⟩ := h.cur
    exact ⟨a1, a2, ((((a3.setCell (Nat.le_refl _) _).setCell (Nat.le_refl _) _).setCell (Nat.le_refl _) _).setCell (Nat.le_refl _) _).setCell (Nat.le_refl _) _, i, hh, a4, a5.far5 (by omega)⟩
theorem LtSt.put4 {y0 y1 y2 y3 y4 : Value} (h : LtSt w w' t2 g q n c A b v e c2 #[y0, y1, y2, y3, y4]) (x : Tr) (ex : El) : LtSt w (set5 w' (t2 + 1) 0 x ex) t2 g q n c A b v e c2 (valCells x ex) := by
  have h1 := h.o1
  have h2 := h.o2
  refine ⟨h.b2.far5 (by omega), h.b4.five_ x ex, h.bv.far5 (by omega), h.ls.set5_ (fun hx => by have := (h.f1 _ hx).1; omega), by rw [El.lt, set5_size]; exact h.lt, ?_, below_set5 h.be (Nat.le_succ _), h.f1, h.o1, h.o2⟩
  · obtain ⟨a1, a2, a3, i, hh, a4, a5⟩ := h.cur
    exact ⟨a1, a2, ((((a3.setCell (Nat.le_succ _) _).setCell (Nat.le_succ _) _).setCell (Nat.le_succ _) _).setCell (Nat.le_succ _) _).setCell (Nat.le_succ _) _, i, hh, a4, a5.far5 (by omega)⟩
end
set_option maxHeartbeats 8000000 in
theorem s_DrawLessTight (A : Option Addr) (n c : Nat) (b : List UInt8) (w : World) (h : Sl w w.heap.size 1 A n c (u8s b)) (hn : n ≤ 1048576) :
    Calls Tryz.prog 7 #[.slice A n c] w fun r w' => LtDrawn w w' r := by
  have k0 := Below.two w (.cells #[.int .i64 0, .int .i64 0, .int .i64 0, .string ⟨#[]⟩, .slice none 0 0] 26) (.cells #[.int .i64 0, .int .i64 0, .int .i64 0, .string ⟨#[]⟩, .slice none 0 0] 26)
  have hB2 : Blk ((w.alloc (.cells #[.int .i64 0, .int .i64 0, .int .i64 0, .string ⟨#[]⟩, .slice none 0 0] 26)).alloc (.cells #[.int .i64 0, .int .i64 0, .int .i64 0, .string ⟨#[]⟩, .slice none 0 0] 26)) w.heap.size 26 #[.int .i64 0, .int .i64 0, .int .i64 0, .string ⟨#[]⟩, .slice none 0 0] := (Blk.new w _ _).alloc _
  have hB4 : Blk ((w.alloc (.cells #[.int .i64 0, .int .i64 0, .int .i64 0, .string ⟨#[]⟩, .slice none 0 0] 26)).alloc (.cells #[.int .i64 0, .int .i64 0, .int .i64 0, .string ⟨#[]⟩, .slice none 0 0] 26)) (w.heap.size + 1) 26 #[.int .i64 0, .int .i64 0, .int .i64 0, .string ⟨#[]⟩, .slice none 0 0] := by
    simpa using Blk.new (w.alloc (.cells #[.int .i64 0, .int .i64 0, .int .i64 0, .string ⟨#[]⟩, .slice none 0 0] 26)) 26 #[.int .i64 0, .int .i64 0, .int .i64 0, .string ⟨#[]⟩, .slice none 0 0]
  have h0 : Sl ((w.alloc (.cells #[.int .i64 0, .int .i64 0, .int .i64 0, .string ⟨#[]⟩, .slice none 0 0] 26)).alloc (.cells #[.int .i64 0, .int .i64 0, .int .i64 0, .string ⟨#[]⟩, .slice none 0 0] 26)) ((w.alloc (.cells #[.int .i64 0, .int .i64 0, .int .i64 0, .string ⟨#[]⟩, .slice none 0 0] 26)).alloc (.cells #[.int .i64 0, .int .i64 0, .int .i64 0, .string ⟨#[]⟩, .slice none 0 0] 26)).heap.size 1 A n c (u8s b) := (h.below k0).more k0.size
  have hz : ((w.alloc (.cells #[.int .i64 0, .int .i64 0, .int .i64 0, .string ⟨#[]⟩, .slice none 0 0] 26)).alloc (.cells #[.int .i64 0, .int .i64 0, .int .i64 0, .string ⟨#[]⟩, .slice none 0 0] 26)).heap.size = w.heap.size + 2 := by simp
  go_enter Tryz.func7, Tryz.ntmps7
  go_upto_region 1 with fail
  generalize ((w.alloc (.cells #[.int .i64 0, .int .i64 0, .int .i64 0, .string ⟨#[]⟩, .slice none 0 0] 26)).alloc (.cells #[.int .i64 0, .int .i64 0, .int .i64 0, .string ⟨#[]⟩, .slice none 0 0] 26)) = w0 at k0 hB2 hB4 h0 hz ⊢
  go_wp2_with fail
  refine (s_l1New A n c b _ h0 hn).mono ?_; rintro r w1 ⟨rfl, hC, hb1⟩
  rw [hz] at hC ⊢
  have k1 := k0.trans (hb1.mono (by omega))
  have hC1 : Cur w1 w.heap.size (w.heap.size + 2) A n c b := by
    obtain ⟨a1, a2, a3, i, hh, a4, a5⟩ := hC
    exact ⟨by omega, a2, h.below k1, i, hh, a4, a5⟩
  have hB21 := hB2.below hb1 hB2.lt
  have hB41 := hB4.below hb1 hB4.lt
  clear hC k0 hB2 hB4 h0 hb1 hz
  generalize hg : w.heap.size + 2 = g at hC1 ⊢
  go_wp2_with fail
  refine (s_l6Val _ g n c A b _ hC1).mono ?_; rintro r w2 ⟨v, e, rfl, hl, ho, hd, -, hC2, hf2⟩
  have hB22 := hB21.fr_' hf2 (by simp; omega)
  have hB42 := hB41.fr_' hf2 (by simp; omega)
  have hgl1 := hC1.lt
  have k2 := k1.trans (fr1_below hf2 (B := w.heap.size) (by omega) (by omega))
  have hel : e.lt w2.heap.size := fun x hx => ho.lt hx
  have hge : g ∉ e.fp := fun hx => by have := (ho.2 _ hx).1; omega
  have BV := Blk.new w2 26 (valCells v e)
  have kb := Below.one w2 (.cells (valCells v e) 26)
  have hzb : (w2.alloc (.cells (valCells v e) 26)).heap.size = w2.heap.size + 1 := by simp
  have how : ∀ x ∈ e.fp, w.heap.size + 2 ≤ x := fun x hx => by have := (ho.2 _ hx).1; have := hgl1; omega
  clear ho hB21 hB41 hC1 hf2 k1
  have hC2b := hC2.below kb
  have hB22b := hB22.below kb hB22.lt
  have hB42b := hB42.below kb hB42.lt
  have k2b := k2.up kb
  have hlb := hl.below hel kb
  have helb := hel.mono kb.size
  go_upto_region 3 with fail
  have hgl2 := hC2.lt
  generalize (w2.alloc (.cells (valCells v e) 26)) = wb at hC2b hB22b hB42b k2b hlb helb BV hzb ⊢
  have hqw : w.heap.size + 1 < w2.heap.size := by have := hB42.lt; omega
  generalize w2.heap.size = q at BV hzb hqw hgl2 ⊢
  clear hC2 hB22 hB42 k2 hl hel kb
  go_wp2_with fail
  refine (s_l1Once _ g n c A b 3 _ hC2b (by decide)).mono ?_; rintro r w3 ⟨o3, rfl, hC3, hf3⟩
  have HS : LtSt w w3 w.heap.size g q n c A b v e #[.int .i64 0, .int .i64 0, .int .i64 0, .string ⟨#[]⟩, .slice none 0 0] #[.int .i64 0, .int .i64 0, .int .i64 0, .string ⟨#[]⟩, .slice none 0 0] :=
    ⟨hB22b.fr_' hf3 (by simp; omega), hB42b.fr_' hf3 (by simp; omega), BV.fr_' hf3 (by simp; omega), hlb.fr1 helb hf3 hge, helb.mono hf3.size, hC3, k2b.trans (fr1_below hf3 (B := w.heap.size) (by omega) k2b.size), fun x hx => ⟨how x hx, fun e2 => hge (e2 ▸ hx)⟩, by omega, by omega⟩
  clear hC2b hB22b hB42b BV hlb helb k2b hf3 hC3
  cases o3
  · go_upto_region 5 with fail
    have HA := HS.drew
    clear HS
    refine wp_region_noPanic ?_
    refine wp_region_held_drew (S := fun w' => BoxV w' q v e) (by kernel_rfl) (HA.bv.boxV) (fun hHeld => ?_)
    generalize w3.drew = wv at HA hHeld ⊢
    refine wpAnyH_take (i := 0) (oi := ?oi0x57) (v := ?vv0x57) ?hi0x57 (by kernel_rfl) (by kernel_rfl) (by kernel_rfl) ?hQ0x57 (Or.inl ⟨?hw0x57, ?hy0x57⟩) hHeld ?rest0x57
    case hi0x57 => (simp only [List.getElem?_toArray, List.getElem?_cons_succ, List.getElem?_cons_zero]; exact rfl)
    case hQ0x57 => exact fun _ _ _ h => h
    case hw0x57 => rfl
    case hy0x57 => ((intro w hSw; (try dsimp only at hSw); go_simp) <;> (with_reducible rfl))
    try simp only [Act.put, List.setIfInBounds_toArray, List.set_cons_zero, List.set_cons_succ]
    refine wpAnyH_take (i := 1) (oi := ?oi1x58) (v := ?vv1x58) ?hi1x58 (by kernel_rfl) (by kernel_rfl) (by kernel_rfl) ?hQ1x58 (Or.inl ⟨?hw1x58, ?hy1x58⟩) hHeld ?rest1x58
    case hi1x58 => (simp only [List.getElem?_toArray, List.getElem?_cons_succ, List.getElem?_cons_zero]; exact rfl)
    case hQ1x58 => exact fun _ _ _ h => h
    case hw1x58 => rfl
    case hy1x58 => ((intro w hSw; (try dsimp only at hSw); go_simp) <;> (with_reducible rfl))
    try simp only [Act.put, List.setIfInBounds_toArray, List.set_cons_zero, List.set_cons_succ]
    refine wpAnyH_ready (rs := [2]) (by kernel_rfl) (by simp) ?_
    refine AllReadyH.cons (o := ?o2y61) ?ho2y61 (fun KK hKK => ?st2y61) (AllReadyH.nil)
    case ho2y61 => (simp only [List.getElem?_toArray, List.getElem?_cons_succ, List.getElem?_cons_zero]; exact rfl)
    rw [if_pos (by rfl)]
    go_simp
    go_at_call 20
    refine (s_l6Val _ g n c A b _ HA.cur).mono ?_; rintro r w4 ⟨x, ex, rfl, hlx, hox, hdx, -, hC4, hf4⟩
    have HB := HA.call hC4 hf4
    have hqv := HA.bv.lt
    have ho1 := HA.o1
    have ho2 := HA.o2
    have hx2 : w.heap.size ∉ ex.fp := fun hy => by have := (hox.2 _ hy).1; omega
    have hx3 : w.heap.size + 1 ∉ ex.fp := fun hy => by have := (hox.2 _ hy).1; omega
    have hxl : ex.lt w4.heap.size := fun y hy => hox.lt hy
    clear hC4 hf4 HA hox
    refine hKK.out _ _ HB.bv.boxV (fun hHeld => ?_)
    clear hKK KK
    try simp only [Act.put, List.setIfInBounds_toArray, List.set_cons_zero, List.set_cons_succ]
    refine wpAnyH_ready (rs := [3]) (by kernel_rfl) (by simp) ?_
    refine AllReadyH.cons (o := ?o3y60) ?ho3y60 (fun KK hKK => ?st3y60) (AllReadyH.nil)
    case ho3y60 => (simp only [List.getElem?_toArray, List.getElem?_cons_succ, List.getElem?_cons_zero]; exact rfl)
    refine step_store5 (t := v) (e := e) (off := 0) (by simp only [List.getElem?_toArray, List.getElem?_cons_succ, List.getElem?_cons_zero, Option.getD_some]) (by simp only [List.getElem?_toArray, List.getElem?_cons_succ, List.getElem?_cons_zero, Option.getD_some]) HB.b2 (Nat.le_refl 5) ?_
    have HC := HB.put2 v e
    have hlx1 := hlx.set5_ (g := w.heap.size) (o := 0) (t := v) (e2 := e) hx2
    have hxl1 : ex.lt (set5 w4 w.heap.size 0 v e).heap.size := by rw [El.lt, set5_size]; exact hxl
    refine hKK.out _ _ HC.bv.boxV (fun hHeld => ?_)
    clear hKK KK
    try simp only [Act.put, List.setIfInBounds_toArray, List.set_cons_zero, List.set_cons_succ]
    clear HB hlx hxl
    generalize set5 w4 w.heap.size 0 v e = wc at HC hHeld hlx1 hxl1 ⊢
    refine wpAnyH_ready (rs := [4]) (by kernel_rfl) (by simp) ?_
    refine AllReadyH.cons (o := ?o4y59) ?ho4y59 (fun KK hKK => ?st4y59) (AllReadyH.nil)
    case ho4y59 => (simp only [List.getElem?_toArray, List.getElem?_cons_succ, List.getElem?_cons_zero]; exact rfl)
    refine step_store5 (t := x) (e := ex) (off := 0) (by simp only [List.getElem?_toArray, List.getElem?_cons_succ, List.getElem?_cons_zero, Option.getD_some]) (by simp only [List.getElem?_toArray, List.getElem?_cons_succ, List.getElem?_cons_zero, Option.getD_some]) HC.b4 (Nat.le_refl 5) ?_
    have HF := HC.put4 x ex
    have hlx2 := hlx1.set5_ (g := w.heap.size + 1) (o := 0) (t := x) (e2 := ex) hx3
    have hxl2 : ex.lt (set5 wc (w.heap.size + 1) 0 x ex).heap.size := by rw [El.lt, set5_size]; exact hxl1
    refine hKK.out _ _ HF.bv.boxV (fun hHeld => ?_)
    clear hKK KK
    try simp only [Act.put, List.setIfInBounds_toArray, List.set_cons_zero, List.set_cons_succ]
    clear HC hlx1 hxl1
    generalize set5 wc (w.heap.size + 1) 0 x ex = wd at HF hHeld hlx2 hxl2 ⊢
    refine wpAnyH_done (by kernel_rfl) ?_ _
    refine NoPanic.normal ?_
    clear hHeld
    go_wp2_with fail
    exact bodyPost_ret (results_tt Tryz.results7 Tryz.isAgg26 (by exact Tryz.sizeOf26) (by rfl) (by rfl) (by rfl) HF.b2 HF.b4) rfl (by unfold LtDrawn; exact ⟨v, x, e, ex, rfl, HF.ls, HF.lt, hlx2, hxl2, hd, hdx, HF.be⟩)
  · go_upto_region 4 with fail
    have HA := HS.drew
    clear HS
    refine wp_region_noPanic ?_
    refine wp_region_held_drew (S := fun w' => BoxV w' q v e) (by kernel_rfl) (HA.bv.boxV) (fun hHeld => ?_)
    generalize w3.drew = wv at HA hHeld ⊢
    refine wpAnyH_take (i := 0) (oi := ?oi0x53) (v := ?vv0x53) ?hi0x53 (by kernel_rfl) (by kernel_rfl) (by kernel_rfl) ?hQ0x53 (Or.inl ⟨?hw0x53, ?hy0x53⟩) hHeld ?rest0x53
    case hi0x53 => (simp only [List.getElem?_toArray, List.getElem?_cons_succ, List.getElem?_cons_zero]; exact rfl)
    case hQ0x53 => exact fun _ _ _ h => h
    case hw0x53 => rfl
    case hy0x53 => ((intro w hSw; (try dsimp only at hSw); go_simp) <;> (with_reducible rfl))
    try simp only [Act.put, List.setIfInBounds_toArray, List.set_cons_zero, List.set_cons_succ]
    refine wpAnyH_take (i := 1) (oi := ?oi1x54) (v := ?vv1x54) ?hi1x54 (by kernel_rfl) (by kernel_rfl) (by kernel_rfl) ?hQ1x54 (Or.inl ⟨?hw1x54, ?hy1x54⟩) hHeld ?rest1x54
    case hi1x54 => (simp only [List.getElem?_toArray, List.getElem?_cons_succ, List.getElem?_cons_zero]; exact rfl)
    case hQ1x54 => exact fun _ _ _ h => h
    case hw1x54 => rfl
    case hy1x54 => ((intro w hSw; (try dsimp only at hSw); go_simp) <;> (with_reducible rfl))
    try simp only [Act.put, List.setIfInBounds_toArray, List.set_cons_zero, List.set_cons_succ]
    refine wpAnyH_ready (rs := [2]) (by kernel_rfl) (by simp) ?_
    refine AllReadyH.cons (o := ?o2y56) ?ho2y56 (fun KK hKK => ?st2y56) (AllReadyH.nil)
    case ho2y56 => (simp only [List.getElem?_toArray, List.getElem?_cons_succ, List.getElem?_cons_zero]; exact rfl)
    refine step_store5 (t := v) (e := e) (off := 0) (by simp only [List.getElem?_toArray, List.getElem?_cons_succ, List.getElem?_cons_zero, Option.getD_some]) (by simp only [List.getElem?_toArray, List.getElem?_cons_succ, List.getElem?_cons_zero, Option.getD_some]) HA.b2 (Nat.le_refl 5) ?_
    have HC := HA.put2 v e
    refine hKK.out _ _ HC.bv.boxV (fun hHeld => ?_)
    clear hKK KK
    try simp only [Act.put, List.setIfInBounds_toArray, List.set_cons_zero, List.set_cons_succ]
    clear HA
    generalize set5 wv w.heap.size 0 v e = wc at HC hHeld ⊢
    refine wpAnyH_ready (rs := [3]) (by kernel_rfl) (by simp) ?_
    refine AllReadyH.cons (o := ?o3y55) ?ho3y55 (fun KK hKK => ?st3y55) (AllReadyH.nil)
    case ho3y55 => (simp only [List.getElem?_toArray, List.getElem?_cons_succ, List.getElem?_cons_zero]; exact rfl)
    refine step_store5 (t := v) (e := e) (off := 0) (by simp only [List.getElem?_toArray, List.getElem?_cons_succ, List.getElem?_cons_zero, Option.getD_some]) (by simp only [List.getElem?_toArray, List.getElem?_cons_succ, List.getElem?_cons_zero, Option.getD_some]) HC.b4 (Nat.le_refl 5) ?_
    have HF := HC.put4 v e
    refine hKK.out _ _ HF.bv.boxV (fun hHeld => ?_)
    clear hKK KK
    try simp only [Act.put, List.setIfInBounds_toArray, List.set_cons_zero, List.set_cons_succ]
    clear HC
    generalize set5 wc (w.heap.size + 1) 0 v e = wd at HF hHeld ⊢
    refine wpAnyH_done (by kernel_rfl) ?_ _
    refine NoPanic.normal ?_
    clear hHeld
    go_wp2_with fail
    exact bodyPost_ret (results_tt Tryz.results7 Tryz.isAgg26 (by exact Tryz.sizeOf26) (by rfl) (by rfl) (by rfl) HF.b2 HF.b4) rfl (by unfold LtDrawn; exact ⟨v, v, e, e, rfl, HF.ls, HF.lt, HF.ls, HF.lt, hd, hd, HF.be⟩)
/-- What drawing two rows of bytes gives. -/
def LbDrawn (w w' : World) (r : Ending) : Prop :=
  ∃ (A1 : Option Addr) (n1 c1 : Nat) (b1 : List UInt8) (A2 : Option Addr) (n2 c2 : Nat) (b2 : List UInt8), r = .returned (.tuple #[.slice A1 n1 c1, .slice A2 n2 c2]) ∧ Sl w' w'.heap.size 1 A1 n1 c1 (u8s b1) ∧ Sl w' w'.heap.size 1 A2 n2 c2 (u8s b2) ∧ Below w.heap.size w w'
set_option maxHeartbeats 4000000 in
theorem s_DrawLessBytes (A : Option Addr) (n c : Nat) (b : List UInt8) (w : World) (h : Sl w w.heap.size 1 A n c (u8s b)) (hn : n ≤ 1048576) :
    Calls Tryz.prog 8 #[.slice A n c] w fun r w' => LbDrawn w w' r := by
  unfold LbDrawn
  go_enter Tryz.func8, Tryz.ntmps8
  go_wp2_with fail
  refine (s_l1New A n c b _ h hn).mono ?_; rintro r w1 ⟨rfl, hC, hb1⟩
  have hz1 := hb1.size
  have hg1 := hC.lt
  go_wp2_with fail
  refine (s_l1Below _ _ n c A b 4 _ hC (by decide)).mono ?_; rintro r w2 ⟨x, rfl, hx, hC2, hf2⟩
  obtain ⟨x0, x1⟩ := hx.2 (by decide)
  clear hx
  go_wp2_with fail
  refine (s_l1Bytes _ _ n c A b x _ hC2 (by omega)).mono ?_; rintro r w3 ⟨A3, k3, c3, l3, rfl, hB3, hk3, hC3, hf3⟩
  have hF3 := hf2.trans hf3
  have hg2 := hC2.lt
  have hg3 := hC3.lt
  have hCa := hC3.below (Below.one w3 (.cells #[] 5))
  have hE0 := BS.lit0 w3
  have hBa := hB3.alloc (.cells #[] 5)
  have hFa := hF3.trans (Fr.of_below (Below.one w3 (.cells #[] 5)))
  go_wp2_with (at_builtin; refine app_u8 rfl _ _ rfl hE0 rfl hBa.sl rfl (by omega) (by simp) ?_; intro A4 c4 w4 h4 hb4)
  have hne3 : ∀ k ∈ blkOf A3, w.heap.size < k := fun k hk => by have := (hB3.lt (mem_blkOf.1 hk)).1; omega
  have hlt3 : ∀ k ∈ blkOf A3, k < w3.heap.size := fun k hk => (hB3.lt (mem_blkOf.1 hk)).2
  have hB4 : BS w4 w2.heap.size A3 k3 c3 l3 := hBa.heap (fun k hk => hb4.block k (hlt3 k (mem_blkOf.2 hk)))
  have hC4 := hCa.belowB hb4 hg3
  have hF4 := hFa.onBelow (hb4.mono hF3.size)
  simp only [Nat.zero_add, List.nil_append] at h4 ⊢
  clear hE0 hBa hFa hCa hB3 hC3 hf3 hC2 hf2
  refine (s_l1Once _ _ n c A b 2 _ hC4 (by decide)).mono ?_; rintro r w5 ⟨o5, rfl, hC5, hf5⟩
  have hB5 := hB4.fr hf5 (fun k hk => by have := hne3 k hk; simp; omega)
  have h5 := h4.fr hf5 (fun k hk => by have := (h4.lt (mem_blkOf.1 hk)).1; simp; omega)
  have hF5 := hF4.trans hf5
  clear hB4 h4 hF4 hf5 hC4
  cases o5
  · go_wp2_with fail
    refine (s_l1Below _ _ n c A b 4 _ hC5 (by decide)).mono ?_; rintro r w6 ⟨y, rfl, hy, hC6, hf6⟩
    obtain ⟨y0, y1⟩ := hy.2 (by decide)
    clear hy
    go_wp2_with fail
    refine (s_l1Bytes _ _ n c A b y _ hC6 (by omega)).mono ?_; rintro r w7 ⟨A7, k7, c7, l7, rfl, hB7, hk7, hC7, hf7⟩
    have hB8 := hB5.fr (hf6.trans hf7) (fun k hk => by have := hne3 k hk; simp; omega)
    have hF7 := (hF5.trans hf6).trans hf7
    go_wp2_with fail
    exact bodyPost_ret (results_tmp2 Tryz.results8 _ _ _) rfl ⟨A3, k3, c3, l3, A7, k7, c7, l7, rfl, hB8.sl, hB7.sl, hb1.trans (hF7.up (Nat.le_refl _) hz1)⟩
  · go_wp2_with fail
    refine (s_l1Bent _ _ n c A b A4 k3 c4 l3 _ hC5 h5.sl (by omega)).mono ?_; rintro r w6 ⟨A6, k6, c6, l6, rfl, h6, hg6, hk6, hC6, hf6⟩
    have hB8 := hB5.fr hf6 (fun k hk => by have := hne3 k hk; simp; omega)
    have hF6 := hF5.trans hf6
    go_wp2_with fail
    exact bodyPost_ret (results_tmp2 Tryz.results8 _ _ _) rfl ⟨A3, k3, c3, l3, A6, k6, c6, l6, rfl, hB8.sl, h6, hb1.trans (hF6.up (Nat.le_refl _) hz1)⟩
end Go.Proofs.YtmnlkedacnemcaaGreatDoor
