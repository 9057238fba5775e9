/- The draws of FnPaths. Written by gen/pathless.py. -/
import Derived.Test.YtpafgmlkbbbmhaaDoorPqM42
import Derived.Test.YtpafgmlkbbbmhaaDoorPqM26
import Derived.Test.YtpafgmlkbbbmhaaDoorPqAtPath3
set_option linter.unusedVariables false
set_option maxRecDepth 100000
set_option linter.unusedSimpArgs false
namespace Go.Proofs.YtpafgmlkbbbmhaaDoor
open Go.RowKit

theorem drT_sml {d : Nat} {t : Tr} (hd : d ≤ 3) (h : drT d t) : t.sz ≤ 400000 := by
  have h1 := drT_sz 3 t (drT_le h hd)
  have h2 : bdT 3 ≤ 400000 := by decide
  omega
theorem anT_sml {t : Tr} (h : anT t) : t.sz ≤ 400000 := by
  have h1 := t.sz_eq
  have h2 : t.s.size ≤ 1000 := h.2.2.1
  have h3 : t.l.length ≤ 7 := h.2.2.2.1
  have h4 : ∀ l : List Tr, (∀ x ∈ l, drT 2 x) → (l.map Tr.sz).sum ≤ l.length * bdT 2 := by
    intro l
    induction l with
    | nil => intro _; simp
    | cons a l ih =>
      intro hl
      have h5 := ih fun x hx => hl x (List.mem_cons_of_mem _ hx)
      have h6 := drT_sz 2 a (hl a List.mem_cons_self)
      simp only [List.map_cons, List.sum_cons, List.length_cons, Nat.succ_mul]
      omega
  have h5 := h4 t.l h.2.2.2.2
  have h6 : t.l.length * bdT 2 ≤ 7 * bdT 2 := Nat.mul_le_mul_right _ h3
  have h7 : bdT 2 ≤ 50000 := by decide
  unfold szL at h1
  omega
/-- A tree drawn and returned. -/
def TreeGot (w w' : World) (r : Ending) : Prop := ∃ (t : Tr) (e : El), r = .returned (trV t e) ∧ LsAt w' t.l e ∧ e.lt w'.heap.size ∧ t.sz ≤ 400000 ∧ Below w.heap.size w w'
set_option maxHeartbeats 2000000 in
theorem s_DrawVal (A : Option Addr) (n c : Nat) (b : List UInt8) (w : World) (h : Sl w w.heap.size 1 A n c (u8s b)) (hn : n ≤ 1048576) :
    Calls Tryd.prog 5 #[.slice A n c] w fun r w' => TreeGot w w' r := by
  unfold TreeGot
  have h0 : Sl (w.alloc (.cells #[.int .i64 0, .int .i64 0, .int .i64 0, .string ⟨#[]⟩, .slice none 0 0] 26)) (w.alloc (.cells #[.int .i64 0, .int .i64 0, .int .i64 0, .string ⟨#[]⟩, .slice none 0 0] 26)).heap.size 1 A n c (u8s b) := (h.alloc (Nat.le_refl _) _).more (by simp)
  have k0 := Below.one w (.cells #[.int .i64 0, .int .i64 0, .int .i64 0, .string ⟨#[]⟩, .slice none 0 0] 26)
  have hB := Blk.new w 26 #[.int .i64 0, .int .i64 0, .int .i64 0, .string ⟨#[]⟩, .slice none 0 0]
  have hz : (w.alloc (.cells #[.int .i64 0, .int .i64 0, .int .i64 0, .string ⟨#[]⟩, .slice none 0 0] 26)).heap.size = w.heap.size + 1 := by simp
  go_enter Tryd.func5, Tryd.ntmps5
  go_wp2_with fail
  refine (s_l1New A n c b _ h0 hn).mono ?_; rintro r w1 ⟨rfl, hC, hb1⟩
  rw [hz] at hC ⊢
  go_wp2_with fail
  refine (s_l6Val _ _ n c A b _ hC).mono ?_; rintro r w2 ⟨t, u, rfl, hl, ho, ht, -, hC2, hf2⟩
  have hB2 := Blk.fr_' (hB.below hb1 hB.lt) hf2 (by simp)
  obtain ⟨x0, x1, x2, x3, x4, ⟨s0, t0⟩, ⟨s1, t1⟩, ⟨s2, t2⟩, ⟨s3, t3⟩, s4, t4⟩ := hB2.five (o := 0) (by simp) (.int .i64 t.k) (.int .i64 t.n) (.int .i64 t.x) (.string t.s)
  have hE := hB2.five_ t u
  have hK := below_set5 (o := 0) (t := t) (e := u) ((k0.up hb1).trans (hf2.up (Nat.le_succ _) (k0.up hb1).size)) (Nat.le_refl w.heap.size)
  have hzz := hb1.size
  have hun : w.heap.size ∉ u.fp := fun hx => by have := (ho.2 _ hx).1; simp at hzz; omega
  have hL := hl.set5_ (o := 0) (t := t) (e2 := u) hun
  have hT : u.lt (set5 w2 w.heap.size 0 t u).heap.size := by rw [set5_size]; exact fun x hx => ho.lt hx
  have hS := drT_sml (Nat.le_refl _) ht
  clear hl ho ht hun
  go_wp2_with fail
  exact bodyPost_ret (results_blk Tryd.results5 Tryd.isAgg26 (by exact Tryd.sizeOf26) rfl hE) rfl ⟨t, u, rfl, hL, hT, hS, hK⟩
set_option maxHeartbeats 2000000 in
theorem s_DrawAllPaths (A : Option Addr) (n c : Nat) (b : List UInt8) (w : World) (h : Sl w w.heap.size 1 A n c (u8s b)) (hn : n ≤ 1048576) :
    Calls Tryd.prog 6 #[.slice A n c] w fun r w' => TreeGot w w' r := by
  unfold TreeGot
  have h0 : Sl (w.alloc (.cells #[.int .i64 0, .int .i64 0, .int .i64 0, .string ⟨#[]⟩, .slice none 0 0] 26)) (w.alloc (.cells #[.int .i64 0, .int .i64 0, .int .i64 0, .string ⟨#[]⟩, .slice none 0 0] 26)).heap.size 1 A n c (u8s b) := (h.alloc (Nat.le_refl _) _).more (by simp)
  have k0 := Below.one w (.cells #[.int .i64 0, .int .i64 0, .int .i64 0, .string ⟨#[]⟩, .slice none 0 0] 26)
  have hB := Blk.new w 26 #[.int .i64 0, .int .i64 0, .int .i64 0, .string ⟨#[]⟩, .slice none 0 0]
  have hz : (w.alloc (.cells #[.int .i64 0, .int .i64 0, .int .i64 0, .string ⟨#[]⟩, .slice none 0 0] 26)).heap.size = w.heap.size + 1 := by simp
  go_enter Tryd.func6, Tryd.ntmps6
  go_wp2_with fail
  refine (s_l1New A n c b _ h0 hn).mono ?_; rintro r w1 ⟨rfl, hC, hb1⟩
  rw [hz] at hC ⊢
  go_wp2_with fail
  refine (s_l6Any _ _ n c A b _ hC).mono ?_; rintro r w2 ⟨t, u, rfl, hl, ho, ht, hC2, hf2⟩
  have hB2 := Blk.fr_' (hB.below hb1 hB.lt) hf2 (by simp)
  obtain ⟨x0, x1, x2, x3, x4, ⟨s0, t0⟩, ⟨s1, t1⟩, ⟨s2, t2⟩, ⟨s3, t3⟩, s4, t4⟩ := hB2.five (o := 0) (by simp) (.int .i64 t.k) (.int .i64 t.n) (.int .i64 t.x) (.string t.s)
  have hE := hB2.five_ t u
  have hK := below_set5 (o := 0) (t := t) (e := u) ((k0.up hb1).trans (hf2.up (Nat.le_succ _) (k0.up hb1).size)) (Nat.le_refl w.heap.size)
  have hzz := hb1.size
  have hun : w.heap.size ∉ u.fp := fun hx => by have := (ho.2 _ hx).1; simp at hzz; omega
  have hL := hl.set5_ (o := 0) (t := t) (e2 := u) hun
  have hT : u.lt (set5 w2 w.heap.size 0 t u).heap.size := by rw [set5_size]; exact fun x hx => ho.lt hx
  have hS := anT_sml ht
  clear hl ho ht hun
  go_wp2_with fail
  exact bodyPost_ret (results_blk Tryd.results6 Tryd.isAgg26 (by exact Tryd.sizeOf26) rfl hE) rfl ⟨t, u, rfl, hL, hT, hS, hK⟩
/-- Where the result's box and the rest stand. -/
structure RetSt (w w' : World) (t2 k g q n c : Nat) (A : Option Addr) (b : List UInt8) (v : Tr) (e : El) (c2 : Array Value) : Prop where
  b2 : Blk w' t2 26 c2
  bv : Blk w' q 26 (valCells v e)
  ls : LsAt w' v.l e
  lt : e.lt w'.heap.size
  cur : Cur w' t2 g A n c b
  be : Below t2 w w'
  f1 : ∀ x ∈ e.fp, t2 + k ≤ x ∧ x ≠ g
  o0 : 1 ≤ k
  o1 : t2 + k ≤ g
  o2 : g < q
section
variable {w w' w2 : World} {t2 k g q n c : Nat} {A : Option Addr} {b : List UInt8} {v x : Tr} {e ex : El} {c2 : Array Value}
theorem RetSt.drew (h : RetSt w w' t2 k g q n c A b v e c2) : RetSt w w'.drew t2 k g q n c A b v e c2 := by
  have hb := (Below.refl w'.heap.size w').drew
  exact ⟨h.b2.drew, h.bv.drew, h.ls.below h.lt hb, h.lt.mono hb.size, h.cur.below hb, h.be.drew, h.f1, h.o0, h.o1, h.o2⟩
theorem RetSt.call (h : RetSt w w' t2 k g q n c A b v e c2) (hC : Cur w2 t2 g A n c b) (hf : Fr [g] w' w2) : RetSt w w2 t2 k g q n c A b v e c2 := by
  have h0 := h.o0
  have h1 := h.o1
  have h2 := h.o2
  exact ⟨h.b2.fr_' hf (by simp; omega), h.bv.fr_' hf (by simp; omega), h.ls.fr1 h.lt hf (fun hx => (h.f1 _ hx).2 rfl), h.lt.mono hf.size, hC, h.be.trans (fr1_below hf (by omega) (by have := h.b2.lt; omega)), h.f1, h.o0, h.o1, h.o2⟩
theorem RetSt.put2 {y0 y1 y2 y3 y4 : Value} (h : RetSt w w' t2 k g q n c A b v e #[y0, y1, y2, y3, y4]) (x : Tr) (ex : El) : RetSt w (set5 w' t2 0 x ex) t2 k g q n c A b v e (valCells x ex) := by
  have h0 := h.o0
  have h1 := h.o1
  have h2 := h.o2
  refine ⟨h.b2.five_ x ex, h.bv.far5 (by omega), h.ls.set5_ (fun hx => by have := (h.f1 _ hx).1; omega), by rw [El.lt, set5_size]; exact h.lt, ?_, below_set5 h.be (Nat.le_refl _), h.f1, h.o0, h.o1, h.o2⟩
  obtain ⟨a1, a2, a3, i, hh, a4, a5⟩ := h.cur
  exact ⟨a1, a2, ((((a3.setCell (Nat.le_refl _) _).setCell (Nat.le_refl _) _).setCell (Nat.le_refl _) _).setCell (Nat.le_refl _) _).setCell (Nat.le_refl _) _, i, hh, a4, a5.far5 (by omega)⟩
end
def AtDrawn (w w' : World) (r : Ending) : Prop := ∃ (v : Tr) (e : El) (A' : Option Addr) (m c' : Nat) (ps : Pth), r = .returned (.tuple #[trV v e, .slice A' m c']) ∧ LsAt w' v.l e ∧ e.lt w'.heap.size ∧ v.sz ≤ 400000 ∧ Sl w' w'.heap.size 2 A' m c' (stC ps) ∧ m ≤ 400001 ∧ (∀ p ∈ ps, StOk p) ∧ Below w.heap.size w w'
set_option maxHeartbeats 8000000 in
theorem s_DrawAtPath (A : Option Addr) (n c : Nat) (b : List UInt8) (w : World) (h : Sl w w.heap.size 1 A n c (u8s b)) (hn : n ≤ 1048576) :
    Calls Tryd.prog 7 #[.slice A n c] w fun r w' => AtDrawn w w' r := by
  have k0 : Below w.heap.size w (w.alloc (.cells #[.int .i64 0, .int .i64 0, .int .i64 0, .string ⟨#[]⟩, .slice none 0 0] 26)) := Below.one w _
  have hB2 : Blk (w.alloc (.cells #[.int .i64 0, .int .i64 0, .int .i64 0, .string ⟨#[]⟩, .slice none 0 0] 26)) w.heap.size 26 #[.int .i64 0, .int .i64 0, .int .i64 0, .string ⟨#[]⟩, .slice none 0 0] := Blk.new w _ _
  have h0 : Sl (w.alloc (.cells #[.int .i64 0, .int .i64 0, .int .i64 0, .string ⟨#[]⟩, .slice none 0 0] 26)) (w.alloc (.cells #[.int .i64 0, .int .i64 0, .int .i64 0, .string ⟨#[]⟩, .slice none 0 0] 26)).heap.size 1 A n c (u8s b) := (h.below k0).more k0.size
  have hz : (w.alloc (.cells #[.int .i64 0, .int .i64 0, .int .i64 0, .string ⟨#[]⟩, .slice none 0 0] 26)).heap.size = w.heap.size + 1 := by simp
  go_enter Tryd.func7, Tryd.ntmps7
  go_upto_region 1 with fail
  generalize (w.alloc (.cells #[.int .i64 0, .int .i64 0, .int .i64 0, .string ⟨#[]⟩, .slice none 0 0] 26)) = w0 at k0 hB2 h0 hz ⊢
  go_wp2_with fail
  refine (s_l1New A n c b _ h0 hn).mono ?_; rintro r w1 ⟨rfl, hC, hb1⟩
  rw [hz] at hC ⊢
  have k1 := k0.trans (hb1.mono (by omega))
  have hC1 : Cur w1 w.heap.size (w.heap.size + 1) A n c b := by
    obtain ⟨a1, a2, a3, i, hh, a4, a5⟩ := hC
    exact ⟨by omega, a2, h.below k1, i, hh, a4, a5⟩
  have hB21 := hB2.below hb1 hB2.lt
  clear hC k0 hB2 h0 hb1 hz
  generalize hg : w.heap.size + 1 = g at hC1 ⊢
  go_wp2_with fail
  refine (s_l6Val _ g n c A b _ hC1).mono ?_; rintro r w2 ⟨v, e, rfl, hl, ho, hd, -, hC2, hf2⟩
  have hvs := drT_sml (Nat.le_refl _) hd
  have hB22 := hB21.fr_' hf2 (by simp; omega)
  have hgl1 := hC1.lt
  have k2 := k1.trans (fr1_below hf2 (B := w.heap.size) (by omega) (by omega))
  have hel : e.lt w2.heap.size := fun x hx => ho.lt hx
  have hge : g ∉ e.fp := fun hx => by have := (ho.2 _ hx).1; omega
  have how : ∀ x ∈ e.fp, w.heap.size + 1 ≤ x := fun x hx => by have := (ho.2 _ hx).1; have := hgl1; omega
  have BV := Blk.new w2 26 (valCells v e)
  have kb := Below.one w2 (.cells (valCells v e) 26)
  have hzb : (w2.alloc (.cells (valCells v e) 26)).heap.size = w2.heap.size + 1 := by simp
  clear hd ho hB21 hC1 hf2 k1
  have hC2b := hC2.below kb
  have hB22b := hB22.below kb hB22.lt
  have k2b := k2.up kb
  have hlb := hl.below hel kb
  have helb := hel.mono kb.size
  have hgl2 := hC2.lt
  have HS : RetSt w (w2.alloc (.cells (valCells v e) 26)) w.heap.size 1 g w2.heap.size n c A b v e #[.int .i64 0, .int .i64 0, .int .i64 0, .string ⟨#[]⟩, .slice none 0 0] :=
    ⟨hB22b, BV, hlb, helb, hC2b, k2b, fun x hx => ⟨how x hx, fun e2 => hge (e2 ▸ hx)⟩, by omega, by omega, hgl2⟩
  clear hC2 hB22 k2 hl hel kb hC2b hB22b k2b hlb helb BV
  go_upto_region 3 with fail
  generalize (w2.alloc (.cells (valCells v e) 26)) = wb at HS hzb ⊢
  generalize w2.heap.size = q at HS hzb hgl2 ⊢
  have HA := HS.drew
  clear HS
  refine wp_region_noPanic ?_
  refine wp_region_held_drew (S := fun w' => BoxV w' q v e) (by kernel_rfl) (HA.bv.boxV) (fun hHeld => ?_)
  generalize wb.drew = wv at HA hHeld ⊢
  refine wpAnyH_take (i := 0) (oi := ?oi0x1) (v := ?vv0x1) ?hi0x1 (by kernel_rfl) (by kernel_rfl) (by kernel_rfl) ?hQ0x1 (Or.inl ⟨?hw0x1, ?hy0x1⟩) (by assumption) ?rest0x1
  case hi0x1 => (simp only [List.getElem?_toArray, List.getElem?_cons_succ, List.getElem?_cons_zero]; exact rfl)
  case hQ0x1 => exact fun _ _ _ h => h
  case hw0x1 => rfl
  case hy0x1 => ((intro w hSw; (try dsimp only at hSw); go_simp) <;> (with_reducible rfl))
  try simp only [Act.put, List.setIfInBounds_toArray, List.set_cons_zero, List.set_cons_succ]
  refine wpAnyH_take (i := 1) (oi := ?oi1x2) (v := ?vv1x2) ?hi1x2 (by kernel_rfl) (by kernel_rfl) (by kernel_rfl) ?hQ1x2 (Or.inl ⟨?hw1x2, ?hy1x2⟩) (by assumption) ?rest1x2
  case hi1x2 => (simp only [List.getElem?_toArray, List.getElem?_cons_succ, List.getElem?_cons_zero]; exact rfl)
  case hQ1x2 => exact fun _ _ _ h => h
  case hw1x2 => rfl
  case hy1x2 => ((intro w hSw; (try dsimp only at hSw); go_simp) <;> (with_reducible rfl))
  try simp only [Act.put, List.setIfInBounds_toArray, List.set_cons_zero, List.set_cons_succ]
  refine wpAnyH_take (i := 2) (oi := ?oi2x3) (v := ?vv2x3) ?hi2x3 (by kernel_rfl) (by kernel_rfl) (by kernel_rfl) ?hQ2x3 (Or.inl ⟨?hw2x3, ?hy2x3⟩) (by assumption) ?rest2x3
  case hi2x3 => (simp only [List.getElem?_toArray, List.getElem?_cons_succ, List.getElem?_cons_zero]; exact rfl)
  case hQ2x3 => exact fun _ _ _ h => h
  case hw2x3 => rfl
  case hy2x3 => ((intro w hSw; (try dsimp only at hSw); go_simp) <;> (with_reducible rfl))
  try simp only [Act.put, List.setIfInBounds_toArray, List.set_cons_zero, List.set_cons_succ]
  refine wpAnyH_ready (rs := [3]) (by kernel_rfl) (by simp) ?_
  refine AllReadyH.cons (o := ?o3y6) ?ho3y6 (fun KK hKK => ?st3y6) (AllReadyH.nil)
  case ho3y6 => (simp only [List.getElem?_toArray, List.getElem?_cons_succ, List.getElem?_cons_zero]; exact rfl)
  rw [if_pos (by rfl)]
  go_simp
  go_at_call 26
  refine (s_l8Path _ g n c A b _ HA.cur v e HA.ls HA.lt hge (by omega)).mono ?_; rintro r w4 ⟨A3, m3, c3, ps, rfl, hS3, hm3, hps, hC4, hf4⟩
  have hzv : w.heap.size < wv.heap.size := HA.b2.lt
  have hSw : ∀ x ∈ blkOf A3, x ∉ [w.heap.size] := fun x hx => by have := (hS3.lt hx).1; simp; omega
  have HB := HA.call hC4 hf4
  clear hC4 hf4 HA
  refine hKK.out _ _ HB.bv.boxV (fun _ => ?_)
  clear hKK KK
  try simp only [Act.put, List.setIfInBounds_toArray, List.set_cons_zero, List.set_cons_succ]
  refine wpAnyH_ready (rs := [4]) (by kernel_rfl) (by simp) ?_
  refine AllReadyH.cons (o := ?o4y5) ?ho4y5 (fun KK hKK => ?st4y5) (AllReadyH.nil)
  case ho4y5 => (simp only [List.getElem?_toArray, List.getElem?_cons_succ, List.getElem?_cons_zero]; exact rfl)
  obtain ⟨x0, x1, x2, x3, x4, ⟨s0, t0⟩, ⟨s1, t1⟩, ⟨s2, t2⟩, ⟨s3, t3⟩, s4, t4⟩ := HB.b2.five (o := 0) (by simp) (.int .i64 v.k) (.int .i64 v.n) (.int .i64 v.x) (.string v.s)
  rw [if_pos (by rfl)]
  go_simp
  have HF := HB.put2 v e
  have hS4 := hS3.fr (fp := [w.heap.size]) (fr_put5 (w := w4) (t := v) (e := e)) hSw
  unfold set5 at HF hS4
  refine hKK.out _ _ HF.bv.boxV (fun _ => ?_)
  clear hKK KK
  try simp only [Act.put, List.setIfInBounds_toArray, List.set_cons_zero, List.set_cons_succ]
  clear x0 x1 x2 x3 x4 s0 t0 s1 t1 s2 t2 s3 t3 s4 t4
  clear HB hS3
  refine wpAnyH_take (i := 5) (oi := ?oi5x4) (v := ?vv5x4) ?hi5x4 (by kernel_rfl) (by kernel_rfl) (by kernel_rfl) ?hQ5x4 (Or.inl ⟨?hw5x4, ?hy5x4⟩) (by assumption) ?rest5x4
  case hi5x4 => (simp only [List.getElem?_toArray, List.getElem?_cons_succ, List.getElem?_cons_zero]; exact rfl)
  case hQ5x4 => exact fun _ _ _ h => h
  case hw5x4 => rfl
  case hy5x4 => ((intro w hSw; (try dsimp only at hSw); go_simp) <;> (with_reducible rfl))
  try simp only [Act.put, List.setIfInBounds_toArray, List.set_cons_zero, List.set_cons_succ]
  refine wpAnyH_done (by kernel_rfl) ?_ _
  refine NoPanic.normal ?_
  go_wp2_with fail
  exact bodyPost_ret (results_blk2 Tryd.results7 Tryd.isAgg26 (by exact Tryd.sizeOf26) (by rfl) HF.b2) rfl (by unfold AtDrawn; exact ⟨v, e, A3, m3, c3, ps, rfl, HF.ls, HF.lt, hvs, hS4.sl, by omega, hps, HF.be⟩)
theorem results_two {P : Program} {fn : Func} {p q : Tmp} {ty ty2 : TypeId} {tmps : Array Value} {w : World} {g g2 : Nat} {t t2 : TypeId} {cs cs2 : Array Value} (h : fn.results = #[.cell p ty, .cell q ty2])
    (ha : ∀ w, (isAgg ty).run P w = .ok true w) (hs : ∀ w, (sizeOf ty).run P w = .ok cs.size w) (ha2 : ∀ w, (isAgg ty2).run P w = .ok true w) (hs2 : ∀ w, (sizeOf ty2).run P w = .ok cs2.size w) (hp : tmps.getD p undef = .pointer (some ⟨g, 0, none⟩)) (hq : tmps.getD q undef = .pointer (some ⟨g2, 0, none⟩)) (hb : Blk w g t cs) (hb2 : Blk w g2 t2 cs2) :
    (results fn tmps).run P w = .ok (.tuple #[.agg cs, .agg cs2]) w := by
  have hl := run_loadVar_blk ha hs hb
  have hl2 := run_loadVar_blk ha2 hs2 hb2
  have hp2 : tmps[p]?.getD undef = .pointer (some ⟨g, 0, none⟩) := by simpa using hp
  have hq2 : tmps[q]?.getD undef = .pointer (some ⟨g2, 0, none⟩) := by simpa using hq
  simp [results, h, hp2, hq2, asAddr, Sem.run_bind, hl, hl2, Result.andThen]
def SvDrawn (w w' : World) (r : Ending) : Prop := ∃ (v : Tr) (e : El) (p : Int × Bool), r = .returned (.tuple #[trV v e, .agg #[.int .i64 p.1, .bool p.2]]) ∧ LsAt w' v.l e ∧ e.lt w'.heap.size ∧ v.sz ≤ 400000 ∧ StOk p ∧ Below w.heap.size w w'
set_option maxHeartbeats 8000000 in
theorem s_DrawStepVal (A : Option Addr) (n c : Nat) (b : List UInt8) (w : World) (h : Sl w w.heap.size 1 A n c (u8s b)) (hn : n ≤ 1048576) :
    Calls Tryd.prog 10 #[.slice A n c] w fun r w' => SvDrawn w w' r := by
  have k0 : Below w.heap.size w ((w.alloc (.cells #[.int .i64 0, .int .i64 0, .int .i64 0, .string ⟨#[]⟩, .slice none 0 0] 26)).alloc (.cells #[.int .i64 0, .bool false] 34)) := Below.two w _ _
  have hB2 : Blk ((w.alloc (.cells #[.int .i64 0, .int .i64 0, .int .i64 0, .string ⟨#[]⟩, .slice none 0 0] 26)).alloc (.cells #[.int .i64 0, .bool false] 34)) w.heap.size 26 #[.int .i64 0, .int .i64 0, .int .i64 0, .string ⟨#[]⟩, .slice none 0 0] := (Blk.new w _ _).alloc _
  have hB3 : Blk ((w.alloc (.cells #[.int .i64 0, .int .i64 0, .int .i64 0, .string ⟨#[]⟩, .slice none 0 0] 26)).alloc (.cells #[.int .i64 0, .bool false] 34)) (w.heap.size + 1) 34 #[.int .i64 0, .bool false] := by
    simpa using Blk.new (w.alloc (.cells #[.int .i64 0, .int .i64 0, .int .i64 0, .string ⟨#[]⟩, .slice none 0 0] 26)) 34 #[.int .i64 0, .bool false]
  have h0 : Sl ((w.alloc (.cells #[.int .i64 0, .int .i64 0, .int .i64 0, .string ⟨#[]⟩, .slice none 0 0] 26)).alloc (.cells #[.int .i64 0, .bool false] 34)) ((w.alloc (.cells #[.int .i64 0, .int .i64 0, .int .i64 0, .string ⟨#[]⟩, .slice none 0 0] 26)).alloc (.cells #[.int .i64 0, .bool false] 34)).heap.size 1 A n c (u8s b) := (h.below k0).more k0.size
  have hz : ((w.alloc (.cells #[.int .i64 0, .int .i64 0, .int .i64 0, .string ⟨#[]⟩, .slice none 0 0] 26)).alloc (.cells #[.int .i64 0, .bool false] 34)).heap.size = w.heap.size + 2 := by simp
  go_enter Tryd.func10, Tryd.ntmps10
  go_upto_region 1 with fail
  generalize ((w.alloc (.cells #[.int .i64 0, .int .i64 0, .int .i64 0, .string ⟨#[]⟩, .slice none 0 0] 26)).alloc (.cells #[.int .i64 0, .bool false] 34)) = w0 at k0 hB2 hB3 h0 hz ⊢
  go_wp2_with fail
  refine (s_l1New A n c b _ h0 hn).mono ?_; rintro r w1 ⟨rfl, hC, hb1⟩
  rw [hz] at hC ⊢
  have k1 := k0.trans (hb1.mono (by omega))
  have hC1 : Cur w1 w.heap.size (w.heap.size + 2) A n c b := by
    obtain ⟨a1, a2, a3, i, hh, a4, a5⟩ := hC
    exact ⟨by omega, a2, h.below k1, i, hh, a4, a5⟩
  have hB21 := hB2.below hb1 hB2.lt
  have hB31 := hB3.below hb1 hB3.lt
  clear hB3
  clear hC k0 hB2 h0 hb1 hz
  generalize hg : w.heap.size + 2 = g at hC1 ⊢
  go_wp2_with fail
  refine (s_l6Any _ g n c A b _ hC1).mono ?_; rintro r w2 ⟨v, e, rfl, hl, ho, hd, hC2, hf2⟩
  have hvs := anT_sml hd
  have hB22 := hB21.fr_' hf2 (by simp; omega)
  have hB32 := hB31.fr_' hf2 (by simp; omega)
  clear hB31
  have hgl1 := hC1.lt
  have k2 := k1.trans (fr1_below hf2 (B := w.heap.size) (by omega) (by omega))
  have hel : e.lt w2.heap.size := fun x hx => ho.lt hx
  have hge : g ∉ e.fp := fun hx => by have := (ho.2 _ hx).1; omega
  have how : ∀ x ∈ e.fp, w.heap.size + 2 ≤ x := fun x hx => by have := (ho.2 _ hx).1; have := hgl1; omega
  have BV := Blk.new w2 26 (valCells v e)
  have kb := Below.one w2 (.cells (valCells v e) 26)
  have hzb : (w2.alloc (.cells (valCells v e) 26)).heap.size = w2.heap.size + 1 := by simp
  clear hd ho hB21 hC1 hf2 k1
  have hC2b := hC2.below kb
  have hB22b := hB22.below kb hB22.lt
  have hB32b := hB32.below kb hB32.lt
  clear hB32
  have k2b := k2.up kb
  have hlb := hl.below hel kb
  have helb := hel.mono kb.size
  have hgl2 := hC2.lt
  have HS : RetSt w (w2.alloc (.cells (valCells v e) 26)) w.heap.size 2 g w2.heap.size n c A b v e #[.int .i64 0, .int .i64 0, .int .i64 0, .string ⟨#[]⟩, .slice none 0 0] :=
    ⟨hB22b, BV, hlb, helb, hC2b, k2b, fun x hx => ⟨how x hx, fun e2 => hge (e2 ▸ hx)⟩, by omega, by omega, hgl2⟩
  clear hC2 hB22 k2 hl hel kb hC2b hB22b k2b hlb helb BV
  go_upto_region 3 with fail
  generalize (w2.alloc (.cells (valCells v e) 26)) = wb at HS hzb hB32b ⊢
  generalize w2.heap.size = q at HS hzb hgl2 ⊢
  have HA := HS.drew
  have H3 := hB32b.drew
  clear HS hB32b
  refine wp_region_noPanic ?_
  refine wp_region_held_drew (S := fun w' => BoxV w' q v e) (by kernel_rfl) (HA.bv.boxV) (fun hHeld => ?_)
  generalize wb.drew = wv at HA H3 hHeld ⊢
  refine wpAnyH_take (i := 0) (oi := ?oi0x7) (v := ?vv0x7) ?hi0x7 (by kernel_rfl) (by kernel_rfl) (by kernel_rfl) ?hQ0x7 (Or.inl ⟨?hw0x7, ?hy0x7⟩) (by assumption) ?rest0x7
  case hi0x7 => (simp only [List.getElem?_toArray, List.getElem?_cons_succ, List.getElem?_cons_zero]; exact rfl)
  case hQ0x7 => exact fun _ _ _ h => h
  case hw0x7 => rfl
  case hy0x7 => ((intro w hSw; (try dsimp only at hSw); go_simp) <;> (with_reducible rfl))
  try simp only [Act.put, List.setIfInBounds_toArray, List.set_cons_zero, List.set_cons_succ]
  refine wpAnyH_take (i := 1) (oi := ?oi1x8) (v := ?vv1x8) ?hi1x8 (by kernel_rfl) (by kernel_rfl) (by kernel_rfl) ?hQ1x8 (Or.inl ⟨?hw1x8, ?hy1x8⟩) (by assumption) ?rest1x8
  case hi1x8 => (simp only [List.getElem?_toArray, List.getElem?_cons_succ, List.getElem?_cons_zero]; exact rfl)
  case hQ1x8 => exact fun _ _ _ h => h
  case hw1x8 => rfl
  case hy1x8 => ((intro w hSw; (try dsimp only at hSw); go_simp) <;> (with_reducible rfl))
  try simp only [Act.put, List.setIfInBounds_toArray, List.set_cons_zero, List.set_cons_succ]
  refine wpAnyH_ready (rs := [2]) (by kernel_rfl) (by simp) ?_
  refine AllReadyH.cons (o := ?o2y11) ?ho2y11 (fun KK hKK => ?st2y11) (AllReadyH.nil)
  case ho2y11 => (simp only [List.getElem?_toArray, List.getElem?_cons_succ, List.getElem?_cons_zero]; exact rfl)
  rw [if_pos (by rfl)]
  go_simp
  go_at_call 30
  refine (s_l8Step _ g n c A b _ HA.cur).mono ?_; rintro r w4 ⟨p, rfl, hp, hC4, hf4⟩
  have HB := HA.call hC4 hf4
  replace H3 := H3.fr_' hf4 (by simp; omega)
  clear hC4 hf4 HA
  refine hKK.out _ _ HB.bv.boxV (fun _ => ?_)
  clear hKK KK
  try simp only [Act.put, List.setIfInBounds_toArray, List.set_cons_zero, List.set_cons_succ]
  refine wpAnyH_ready (rs := [3]) (by kernel_rfl) (by simp) ?_
  refine AllReadyH.cons (o := ?o3y10) ?ho3y10 (fun KK hKK => ?st3y10) (AllReadyH.nil)
  case ho3y10 => (simp only [List.getElem?_toArray, List.getElem?_cons_succ, List.getElem?_cons_zero]; exact rfl)
  obtain ⟨x0, x1, x2, x3, x4, ⟨s0, t0⟩, ⟨s1, t1⟩, ⟨s2, t2⟩, ⟨s3, t3⟩, s4, t4⟩ := HB.b2.five (o := 0) (by simp) (.int .i64 v.k) (.int .i64 v.n) (.int .i64 v.x) (.string v.s)
  rw [if_pos (by rfl)]
  go_simp
  have HF := HB.put2 v e
  replace H3 := H3.far5 (g := w.heap.size) (o := 0) (t := v) (e := e) (by omega)
  unfold set5 at HF H3
  refine hKK.out _ _ HF.bv.boxV (fun _ => ?_)
  clear hKK KK
  try simp only [Act.put, List.setIfInBounds_toArray, List.set_cons_zero, List.set_cons_succ]
  clear x0 x1 x2 x3 x4 s0 t0 s1 t1 s2 t2 s3 t3 s4 t4
  clear HB
  have r0 := H3.cell 0
  have r1 := H3.cell 1
  have e0 := H3.frozen 0
  have e1 := H3.frozen 1
  refine wpAnyH_ready (rs := [4]) (by kernel_rfl) (by simp) ?_
  refine AllReadyH.cons (o := ?o4y9) ?ho4y9 (fun KK hKK => ?st4y9) (AllReadyH.nil)
  case ho4y9 => (simp only [List.getElem?_toArray, List.getElem?_cons_succ, List.getElem?_cons_zero]; exact rfl)
  rw [if_pos (by rfl)]
  go_simp
  have H4 := H3.two (.int .i64 p.1) (.bool p.2)
  have hne : w.heap.size ≠ w.heap.size + 1 := by omega
  have HB2 := (HF.b2.far (p := ⟨w.heap.size + 1, 0, none⟩) hne (.int .i64 p.1)).far (p := ⟨w.heap.size + 1, 1, none⟩) hne (.bool p.2)
  have hq1 := HF.o1
  have hq2 := HF.o2
  have HV2 := (HF.bv.far (p := ⟨w.heap.size + 1, 0, none⟩) (by show q ≠ w.heap.size + 1; omega) (.int .i64 p.1)).far (p := ⟨w.heap.size + 1, 1, none⟩) (by show q ≠ w.heap.size + 1; omega) (.bool p.2)
  have HL2 := (HF.ls.far (p := ⟨w.heap.size + 1, 0, none⟩) (fun hx => by have := (show w.heap.size + 2 ≤ w.heap.size + 1 from (HF.f1 _ hx).1); omega) (.int .i64 p.1)).far (p := ⟨w.heap.size + 1, 1, none⟩) (fun hx => by have := (show w.heap.size + 2 ≤ w.heap.size + 1 from (HF.f1 _ hx).1); omega) (.bool p.2)
  have HK2 := (HF.be.setCell (p := ⟨w.heap.size + 1, 0, none⟩) (Nat.le_succ _) (.int .i64 p.1)).setCell (p := ⟨w.heap.size + 1, 1, none⟩) (Nat.le_succ _) (.bool p.2)
  have HT2 := HF.lt
  refine hKK.out _ _ HV2.boxV (fun _ => ?_)
  clear hKK KK
  try simp only [Act.put, List.setIfInBounds_toArray, List.set_cons_zero, List.set_cons_succ]
  refine wpAnyH_done (by kernel_rfl) ?_ _
  refine NoPanic.normal ?_
  go_wp2_with fail
  exact bodyPost_ret (results_two Tryd.results10 Tryd.isAgg26 (by exact Tryd.sizeOf26) Tryd.isAgg34 (by exact Tryd.sizeOf34) (by rfl) (by rfl) HB2 H4) rfl (by unfold SvDrawn; exact ⟨v, e, p, rfl, HL2, by simpa [El.lt, size_setCell] using HT2, hvs, hp, HK2⟩)
def LpDrawn (w w' : World) (r : Ending) : Prop := ∃ (A1 : Option Addr) (n1 c1 : Nat) (a : Pth) (A2 : Option Addr) (n2 c2 : Nat) (b : Pth), r = .returned (.tuple #[.slice A1 n1 c1, .slice A2 n2 c2]) ∧ Sl w' w'.heap.size 2 A1 n1 c1 (stC a) ∧ Sl w' w'.heap.size 2 A2 n2 c2 (stC b) ∧ Below w.heap.size w w'
set_option maxHeartbeats 8000000 in
theorem s_DrawLessPath (A : Option Addr) (n c : Nat) (b : List UInt8) (w : World) (h : Sl w w.heap.size 1 A n c (u8s b)) (hn : n ≤ 1048576) :
    Calls Tryd.prog 13 #[.slice A n c] w fun r w' => LpDrawn w w' r := by
  go_enter Tryd.func13, Tryd.ntmps13
  go_wp2_with fail
  refine (s_l1New A n c b _ h hn).mono ?_; rintro r w1 ⟨rfl, hC1, hb1⟩
  generalize hg : w.heap.size = g at hC1 hb1 ⊢
  go_wp2_with fail
  refine (s_l6Val _ g n c A b _ hC1).mono ?_; rintro r w2 ⟨v, e, rfl, hl, ho, hd, -, hC2, hf2⟩
  have hvs := drT_sml (Nat.le_refl _) hd
  have hgl1 := hC1.lt
  have k2 := hb1.trans (fr1_below hf2 (B := g) (Nat.le_refl _) (by omega))
  have hel : e.lt w2.heap.size := fun x hx => ho.lt hx
  have hge : g ∉ e.fp := fun hx => by have := (ho.2 _ hx).1; omega
  have BV := Blk.new w2 26 (valCells v e)
  have kb := Below.one w2 (.cells (valCells v e) 26)
  have hC2b := hC2.below kb
  have k2b := k2.trans (kb.mono (by have := hC2.lt; omega))
  have hlb := hl.below hel kb
  have helb := hel.mono kb.size
  have hgl2 := hC2.lt
  clear hC2 k2 hl hel kb hf2 hC1 hd ho
  go_upto_region 3 with fail
  generalize (w2.alloc (.cells (valCells v e) 26)) = wb at hC2b k2b hlb helb BV ⊢
  generalize w2.heap.size = q at BV hgl2 ⊢
  obtain ⟨p0, p1, p2, p3, p4⟩ := BV.boxV
  go_wp2_with fail
  refine (s_l8Path _ g n c A b _ hC2b v e hlb helb hge (by omega)).mono ?_; rintro r w3 ⟨A3, m3, c3, ps, rfl, hS3, hm3, hps, hC3, hf3⟩
  have BV3 := BV.fr_' hf3 (by simp; omega)
  have hl3 := hlb.fr1 helb hf3 hge
  have hel3 := helb.mono hf3.size
  have hgb := hC2b.lt
  have k3 := k2b.trans (fr1_below hf3 (B := g) (Nat.le_refl _) (by have := k2b.size; omega))
  have hSg : ∀ x ∈ blkOf A3, x ∉ [g] := fun x hx => by have := (hS3.lt hx).1; simp; omega
  clear p0 p1 p2 p3 p4 BV hlb helb hC2b k2b hf3
  obtain ⟨p0, p1, p2, p3, p4⟩ := BV3.boxV
  go_wp2_with fail
  refine (s_l8Path _ g n c A b _ hC3 v e hl3 hel3 hge (by omega)).mono ?_; rintro r w4 ⟨A4, m4, c4, ps4, rfl, hS4, hm4, hps4, hC4, hf4⟩
  have hS3b := hS3.fr hf4 hSg
  have k4 := k3.trans (fr1_below hf4 (B := g) (Nat.le_refl _) (by have := k3.size; omega))
  clear p0 p1 p2 p3 p4
  go_wp2_with fail
  exact bodyPost_ret (results_tmp2 Tryd.results13 _ _ _) rfl (by unfold LpDrawn; exact ⟨_, _, _, _, _, _, _, _, rfl, hS3b.sl, hS4.sl, by rw [hg]; exact k4⟩)
theorem i_StepVal (t : Tr) (e : El) (p : Int × Bool) (w : World) (hl : LsAt w t.l e) (hel : e.lt w.heap.size) (hm : t.sz ≤ 1099511627776) :
    Calls Tryd.prog 11 #[trV t e, .agg #[.int .i64 p.1, .bool p.2]] w fun r w' => AtOf w w' r (stepT t p) := by
  have hat : atPath t [p] = stepT t p := by simp only [atPath]; cases stepT t p <;> rfl
  obtain ⟨O, hO⟩ : ∃ O, stepT t p = O := ⟨_, rfl⟩
  rw [hO] at hat ⊢
  have k0 : Below w.heap.size w (((w.alloc (.cells (valCells t e) 26)).alloc (.cells #[.int .i64 p.1, .bool p.2] 34)).alloc (.cells #[.int .i64 0, .int .i64 0, .int .i64 0, .string ⟨#[]⟩, .slice none 0 0] 26)) := ((Below.one _ _).up (Below.one _ _)).up (Below.one _ _)
  have BX : Blk (((w.alloc (.cells (valCells t e) 26)).alloc (.cells #[.int .i64 p.1, .bool p.2] 34)).alloc (.cells #[.int .i64 0, .int .i64 0, .int .i64 0, .string ⟨#[]⟩, .slice none 0 0] 26)) w.heap.size 26 (valCells t e) := ((Blk.new w _ _).alloc _).alloc _
  have BQ : Blk (((w.alloc (.cells (valCells t e) 26)).alloc (.cells #[.int .i64 p.1, .bool p.2] 34)).alloc (.cells #[.int .i64 0, .int .i64 0, .int .i64 0, .string ⟨#[]⟩, .slice none 0 0] 26)) (w.heap.size + 1) 34 #[.int .i64 p.1, .bool p.2] := by
    have := (Blk.new (w.alloc (.cells (valCells t e) 26)) 34 #[.int .i64 p.1, .bool p.2]).alloc (.cells #[.int .i64 0, .int .i64 0, .int .i64 0, .string ⟨#[]⟩, .slice none 0 0] 26)
    simpa using this
  have BZ : Blk (((w.alloc (.cells (valCells t e) 26)).alloc (.cells #[.int .i64 p.1, .bool p.2] 34)).alloc (.cells #[.int .i64 0, .int .i64 0, .int .i64 0, .string ⟨#[]⟩, .slice none 0 0] 26)) (w.heap.size + 2) 26 #[.int .i64 0, .int .i64 0, .int .i64 0, .string ⟨#[]⟩, .slice none 0 0] := by
    have := Blk.new ((w.alloc (.cells (valCells t e) 26)).alloc (.cells #[.int .i64 p.1, .bool p.2] 34)) 26 #[.int .i64 0, .int .i64 0, .int .i64 0, .string ⟨#[]⟩, .slice none 0 0]
    simpa using this
  go_enter Tryd.func11, Tryd.ntmps11
  go_upto_region 1 with fail
  generalize (((w.alloc (.cells (valCells t e) 26)).alloc (.cells #[.int .i64 p.1, .bool p.2] 34)).alloc (.cells #[.int .i64 0, .int .i64 0, .int .i64 0, .string ⟨#[]⟩, .slice none 0 0] 26)) = w3 at k0 BX BQ BZ ⊢
  have kl := Below.one w3 (.cells #[.int .i64 p.1, .bool p.2] 34)
  have hAt := i_AtPath t e (some ⟨w3.heap.size, 0, none⟩) 1 1 [p] (w3.alloc (.cells #[.int .i64 p.1, .bool p.2] 34)) (hl.below hel (k0.up kl)) (hel.mono (k0.up kl).size) hm ((lit_step w3 p).more (by simp))
  rw [hat] at hAt
  obtain ⟨p0, p1, p2, p3, p4⟩ := BX.boxV
  have s0 := BQ.cell 0
  have s1 := BQ.cell 1
  have BZ4 := BZ.below kl BZ.lt
  have hz := BZ.lt
  clear hat hO
  go_wp2_with fail
  refine hAt.mono ?_; rintro r w5 ⟨u, rfl, hu1, hu2, hb5⟩
  have BZ5 := BZ4.below hb5 BZ4.lt
  have hun : w.heap.size + 2 ∉ u.fp := fun hx => by have := (hu2.2 _ hx).1; have := BZ4.lt; omega
  obtain ⟨x0, x1, x2, x3, x4, ⟨e0, t0⟩, ⟨e1, t1⟩, ⟨e2, t2⟩, ⟨e3, t3⟩, e4, t4⟩ := BZ5.five (o := 0) (by simp) (.int .i64 (O.getD zT).k) (.int .i64 (O.getD zT).n) (.int .i64 (O.getD zT).x) (.string (O.getD zT).s)
  clear p0 p1 p2 p3 p4 s0 s1
  have hK := below_set5 (g := w.heap.size + 2) (o := 0) (t := O.getD zT) (e := u) ((k0.up kl).up hb5) (by omega)
  have hkz := (k0.up kl).size
  go_wp2_with fail
  exact bodyPost_ret (results_blk2 Tryd.results11 Tryd.isAgg26 (by exact Tryd.sizeOf26) (by rfl) (BZ5.five_ (O.getD zT) u)) rfl (by unfold AtOf; exact ⟨u, rfl, hu1.set5_ hun, (hu2.set5_ hun).mono hkz, hK⟩)
end Go.Proofs.YtpafgmlkbbbmhaaDoor
