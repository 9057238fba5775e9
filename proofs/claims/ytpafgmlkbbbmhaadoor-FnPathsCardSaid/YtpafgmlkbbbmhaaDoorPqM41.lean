/- Trees drawn (3): l6Val. Written by gen/markdraws.py. Trees drawn (4): l6Any. Written by gen/markdraws.py. -/
import Derived.Test.YtpafgmlkbbbmhaaDoorPqDrawTree
import Derived.Deep.RegionLaw
set_option linter.unusedVariables false
set_option maxRecDepth 100000
set_option linter.unusedSimpArgs false
namespace Go.Proofs.YtpafgmlkbbbmhaaDoor
open Go.RowKit

theorem drT_up : ∀ (d : Nat) (t : Tr), drT d t → drT (d + 1) t
  | 0, t, h => drT_leaf h 1
  | d + 1, t, h => ⟨h.1, h.2.1, h.2.2.1, h.2.2.2.1, h.2.2.2.2.1, fun x hx => drT_up d x (h.2.2.2.2.2 x hx)⟩
theorem drT_le {d e : Nat} {t : Tr} (h : drT d t) (hd : d ≤ e) : drT e t := by
  obtain ⟨k, rfl⟩ : ∃ k, e = d + k := ⟨e - d, by omega⟩
  clear hd
  induction k with
  | zero => exact h
  | succ k ih => exact drT_up _ _ ih
set_option maxHeartbeats 4000000 in
theorem s_l6Val (B g n c : Nat) (A : Option Addr) (b : List UInt8) (w : World) (h : Cur w B g A n c b) :
    Calls Tryd.prog 24 #[.pointer (some ⟨g, 0, none⟩)] w fun r w' => TreeDrawn 3 w w' B g n c A b r := by
  unfold TreeDrawn
  have hgl := h.lt
  have hgn : w.heap.size ≠ g := by omega
  have hC0 := h.below (Below.one w (.cells #[.int .i64 0, .int .i64 0, .int .i64 0, .string ⟨#[]⟩, .slice none 0 0] 26))
  have hF0 : Fr [g] w (w.alloc (.cells #[.int .i64 0, .int .i64 0, .int .i64 0, .string ⟨#[]⟩, .slice none 0 0] 26)) := Fr.of_below (Below.one _ _)
  have hB0 := Blk.new w 26 #[.int .i64 0, .int .i64 0, .int .i64 0, .string ⟨#[]⟩, .slice none 0 0]
  go_enter Tryd.func24, Tryd.ntmps24
  go_upto_region 1 with fail
  generalize (w.alloc (.cells #[.int .i64 0, .int .i64 0, .int .i64 0, .string ⟨#[]⟩, .slice none 0 0] 26)) = w0 at hC0 hF0 hB0 ⊢
  go_wp2_with fail
  refine (s_l1Below B g n c A b 4 _ hC0 (by decide)).mono ?_; rintro r w1 ⟨z1, rfl, hz1, hC1, hf1⟩
  obtain ⟨y1, v1⟩ := hz1.2 (by decide)
  clear hz1
  have hB1 := hB0.fr_' hf1 (by simpa using hgn)
  have hF1 := hF0.trans hf1
  obtain ⟨d, rfl⟩ : ∃ d : Nat, z1 = d := ⟨z1.toNat, by omega⟩
  have hz1 := hB1.lt
  go_wp2_with fail
  refine (s_l6Draw B g n c A b d (by omega) _ hC1).mono ?_; rintro r w2 ⟨t, u, rfl, hl, ho, ht, ⟨es, hr⟩, hC2, hf2⟩
  have hB2 := hB1.fr_' hf2 (by simpa using hgn)
  have hF2 := hF1.trans hf2
  have hrn : w.heap.size ∉ u.fp := fun hx => by have := (ho.2 _ hx).1; omega
  obtain ⟨x0, x1, x2, x3, x4, ⟨s0, t0⟩, ⟨s1, t1⟩, ⟨s2, t2⟩, ⟨s3, t3⟩, s4, t4⟩ := hB2.five (o := 0) (by simp) (.int .i64 t.k) (.int .i64 t.n) (.int .i64 t.x) (.string t.s)
  have hE := leaf_put hB2 hC2 hF2 (Nat.le_refl _) hgl t u
  have hT : drT 3 t := drT_le ht (by omega)
  have hL6 := hl.set5_ (o := 0) (t := t) (e2 := u) hrn
  have hR6 := (hr.frg (g := w.heap.size) (fr_put5 (t := t) (e := u)) (by omega)).mono (lo' := w.heap.size) (by omega)
  have hO6 := (ho.set5_ (o := 0) (t := t) (e := u) hrn).mono (lo2 := w.heap.size) (by omega)
  clear hl ho hr ht hB2 hC2 hF2 hB1 hC1 hF1 hB0 hC0 hF0
  go_wp2_with fail
  exact bodyPost_ret (results_blk Tryd.results24 Tryd.isAgg26 (by exact Tryd.sizeOf26) rfl hE.1) rfl ⟨t, u, rfl, hL6, hO6, hT, ⟨_, hR6⟩, hE.2.1, hE.2.2⟩
end Go.Proofs.YtpafgmlkbbbmhaaDoor

namespace Go.Proofs.YtpafgmlkbbbmhaaDoor
open Go.RowKit

theorem RV.putq {w : World} {lo n c q o : Nat} {A : Option Addr} {l : List Tr} {es : List El} {v : Value} (h : RV w lo A n c l es) (h1 : ∀ x ∈ blkOf A, x ≠ q) (h2 : ∀ x ∈ elFp es, x ≠ q) : RV (w.setCell ⟨q, o, none⟩ v) lo A n c l es :=
  h.fr (fp := [q]) ((Fr.refl _ _).setCell (by simp) _) (fun x hx => by simpa using h1 x hx) (fun x hx => by simpa using h2 x hx)
/-- A tree drawn and bent at its root. -/
def anT (t : Tr) : Prop := t.n ≤ 9223372036854775807 ∧ (-9223372036854775808 ≤ t.x ∧ t.x ≤ 9223372036854775807) ∧ t.s.size ≤ 1000 ∧ t.l.length ≤ 7 ∧ ∀ x ∈ t.l, drT 2 x
theorem anT_of {t : Tr} (h : drT 3 t) : anT t := ⟨h.1.2, h.2.1, h.2.2.1, by have := h.2.2.2.2.1; omega, h.2.2.2.2.2⟩
theorem anT_of' {t : Tr} (h : drT 3 t) : t.l.length ≤ 6 := h.2.2.2.2.1
def AnyDrawn (w w' : World) (B g n c : Nat) (A : Option Addr) (b : List UInt8) (r : Ending) : Prop :=
  ∃ (t : Tr) (e : El), r = .returned (trV t e) ∧ LsAt w' t.l e ∧ Own w' w.heap.size e.fp ∧ anT t ∧ Cur w' B g A n c b ∧ Fr [g] w w'
set_option maxHeartbeats 16000000 in
theorem s_l6Any (B g n c : Nat) (A : Option Addr) (b : List UInt8) (w : World) (h : Cur w B g A n c b) :
    Calls Tryd.prog 25 #[.pointer (some ⟨g, 0, none⟩)] w fun r w' => AnyDrawn w w' B g n c A b r := by
  unfold AnyDrawn
  have hgl := h.lt
  have hgn : w.heap.size ≠ g := by omega
  have hC0 := h.below (Below.one w (.cells #[.int .i64 0, .int .i64 0, .int .i64 0, .string ⟨#[]⟩, .slice none 0 0] 26))
  have hF0 : Fr [g] w (w.alloc (.cells #[.int .i64 0, .int .i64 0, .int .i64 0, .string ⟨#[]⟩, .slice none 0 0] 26)) := Fr.of_below (Below.one _ _)
  have hB0 := Blk.new w 26 #[.int .i64 0, .int .i64 0, .int .i64 0, .string ⟨#[]⟩, .slice none 0 0]
  go_enter Tryd.func25, Tryd.ntmps25
  go_upto_region 1 with fail
  generalize (w.alloc (.cells #[.int .i64 0, .int .i64 0, .int .i64 0, .string ⟨#[]⟩, .slice none 0 0] 26)) = w0 at hC0 hF0 hB0 ⊢
  go_wp2_with fail
  refine (s_l6Val B g n c A b _ hC0).mono ?_; rintro r wa ⟨t, u, rfl, -, -, ht, ⟨es, hr⟩, hCa, hfa⟩
  have hlg : g < w0.heap.size := hC0.lt
  have hlw : w.heap.size < w0.heap.size := hB0.lt
  have hzl0 : w0.heap.size ≤ wa.heap.size := hfa.size
  generalize w0.heap.size = lo at hr hlg hlw hzl0
  have hBa := hB0.fr_' hfa (by simpa using hgn)
  have hB1 := hBa.alloc (.cells #[.int .i64 t.k, .int .i64 t.n, .int .i64 t.x, .string t.s, .slice u.A u.n u.c] 26)
  have hC1 := hCa.below (Below.one wa (.cells #[.int .i64 t.k, .int .i64 t.n, .int .i64 t.x, .string t.s, .slice u.A u.n u.c] 26))
  have hF1 := (hF0.trans hfa).trans (Fr.of_below (Below.one wa (.cells #[.int .i64 t.k, .int .i64 t.n, .int .i64 t.x, .string t.s, .slice u.A u.n u.c] 26)))
  have hD1 := Blk.new wa 26 #[.int .i64 t.k, .int .i64 t.n, .int .i64 t.x, .string t.s, .slice u.A u.n u.c]
  have hR1 := hr.below (Below.one wa (.cells #[.int .i64 t.k, .int .i64 t.n, .int .i64 t.x, .string t.s, .slice u.A u.n u.c] 26))
  have hzl : lo ≤ (wa.alloc (.cells #[.int .i64 t.k, .int .i64 t.n, .int .i64 t.x, .string t.s, .slice u.A u.n u.c] 26)).heap.size := Nat.le_trans hzl0 (Below.one wa _).size
  have hqA : ∀ x ∈ blkOf u.A, x ≠ wa.heap.size := fun x hx => by have := (row_lt hr.row hx).2; omega
  have hqE : ∀ x ∈ elFp es, x ≠ wa.heap.size := fun x hx => by have := hr.own.lt hx; omega
  have hqg : g < wa.heap.size := hCa.lt
  have hqw : w.heap.size ≤ wa.heap.size := (hF0.trans hfa).size
  have hqn : w.heap.size ≠ wa.heap.size := by have := hBa.lt; omega
  go_upto_region 2 with fail
  generalize hqe : wa.heap.size = q at hD1 hqg hqw hqn hqA hqE ⊢
  generalize (wa.alloc (.cells #[.int .i64 t.k, .int .i64 t.n, .int .i64 t.x, .string t.s, .slice u.A u.n u.c] 26)) = w1 at hB1 hC1 hF1 hD1 hR1 hzl ⊢
  clear hqe hB0 hF0 hC0 hCa hfa hBa hr hzl0
  have hqg2 : q ≠ g := by omega
  go_wp2_with fail
  refine (s_l1Below B g n c A b 12 _ hC1 (by decide)).mono ?_; rintro r w2 ⟨z2, rfl, hz2, hC2, hf2⟩
  obtain ⟨y2, v2⟩ := hz2.2 (by decide)
  clear hz2
  have hB2 := hB1.fr_' hf2 (by simpa using hgn)
  have hF2 := hF1.trans hf2
  have hD2 := hD1.fr_' hf2 (by simpa using hqg2)
  have hR2 := hR1.frg hf2 hlg
  have hz2 := hf2.size
  clear hB1 hC1 hF1 hD1 hR1 hf2
  obtain ⟨tk, tn, tx, ts, tl⟩ := t
  obtain ⟨uA, un, uc, uf⟩ := u
  simp only at hD2 hR2 hqA
  have hln : tl.length ≤ 6 := (anT_of' ht)
  have hzlo : lo ≤ w2.heap.size := Nat.le_trans hzl hz2
  have hta := anT_of ht
  by_cases h0 : z2 = 0
  · subst h0
    go_wp2_with fail
    refine (s_l1Below B g n c A b 14 _ hC2 (by decide)).mono ?_; rintro r w3 ⟨z3, rfl, hz3, hC3, hf3⟩
    obtain ⟨y3, v3⟩ := hz3.2 (by decide)
    clear hz3
    have hB3 := hB2.fr_' hf3 (by simpa using hgn)
    have hF3 := hF2.trans hf3
    have hD3 := hD2.fr_' hf3 (by simpa using hqg2)
    have hR3 := hR2.frg hf3 hlg
    have c0 := hD3.cell 0
    have e0 := hD3.frozen 0
    go_upto_region 13 with fail
    have hB6 := hB3.far (p := ⟨q, 0, none⟩) hqn (.int .i64 (z3 - 1))
    have hD6 : Blk (w3.setCell ⟨q, 0, none⟩ (.int .i64 (z3 - 1))) q 26 #[.int .i64 (z3 - 1), .int .i64 tn, .int .i64 tx, .string ts, .slice uA un uc] := by simpa using hD3.set_ 0 (.int .i64 (z3 - 1))
    have hC6 := hC3.set_ (o := 0) hqg (.int .i64 (z3 - 1))
    have hF6 := hF3.new_ (p := ⟨q, 0, none⟩) hqw (.int .i64 (z3 - 1))
    have hR6 := hR3.putq (o := 0) (v := (.int .i64 (z3 - 1))) hqA hqE
    clear c0 e0 hB3 hD3 hC3 hF3 hR3
    generalize w3.setCell ⟨q, 0, none⟩ (.int .i64 (z3 - 1)) = w6 at hB6 hD6 hC6 hF6 hR6 ⊢
    have d0 := hD6.cell 0
    have d1 := hD6.cell 1
    have d2 := hD6.cell 2
    have d3 := hD6.cell 3
    have d4 := hD6.cell 4
    simp only [List.getElem?_toArray, List.getElem?_cons_succ, List.getElem?_cons_zero] at d0 d1 d2 d3 d4
    obtain ⟨x0, x1, x2, x3, x4, ⟨s0, t0⟩, ⟨s1, t1⟩, ⟨s2, t2⟩, ⟨s3, t3⟩, s4, t4⟩ := hB6.five (o := 0) (by simp) (.int .i64 (z3 - 1)) (.int .i64 tn) (.int .i64 tx) (.string ts)
    obtain ⟨fp, hL, hO, -⟩ := hR6.list hR6.cap.1 hR6.cap.2
    have hrn : w.heap.size ∉ fp := fun hx => by have := (hO.2 _ hx).1; omega
    have hE := leaf_put hB6 hC6 hF6 (Nat.le_refl _) hgl ⟨(z3 - 1), tn, tx, ts, tl⟩ ⟨uA, un, uc, fp⟩
    have hT : anT ⟨(z3 - 1), tn, tx, ts, tl⟩ := hta
    have hL6 := hL.set5_ (o := 0) (t := ⟨(z3 - 1), tn, tx, ts, tl⟩) (e2 := ⟨uA, un, uc, fp⟩) hrn
    have hO6 := (hO.set5_ (o := 0) (t := ⟨(z3 - 1), tn, tx, ts, tl⟩) (e := ⟨uA, un, uc, fp⟩) hrn).mono (lo2 := w.heap.size) (by omega)
    clear hL hO hR6 hD6 hB6 hC6 hF6 ht
    go_wp2_with fail
    exact bodyPost_ret (results_blk Tryd.results25 Tryd.isAgg26 (by exact Tryd.sizeOf26) rfl hE.1) rfl ⟨⟨(z3 - 1), tn, tx, ts, tl⟩, ⟨uA, un, uc, fp⟩, rfl, hL6, hO6, hT, hE.2.1, hE.2.2⟩
  by_cases h1 : z2 = 1
  · subst h1
    go_wp2_with fail
    refine (s_l1Raw B g n c A b _ hC2).mono ?_; rintro r w3 ⟨z3, rfl, hz3, hC3, hf3⟩
    have hB3 := hB2.fr_' hf3 (by simpa using hgn)
    have hF3 := hF2.trans hf3
    have hD3 := hD2.fr_' hf3 (by simpa using hqg2)
    have hR3 := hR2.frg hf3 hlg
    have c0 := hD3.cell 1
    have e0 := hD3.frozen 1
    go_upto_region 13 with fail
    have hB6 := hB3.far (p := ⟨q, 1, none⟩) hqn (.int .i64 z3)
    have hD6 : Blk (w3.setCell ⟨q, 1, none⟩ (.int .i64 z3)) q 26 #[.int .i64 tk, .int .i64 z3, .int .i64 tx, .string ts, .slice uA un uc] := by simpa using hD3.set_ 1 (.int .i64 z3)
    have hC6 := hC3.set_ (o := 1) hqg (.int .i64 z3)
    have hF6 := hF3.new_ (p := ⟨q, 1, none⟩) hqw (.int .i64 z3)
    have hR6 := hR3.putq (o := 1) (v := (.int .i64 z3)) hqA hqE
    clear c0 e0 hB3 hD3 hC3 hF3 hR3
    generalize w3.setCell ⟨q, 1, none⟩ (.int .i64 z3) = w6 at hB6 hD6 hC6 hF6 hR6 ⊢
    have d0 := hD6.cell 0
    have d1 := hD6.cell 1
    have d2 := hD6.cell 2
    have d3 := hD6.cell 3
    have d4 := hD6.cell 4
    simp only [List.getElem?_toArray, List.getElem?_cons_succ, List.getElem?_cons_zero] at d0 d1 d2 d3 d4
    obtain ⟨x0, x1, x2, x3, x4, ⟨s0, t0⟩, ⟨s1, t1⟩, ⟨s2, t2⟩, ⟨s3, t3⟩, s4, t4⟩ := hB6.five (o := 0) (by simp) (.int .i64 tk) (.int .i64 z3) (.int .i64 tx) (.string ts)
    obtain ⟨fp, hL, hO, -⟩ := hR6.list hR6.cap.1 hR6.cap.2
    have hrn : w.heap.size ∉ fp := fun hx => by have := (hO.2 _ hx).1; omega
    have hE := leaf_put hB6 hC6 hF6 (Nat.le_refl _) hgl ⟨tk, z3, tx, ts, tl⟩ ⟨uA, un, uc, fp⟩
    have hT : anT ⟨tk, z3, tx, ts, tl⟩ := ⟨hz3, hta.2⟩
    have hL6 := hL.set5_ (o := 0) (t := ⟨tk, z3, tx, ts, tl⟩) (e2 := ⟨uA, un, uc, fp⟩) hrn
    have hO6 := (hO.set5_ (o := 0) (t := ⟨tk, z3, tx, ts, tl⟩) (e := ⟨uA, un, uc, fp⟩) hrn).mono (lo2 := w.heap.size) (by omega)
    clear hL hO hR6 hD6 hB6 hC6 hF6 ht
    go_wp2_with fail
    exact bodyPost_ret (results_blk Tryd.results25 Tryd.isAgg26 (by exact Tryd.sizeOf26) rfl hE.1) rfl ⟨⟨tk, z3, tx, ts, tl⟩, ⟨uA, un, uc, fp⟩, rfl, hL6, hO6, hT, hE.2.1, hE.2.2⟩
  by_cases h2 : z2 = 2
  · subst h2
    go_wp2_with fail
    refine (s_l1Int B g n c A b (some ⟨w2.heap.size, 0, none⟩) 3 3 [1, -17, -1] _ (hC2.below (Below.one _ _)) (by exact i64s_lit _ _ [1, -17, -1] _ rfl (by exact Nat.le_of_ble_eq_true rfl)) (lit_ne hC2.lt) (by decide)).mono ?_; rintro r w3 ⟨z3, rfl, hz3, hC3, hf3⟩
    have hB3 := (hB2.alloc (.cells #[.int .i64 1, .int .i64 (-17), .int .i64 (-1)] 3)).fr_' hf3 (by simpa using hgn)
    have hF3 := (hF2.trans (Fr.of_below (Below.one w2 (.cells #[.int .i64 1, .int .i64 (-17), .int .i64 (-1)] 3)))).trans hf3
    have hm3 : -9223372036854775808 ≤ z3 ∧ z3 ≤ 9223372036854775807 := by simp only [List.mem_cons, List.not_mem_nil, or_false] at hz3; omega
    clear hz3
    have hD3 := (hD2.alloc (.cells #[.int .i64 1, .int .i64 (-17), .int .i64 (-1)] 3)).fr_' hf3 (by simpa using hqg2)
    have hR3 := (hR2.below (Below.one w2 (.cells #[.int .i64 1, .int .i64 (-17), .int .i64 (-1)] 3))).frg hf3 hlg
    have c0 := hD3.cell 2
    have e0 := hD3.frozen 2
    go_upto_region 13 with fail
    have hB6 := hB3.far (p := ⟨q, 2, none⟩) hqn (.int .i64 z3)
    have hD6 : Blk (w3.setCell ⟨q, 2, none⟩ (.int .i64 z3)) q 26 #[.int .i64 tk, .int .i64 tn, .int .i64 z3, .string ts, .slice uA un uc] := by simpa using hD3.set_ 2 (.int .i64 z3)
    have hC6 := hC3.set_ (o := 2) hqg (.int .i64 z3)
    have hF6 := hF3.new_ (p := ⟨q, 2, none⟩) hqw (.int .i64 z3)
    have hR6 := hR3.putq (o := 2) (v := (.int .i64 z3)) hqA hqE
    clear c0 e0 hB3 hD3 hC3 hF3 hR3
    generalize w3.setCell ⟨q, 2, none⟩ (.int .i64 z3) = w6 at hB6 hD6 hC6 hF6 hR6 ⊢
    have d0 := hD6.cell 0
    have d1 := hD6.cell 1
    have d2 := hD6.cell 2
    have d3 := hD6.cell 3
    have d4 := hD6.cell 4
    simp only [List.getElem?_toArray, List.getElem?_cons_succ, List.getElem?_cons_zero] at d0 d1 d2 d3 d4
    obtain ⟨x0, x1, x2, x3, x4, ⟨s0, t0⟩, ⟨s1, t1⟩, ⟨s2, t2⟩, ⟨s3, t3⟩, s4, t4⟩ := hB6.five (o := 0) (by simp) (.int .i64 tk) (.int .i64 tn) (.int .i64 z3) (.string ts)
    obtain ⟨fp, hL, hO, -⟩ := hR6.list hR6.cap.1 hR6.cap.2
    have hrn : w.heap.size ∉ fp := fun hx => by have := (hO.2 _ hx).1; omega
    have hE := leaf_put hB6 hC6 hF6 (Nat.le_refl _) hgl ⟨tk, tn, z3, ts, tl⟩ ⟨uA, un, uc, fp⟩
    have hT : anT ⟨tk, tn, z3, ts, tl⟩ := ⟨hta.1, hm3, hta.2.2⟩
    have hL6 := hL.set5_ (o := 0) (t := ⟨tk, tn, z3, ts, tl⟩) (e2 := ⟨uA, un, uc, fp⟩) hrn
    have hO6 := (hO.set5_ (o := 0) (t := ⟨tk, tn, z3, ts, tl⟩) (e := ⟨uA, un, uc, fp⟩) hrn).mono (lo2 := w.heap.size) (by omega)
    clear hL hO hR6 hD6 hB6 hC6 hF6 ht
    go_wp2_with fail
    exact bodyPost_ret (results_blk Tryd.results25 Tryd.isAgg26 (by exact Tryd.sizeOf26) rfl hE.1) rfl ⟨⟨tk, tn, z3, ts, tl⟩, ⟨uA, un, uc, fp⟩, rfl, hL6, hO6, hT, hE.2.1, hE.2.2⟩
  by_cases h3 : z2 = 3
  · subst h3
    go_wp2_with fail
    refine (s_l1Str _ _ n c A b (some ⟨w2.heap.size, 0, none⟩) 3 3 [⟨#[128]⟩, ⟨#[120]⟩, ⟨#[255]⟩] _ (hC2.below (Below.one _ _)) (by exact strs_lit _ 0 [⟨#[128]⟩, ⟨#[120]⟩, ⟨#[255]⟩] _ rfl (by exact Nat.le_of_ble_eq_true rfl)) (lit_ne hC2.lt) (by decide)).mono ?_; rintro r w3 ⟨st, rfl, hst, hC3, hf3⟩
    have hsd : st.size ≤ 1000 := by
      simp only [List.mem_cons, List.mem_nil_iff, or_false] at hst
      rcases hst with rfl | rfl | rfl <;> decide
    have hB3 := (hB2.alloc (.cells #[.string ⟨#[128]⟩, .string ⟨#[120]⟩, .string ⟨#[255]⟩] 9)).fr_' hf3 (by simpa using hgn)
    have hF3 := (hF2.trans (Fr.of_below (Below.one w2 (.cells #[.string ⟨#[128]⟩, .string ⟨#[120]⟩, .string ⟨#[255]⟩] 9)))).trans hf3
    have hD3 := (hD2.alloc (.cells #[.string ⟨#[128]⟩, .string ⟨#[120]⟩, .string ⟨#[255]⟩] 9)).fr_' hf3 (by simpa using hqg2)
    have hR3 := (hR2.below (Below.one w2 (.cells #[.string ⟨#[128]⟩, .string ⟨#[120]⟩, .string ⟨#[255]⟩] 9))).frg hf3 hlg
    have c0 := hD3.cell 3
    have e0 := hD3.frozen 3
    go_upto_region 13 with fail
    have hB6 := hB3.far (p := ⟨q, 3, none⟩) hqn (.string st)
    have hD6 : Blk (w3.setCell ⟨q, 3, none⟩ (.string st)) q 26 #[.int .i64 tk, .int .i64 tn, .int .i64 tx, .string st, .slice uA un uc] := by simpa using hD3.set_ 3 (.string st)
    have hC6 := hC3.set_ (o := 3) hqg (.string st)
    have hF6 := hF3.new_ (p := ⟨q, 3, none⟩) hqw (.string st)
    have hR6 := hR3.putq (o := 3) (v := (.string st)) hqA hqE
    clear c0 e0 hB3 hD3 hC3 hF3 hR3
    generalize w3.setCell ⟨q, 3, none⟩ (.string st) = w6 at hB6 hD6 hC6 hF6 hR6 ⊢
    have d0 := hD6.cell 0
    have d1 := hD6.cell 1
    have d2 := hD6.cell 2
    have d3 := hD6.cell 3
    have d4 := hD6.cell 4
    simp only [List.getElem?_toArray, List.getElem?_cons_succ, List.getElem?_cons_zero] at d0 d1 d2 d3 d4
    obtain ⟨x0, x1, x2, x3, x4, ⟨s0, t0⟩, ⟨s1, t1⟩, ⟨s2, t2⟩, ⟨s3, t3⟩, s4, t4⟩ := hB6.five (o := 0) (by simp) (.int .i64 tk) (.int .i64 tn) (.int .i64 tx) (.string st)
    obtain ⟨fp, hL, hO, -⟩ := hR6.list hR6.cap.1 hR6.cap.2
    have hrn : w.heap.size ∉ fp := fun hx => by have := (hO.2 _ hx).1; omega
    have hE := leaf_put hB6 hC6 hF6 (Nat.le_refl _) hgl ⟨tk, tn, tx, st, tl⟩ ⟨uA, un, uc, fp⟩
    have hT : anT ⟨tk, tn, tx, st, tl⟩ := ⟨hta.1, hta.2.1, hsd, hta.2.2.2⟩
    have hL6 := hL.set5_ (o := 0) (t := ⟨tk, tn, tx, st, tl⟩) (e2 := ⟨uA, un, uc, fp⟩) hrn
    have hO6 := (hO.set5_ (o := 0) (t := ⟨tk, tn, tx, st, tl⟩) (e := ⟨uA, un, uc, fp⟩) hrn).mono (lo2 := w.heap.size) (by omega)
    clear hL hO hR6 hD6 hB6 hC6 hF6 ht
    go_wp2_with fail
    exact bodyPost_ret (results_blk Tryd.results25 Tryd.isAgg26 (by exact Tryd.sizeOf26) rfl hE.1) rfl ⟨⟨tk, tn, tx, st, tl⟩, ⟨uA, un, uc, fp⟩, rfl, hL6, hO6, hT, hE.2.1, hE.2.2⟩
  by_cases h4 : z2 = 4
  · subst h4
    have hun : tl.length = un := hR2.len
    have hn1 : un + 1 ≤ 1099511627776 := by omega
    go_upto_region 12 with fail
    have kd := (Below.refl w2.heap.size w2).drew
    have hBd := hB2.below kd hB2.lt
    have hDd := hD2.below kd hD2.lt
    have hRd := hR2.below kd
    have hCd := hC2.below kd
    have hFd := hF2.trans (Fr.of_below kd)
    have HN := s_l6DrawZ B g n c A b w2.drew hCd
    have hlq : lo ≤ w2.heap.size := hzlo
    have p4 := hD2.cell 4
    have p4d := hDd.cell 4
    simp only [List.getElem?_toArray, List.getElem?_cons_succ, List.getElem?_cons_zero] at p4 p4d
    go_region_law (first
      | (go_simp; go_at_call 37; refine HN.mono ?_; rintro r w4 ⟨v, rfl, hv, hC4, hf4⟩; have hB4 := hBd.fr_' hf4 (by simpa using hgn); have hD4 := hDd.fr_' hf4 (by simpa using hqg2); have hR4 := hRd.frg hf4 hlg; have hF4 := hFd.trans hf4; have z4 : lo ≤ w4.heap.size := Nat.le_trans hlq (Nat.le_trans kd.size hf4.size); have hDa := hD4.alloc (.cells #[.int .i64 v.k, .int .i64 v.n, .int .i64 v.x, .string v.s, .slice none 0 0] 26); have p5 := hD4.cell 4; have p6 := hDa.cell 4; simp only [List.getElem?_toArray, List.getElem?_cons_succ, List.getElem?_cons_zero] at p5 p6)
      | (refine step_val (t := v) (u := ⟨none, 0, 0, []⟩) rfl (.tmp 34) (.tmp 37) rfl hR4 (by simp [Act.eval, Act.put]) rfl (by simp [Act.eval, Act.put]) (by rw [hv.1]; exact LsAt.nil_ _ _) (Own.nil_ _ _) (by simp) hn1 z4 ?_; intro A3 c3 w6 h6 hb6 hg6; have hD6 := hDa.fr_' hg6.fr (fun hx => hqA _ hx rfl); have hq4 := hD4.lt; have hA3 : ∀ x ∈ blkOf A3, x ≠ q := (fun x hx => by rcases hg6.own x hx with h5 | h5; exact hqA x h5; simp at h5; omega); have hE3 : ∀ x ∈ elFp (es ++ [⟨none, 0, 0, []⟩]), x ≠ q := (fun x hx => by rw [elFp_snoc] at hx; exact hqE x (by simpa using hx)); have p7 := hD6.cell 4; have f7 := hD6.frozen 4; simp only [List.getElem?_toArray, List.getElem?_cons_succ, List.getElem?_cons_zero] at p7))
    all_goals
      have hB6 := (hB4.below hb6 hlw).far (p := ⟨q, 4, none⟩) hqn (.slice A3 (un + 1) c3)
      have hD6 : Blk (w6.setCell ⟨q, 4, none⟩ (.slice A3 (un + 1) c3)) q 26 #[.int .i64 tk, .int .i64 tn, .int .i64 tx, .string ts, .slice A3 (un + 1) c3] := by simpa using hD6.set_ 4 (.slice A3 (un + 1) c3)
      have hC6 := (hC4.belowB hb6 hlg).set_ (o := 4) hqg (.slice A3 (un + 1) c3)
      have hF6 := (hF4.onBelow (hb6.mono (Nat.le_of_lt hlw))).new_ (p := ⟨q, 4, none⟩) hqw (.slice A3 (un + 1) c3)
      have hR6 := h6.putq (o := 4) (v := .slice A3 (un + 1) c3) hA3 hE3
      generalize w6.setCell ⟨q, 4, none⟩ (.slice A3 (un + 1) c3) = w7 at hB6 hD6 hC6 hF6 hR6 ⊢
      have hda : ∀ x ∈ tl ++ [v], drT 2 x := fun x hx => by
        rcases List.mem_append.1 hx with h1 | h1
        · exact hta.2.2.2.2 x h1
        · rw [List.mem_singleton] at h1; subst h1; exact drT_leaf hv 2
      clear hBd hDd hRd hCd hFd HN p4 p4d hB4 hD4 hR4 hF4 hDa p5 p6 p7 f7 hC4 hb6 hg6 h6
      have d0 := hD6.cell 0
      have d1 := hD6.cell 1
      have d2 := hD6.cell 2
      have d3 := hD6.cell 3
      have d4 := hD6.cell 4
      simp only [List.getElem?_toArray, List.getElem?_cons_succ, List.getElem?_cons_zero] at d0 d1 d2 d3 d4
      obtain ⟨x0, x1, x2, x3, x4, ⟨s0, t0⟩, ⟨s1, t1⟩, ⟨s2, t2⟩, ⟨s3, t3⟩, s4, t4⟩ := hB6.five (o := 0) (by simp) (.int .i64 tk) (.int .i64 tn) (.int .i64 tx) (.string ts)
      obtain ⟨fp, hL, hO, -⟩ := hR6.list hR6.cap.1 hR6.cap.2
      have hrn : w.heap.size ∉ fp := fun hx => by have := (hO.2 _ hx).1; omega
      have hE := leaf_put hB6 hC6 hF6 (Nat.le_refl _) hgl ⟨tk, tn, tx, ts, (tl ++ [v])⟩ ⟨A3, (un + 1), c3, fp⟩
      have hT : anT ⟨tk, tn, tx, ts, (tl ++ [v])⟩ := ⟨hta.1, hta.2.1, hta.2.2.1, by show (tl ++ [v]).length ≤ 7; simp; omega, hda⟩
      have hL6 := hL.set5_ (o := 0) (t := ⟨tk, tn, tx, ts, (tl ++ [v])⟩) (e2 := ⟨A3, (un + 1), c3, fp⟩) hrn
      have hO6 := (hO.set5_ (o := 0) (t := ⟨tk, tn, tx, ts, (tl ++ [v])⟩) (e := ⟨A3, (un + 1), c3, fp⟩) hrn).mono (lo2 := w.heap.size) (by omega)
      clear hL hO hR6 hD6 hB6 hC6 hF6 ht
      go_wp2_with fail
      exact bodyPost_ret (results_blk Tryd.results25 Tryd.isAgg26 (by exact Tryd.sizeOf26) rfl hE.1) rfl ⟨⟨tk, tn, tx, ts, (tl ++ [v])⟩, ⟨A3, (un + 1), c3, fp⟩, rfl, hL6, hO6, hT, hE.2.1, hE.2.2⟩

  have e0 : (z2 == 0) = false := by simpa using h0
  have e1 : (z2 == 1) = false := by simpa using h1
  have e2 : (z2 == 2) = false := by simpa using h2
  have e3 : (z2 == 3) = false := by simpa using h3
  have e4 : (z2 == 4) = false := by simpa using h4
  have hB6 := hB2
  have hD6 := hD2
  have hC6 := hC2
  have hF6 := hF2
  have hR6 := hR2
  clear hB2 hD2 hC2 hF2 hR2 h0 h1 h2 h3 h4
  have d0 := hD6.cell 0
  have d1 := hD6.cell 1
  have d2 := hD6.cell 2
  have d3 := hD6.cell 3
  have d4 := hD6.cell 4
  simp only [List.getElem?_toArray, List.getElem?_cons_succ, List.getElem?_cons_zero] at d0 d1 d2 d3 d4
  obtain ⟨x0, x1, x2, x3, x4, ⟨s0, t0⟩, ⟨s1, t1⟩, ⟨s2, t2⟩, ⟨s3, t3⟩, s4, t4⟩ := hB6.five (o := 0) (by simp) (.int .i64 tk) (.int .i64 tn) (.int .i64 tx) (.string ts)
  obtain ⟨fp, hL, hO, -⟩ := hR6.list hR6.cap.1 hR6.cap.2
  have hrn : w.heap.size ∉ fp := fun hx => by have := (hO.2 _ hx).1; omega
  have hE := leaf_put hB6 hC6 hF6 (Nat.le_refl _) hgl ⟨tk, tn, tx, ts, tl⟩ ⟨uA, un, uc, fp⟩
  have hT : anT ⟨tk, tn, tx, ts, tl⟩ := hta
  have hL6 := hL.set5_ (o := 0) (t := ⟨tk, tn, tx, ts, tl⟩) (e2 := ⟨uA, un, uc, fp⟩) hrn
  have hO6 := (hO.set5_ (o := 0) (t := ⟨tk, tn, tx, ts, tl⟩) (e := ⟨uA, un, uc, fp⟩) hrn).mono (lo2 := w.heap.size) (by omega)
  clear hL hO hR6 hD6 hB6 hC6 hF6 ht
  go_wp2_with fail
  exact bodyPost_ret (results_blk Tryd.results25 Tryd.isAgg26 (by exact Tryd.sizeOf26) rfl hE.1) rfl ⟨⟨tk, tn, tx, ts, tl⟩, ⟨uA, un, uc, fp⟩, rfl, hL6, hO6, hT, hE.2.1, hE.2.2⟩
end Go.Proofs.YtpafgmlkbbbmhaaDoor
