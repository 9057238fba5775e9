/- Trees drawn (3): l6Val. Written by gen/markdraws.py. Trees drawn (4): l6Any. Written by gen/markdraws.py. -/
import Derived.Test.YtpafgmlkbbbmhaaMuDrawTree
import Derived.Deep.RegionLaw
set_option linter.unusedVariables false
set_option maxRecDepth 100000
set_option linter.unusedSimpArgs false
namespace Go.Proofs.Ytpafgmlkbbbmhaa
open Go.RowKit

theorem drT_up : ∀ (d : Nat) (t : Tr), drT d t → drT (d + 1) t
  | 0, t, h => drT_leaf h 1
  | d + 1, t, h => ⟨h.1, h.2.1, h.2.2.1, h.2.2.2.1, h.2.2.2.2.1, fun x hx => drT_up d x (h.2.2.2.2.2 x hx)⟩
theorem drT_le {d e : Nat} {t : Tr} (h : drT d t) (hd : d ≤ e) : drT e t := by
  obtain ⟨k, rfl⟩ : ∃ k, e = d + k := ⟨e - d, by omega⟩
  clear hd
  induction k with
  | zero => exact h
  | succ k ih => exact drT_up _ _ ih
set_option maxHeartbeats 4000000 in
theorem s_l6Val (B g n c : Nat) (A : Option Addr) (b : List UInt8) (w : World) (h : Cur w B g A n c b) :
    Calls Try.prog 12 #[.pointer (some ⟨g, 0, none⟩)] w fun r w' => TreeDrawn 3 w w' B g n c A b r := by
  unfold TreeDrawn
  have hgl := h.lt
  have hgn : w.heap.size ≠ g := by omega
  have hC0 := h.below (Below.one w (.cells #[.int .i64 0, .int .i64 0, .int .i64 0, .string ⟨#[]⟩, .slice none 0 0] 26))
  have hF0 : Fr [g] w (w.alloc (.cells #[.int .i64 0, .int .i64 0, .int .i64 0, .string ⟨#[]⟩, .slice none 0 0] 26)) := Fr.of_below (Below.one _ _)
  have hB0 := Blk.new w 26 #[.int .i64 0, .int .i64 0, .int .i64 0, .string ⟨#[]⟩, .slice none 0 0]
  go_enter Try.func12, Try.ntmps12
  go_upto_region 1 with fail
  generalize (w.alloc (.cells #[.int .i64 0, .int .i64 0, .int .i64 0, .string ⟨#[]⟩, .slice none 0 0] 26)) = w0 at hC0 hF0 hB0 ⊢
  go_wp2_with fail
  refine (s_l1Below B g n c A b 4 _ hC0 (by decide)).mono ?_; rintro r w1 ⟨z1, rfl, hz1, hC1, hf1⟩
  obtain ⟨y1, v1⟩ := hz1.2 (by decide)
  clear hz1
  have hB1 := hB0.fr_' hf1 (by simpa using hgn)
  have hF1 := hF0.trans hf1
  obtain ⟨d, rfl⟩ : ∃ d : Nat, z1 = d := ⟨z1.toNat, by omega⟩
  have hz1 := hB1.lt
  go_wp2_with fail
  refine (s_l6Draw B g n c A b d (by omega) _ hC1).mono ?_; rintro r w2 ⟨t, u, rfl, hl, ho, ht, ⟨es, hr⟩, hC2, hf2⟩
  have hB2 := hB1.fr_' hf2 (by simpa using hgn)
  have hF2 := hF1.trans hf2
  have hrn : w.heap.size ∉ u.fp := fun hx => by have := (ho.2 _ hx).1; omega
  obtain ⟨x0, x1, x2, x3, x4, ⟨s0, t0⟩, ⟨s1, t1⟩, ⟨s2, t2⟩, ⟨s3, t3⟩, s4, t4⟩ := hB2.five (o := 0) (by simp) (.int .i64 t.k) (.int .i64 t.n) (.int .i64 t.x) (.string t.s)
  have hE := leaf_put hB2 hC2 hF2 (Nat.le_refl _) hgl t u
  have hT : drT 3 t := drT_le ht (by omega)
  have hL6 := hl.set5_ (o := 0) (t := t) (e2 := u) hrn
  have hR6 := (hr.frg (g := w.heap.size) (fr_put5 (t := t) (e := u)) (by omega)).mono (lo' := w.heap.size) (by omega)
  have hO6 := (ho.set5_ (o := 0) (t := t) (e := u) hrn).mono (lo2 := w.heap.size) (by omega)
  clear hl ho hr ht hB2 hC2 hF2 hB1 hC1 hF1 hB0 hC0 hF0
  go_wp2_with fail
  exact bodyPost_ret (results_blk Try.results12 Try.isAgg26 (by exact Try.sizeOf26) rfl hE.1) rfl ⟨t, u, rfl, hL6, hO6, hT, ⟨_, hR6⟩, hE.2.1, hE.2.2⟩
end Go.Proofs.Ytpafgmlkbbbmhaa

namespace Go.Proofs.Ytpafgmlkbbbmhaa
open Go.RowKit

theorem RV.putq {w : World} {lo n c q o : Nat} {A : Option Addr} {l : List Tr} {es : List El} {v : Value} (h : RV w lo A n c l es) (h1 : ∀ x ∈ blkOf A, x ≠ q) (h2 : ∀ x ∈ elFp es, x ≠ q) : RV (w.setCell ⟨q, o, none⟩ v) lo A n c l es :=
  h.fr (fp := [q]) ((Fr.refl _ _).setCell (by simp) _) (fun x hx => by simpa using h1 x hx) (fun x hx => by simpa using h2 x hx)
/-- A tree drawn and bent at its root. -/
def anT (t : Tr) : Prop := t.n ≤ 9223372036854775807 ∧ (-9223372036854775808 ≤ t.x ∧ t.x ≤ 9223372036854775807) ∧ t.s.size ≤ 1000 ∧ t.l.length ≤ 7 ∧ ∀ x ∈ t.l, drT 2 x
theorem anT_of {t : Tr} (h : drT 3 t) : anT t := ⟨h.1.2, h.2.1, h.2.2.1, by have := h.2.2.2.2.1; omega, h.2.2.2.2.2⟩
theorem anT_of' {t : Tr} (h : drT 3 t) : t.l.length ≤ 6 := h.2.2.2.2.1
def AnyDrawn (w w' : World) (B g n c : Nat) (A : Option Addr) (b : List UInt8) (r : Ending) : Prop :=
  ∃ (t : Tr) (e : El), r = .returned (trV t e) ∧ LsAt w' t.l e ∧ Own w' w.heap.size e.fp ∧ anT t ∧ Cur w' B g A n c b ∧ Fr [g] w w'
end Go.Proofs.Ytpafgmlkbbbmhaa
