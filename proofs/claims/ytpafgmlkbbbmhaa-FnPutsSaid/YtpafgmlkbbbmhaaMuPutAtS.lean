/- PutAt: the specification's. -/
import Derived.Test.YtpafgmlkbbbmhaaMuPutAt
import Derived.Deep.RegionLaw
set_option linter.unusedVariables false
set_option maxRecDepth 100000
set_option linter.unusedSimpArgs false
namespace Go.Proofs.Ytpafgmlkbbbmhaa
open Go.RowKit

/-- What lies behind the first step. -/
theorem Sl.stp_tail {w : World} {B n c g o : Nat} {p : Int × Bool} {ps : List (Int × Bool)} (h : Sl w B 2 (some ⟨g, o, none⟩) (n + 1) c (stC (p :: ps))) : Sl w B 2 (some ⟨g, o + 2, none⟩) n (c - 1) (stC ps) := by
  have hc := h.cap
  have hm := h.max
  obtain ⟨g', o', e, hg, hk⟩ := h.at_ (by omega)
  cases e
  have hl := h.len
  rw [stC_len] at hl
  refine ⟨by rw [stC_len]; simp at hl; omega, by omega, by omega, fun _ => ⟨g, o + 2, rfl, hg, fun j u hu => ?_⟩⟩
  rw [Nat.add_assoc]
  exact hk (2 + j) u (by rw [Nat.add_comm]; exact hu)
/-- A boxed tree and a step, readable in w'. -/
abbrev StepVv (w2 : World) (gb : Nat) (t : Tr) (e : El) (g o : Nat) (pa : Int) (pb : Bool) (w' : World) : Prop := (BoxV w' gb t e ∧ w'.cell? ⟨g, o, none⟩ = some (.int .i64 pa) ∧ w'.cell? ⟨g, o + 1, none⟩ = some (.bool pb)) ∧ Below w2.heap.size w2 w'
def PsSays (ps : List (Int × Bool)) : Prop := ∀ (t X : Tr) (e ex : El) (A : Option Addr) (m c : Nat) (w : World), LsAt w t.l e → e.lt w.heap.size → t.sz ≤ 1099511627776 → LsAt w X.l ex → ex.lt w.heap.size → X.sz ≤ 1099511627776 → Sl w w.heap.size 2 A m c (stC ps) → (∀ p ∈ ps, -9223372036854775808 ≤ p.1 ∧ p.1 ≤ 9223372036854775807) →
    Calls Try.prog 7 #[trV t e, .slice A m c, trV X ex] w fun r w' => PutOf w w' r t (putAt t ps X)
set_option maxHeartbeats 1600000 in
theorem s_PutAt : ∀ ps : List (Int × Bool), PsSays ps := by
  intro ps
  induction ps with
  | nil =>
    intro t X e ex A m c w hl hel hm hx hex hmx h hps
    have hpl := h.stlen
    obtain rfl : m = 0 := by simpa using hpl.symm
    have k3 := Below.three w (.cells (valCells t e) 26) (.cells (valCells X ex) 26) (.cells #[.int .i64 0, .int .i64 0, .int .i64 0, .string ⟨#[]⟩, .slice none 0 0] 26)
    have hZ : Blk (((w.alloc (.cells (valCells t e) 26)).alloc (.cells (valCells X ex) 26)).alloc (.cells #[.int .i64 0, .int .i64 0, .int .i64 0, .string ⟨#[]⟩, .slice none 0 0] 26)) (w.heap.size + 2) 26 #[.int .i64 0, .int .i64 0, .int .i64 0, .string ⟨#[]⟩, .slice none 0 0] := by
      simpa using Blk.new ((w.alloc (.cells (valCells t e) 26)).alloc (.cells (valCells X ex) 26)) 26 #[.int .i64 0, .int .i64 0, .int .i64 0, .string ⟨#[]⟩, .slice none 0 0]
    have hcp := s_l6Copy X ex _ (hx.below hex k3) (hex.mono k3.size) hmx
    go_enter Try.func7, Try.ntmps7
    go_wp2_with (go_at_call 17; refine hcp.mono ?_; rintro r w5 ⟨v, rfl, hv1, hv2, hb5⟩; have hZ5 := hZ.below hb5 hZ.lt; obtain ⟨x0, x1, x2, x3, x4, ⟨s0, t0⟩, ⟨s1, t1⟩, ⟨s2, t2⟩, ⟨s3, t3⟩, s4, t4⟩ := hZ5.five (o := 0) (by simp) (.int .i64 X.k) (.int .i64 X.n) (.int .i64 X.x) (.string X.s))
    have hn2 : w.heap.size + 2 ∉ v.fp := fun hx => by have := (hv2.2 _ hx).1; simp at this; omega
    have hblk : Blk (set5 w5 (w.heap.size + 2) 0 X v) (w.heap.size + 2) 26 _ := Blk.five_ hZ5 X v
    have r1 : LsAt (set5 w5 (w.heap.size + 2) 0 X v) X.l v := hv1.set5_ hn2
    have r2 : Own (set5 w5 (w.heap.size + 2) 0 X v) w.heap.size v.fp := Own.mono (hv2.set5_ hn2) k3.size
    have r3 : Below w.heap.size w (set5 w5 (w.heap.size + 2) 0 X v) := below_set5 (k3.up hb5) (by omega)
    exact bodyPost_ret (results_blk2 Try.results7 Try.isAgg26 (by exact Try.sizeOf26) rfl hblk) rfl ⟨v, rfl, r1, r2, r3⟩
  | cons p ps ih =>
    intro t X e ex A m c w hl hel hm hx hex hmx h hps
    obtain ⟨O, hO⟩ : ∃ O, putAt t (p :: ps) X = O := ⟨_, rfl⟩
    rw [hO]
    have hpl := h.stlen
    obtain ⟨n, rfl⟩ : ∃ n, m = n + 1 := ⟨m - 1, by simp at hpl; omega⟩
    have hcc := h.cap
    have hmc := h.max
    have hc9 : c ≤ 9223372036854775807 := by unfold maxLen at *; omega
    have hpb := hps p (List.mem_cons_self)
    have hps2 := fun q hq => hps q (List.mem_cons_of_mem _ hq)
    obtain ⟨g, o, hj, hA, hg, p0, p1⟩ := h.stp (j := 0) (by omega)
    subst hA
    obtain ⟨pa, pb⟩ := p
    simp only [List.getElem_cons_zero, Nat.zero_mul, Nat.add_zero] at p0 p1 hpb
    have htail := h.stp_tail
    have k3 := Below.three w (.cells (valCells t e) 26) (.cells (valCells X ex) 26) (.cells #[.int .i64 0, .int .i64 0, .int .i64 0, .string ⟨#[]⟩, .slice none 0 0] 26)
    have hZ : Blk (((w.alloc (.cells (valCells t e) 26)).alloc (.cells (valCells X ex) 26)).alloc (.cells #[.int .i64 0, .int .i64 0, .int .i64 0, .string ⟨#[]⟩, .slice none 0 0] 26)) (w.heap.size + 2) 26 #[.int .i64 0, .int .i64 0, .int .i64 0, .string ⟨#[]⟩, .slice none 0 0] := by
      simpa using Blk.new ((w.alloc (.cells (valCells t e) 26)).alloc (.cells (valCells X ex) 26)) 26 #[.int .i64 0, .int .i64 0, .int .i64 0, .string ⟨#[]⟩, .slice none 0 0]
    have hV : Blk (((w.alloc (.cells (valCells t e) 26)).alloc (.cells (valCells X ex) 26)).alloc (.cells #[.int .i64 0, .int .i64 0, .int .i64 0, .string ⟨#[]⟩, .slice none 0 0] 26)) w.heap.size 26 (valCells t e) := ((Blk.new w _ _).alloc _).alloc _
    have hX : Blk (((w.alloc (.cells (valCells t e) 26)).alloc (.cells (valCells X ex) 26)).alloc (.cells #[.int .i64 0, .int .i64 0, .int .i64 0, .string ⟨#[]⟩, .slice none 0 0] 26)) (w.heap.size + 1) 26 (valCells X ex) := by
      have := (Blk.new (w.alloc (.cells (valCells t e) 26)) 26 (valCells X ex)).alloc (.cells #[.int .i64 0, .int .i64 0, .int .i64 0, .string ⟨#[]⟩, .slice none 0 0] 26)
      simpa using this
    have hcp := s_l6Copy t e _ (hl.below hel k3) (hel.mono k3.size) hm
    have hen := hl.len
    have hszl := szT_le t.l 0
    have hsz := t.sz_eq
    have hpc := place_lt t.k t.l.length pa pb
    have hP := fun w1 => s_l8Place pa pb t e w1 (by omega) hpb
    obtain ⟨R, hR⟩ : ∃ R, place t.k t.l.length pa pb = R := ⟨_, rfl⟩
    rw [← hen, hR] at hP
    have hno := stepT_no (t := t) (p := (pa, pb)) hR
    have hyes := fun (i : Nat) (h : R = i) (hi : i < t.l.length) => stepT_yes (t := t) (p := (pa, pb)) (j := i) (hR.trans h) hi
    have hput : ∀ x, stepT t (pa, pb) = some x → _ := fun x hx => putAt_yes (ps := ps) (x := X) hx
    simp only [hR] at hput
    rw [hR] at hpc
    clear hR
    go_enter Try.func7, Try.ntmps7
    go_wp2_with (go_at_call 17; refine hcp.mono ?_; rintro r w1 ⟨v0, rfl, hv1, hv2, hb1⟩)
    have z1 : w.heap.size + 3 ≤ w1.heap.size := by have := hb1.size; simp at this; omega
    have kk1 : Below w.heap.size w (w1.alloc (.cells (valCells t v0) 26)) := (k3.up hb1).up (Below.one _ _)
    have BX0 : Blk (w1.alloc (.cells (valCells t v0) 26)) w1.heap.size 26 (valCells t v0) := Blk.new _ _ _
    have BZ := (hZ.below hb1 hZ.lt).alloc (.cells (valCells t v0) 26)
    have BV := (hV.below hb1 hV.lt).alloc (.cells (valCells t v0) 26)
    have BE := (hX.below hb1 hX.lt).alloc (.cells (valCells t v0) 26)
    have hl1 := hv1.below (fun g hg => hv2.lt hg) (Below.one w1 (.cells (valCells t v0) 26))
    have ho1 := (hv2.below (fun g hg => hv2.lt hg) (Below.one w1 (.cells (valCells t v0) 26))).mono (lo2 := w.heap.size + 3) (by simp)
    have hn1 : w1.heap.size ∉ v0.fp := fun hx => Nat.lt_irrefl _ (hv2.lt hx)
    clear hcp hv1 hv2 hb1 hZ hV hX k3
    have hg1 : w1.heap.size < (w1.alloc (.cells (valCells t v0) 26)).heap.size := BX0.lt
    generalize w1.heap.size = gx at z1 BX0 hn1 hg1 ⊢
    generalize w1.alloc (.cells (valCells t v0) 26) = w2 at kk1 BX0 BZ BV BE hl1 ho1 hg1 ⊢
    have hS : ∀ w3, Below w2.heap.size w2 w3 → BoxV w3 w.heap.size t e ∧ BoxV w3 (w.heap.size + 1) X ex ∧ BoxV w3 gx t v0 := fun w3 hb => ⟨(BV.below hb BV.lt).boxV, (BE.below hb BE.lt).boxV, (BX0.below hb BX0.lt).boxV⟩
    have q0 := (kk1.cell (p := ⟨g, o, none⟩) hg).trans p0
    have q1 := (kk1.cell (p := ⟨g, o + 1, none⟩) hg).trans p1
    obtain ⟨⟨b0, b1, b2, b3, b4⟩, ⟨e0, e1, e2, e3, e4⟩, a0, a1, a2, a3, a4⟩ := hS w2 (Below.refl _ _)
    rcases hpc with hneg | ⟨hge, hlt2⟩
    · obtain rfl : O = none := by rw [← hO]; exact putAt_no (hno (by omega))
      have hneg2 : R < 0 := by omega
      clear hno hyes hput
      go_region_law (go_simp; go_at_call 18; refine (hP _).mono ?_; rintro r w3 ⟨rfl, hb3⟩; have k5 := (Below.refl w2.heap.size w2).drew.up hb3; have kk5 := kk1.up k5; have BZ3 := BZ.below k5 BZ.lt; obtain ⟨⟨c0, c1, c2, c3, c4⟩, ⟨f0, f1, f2, f3, f4⟩, d0, d1, d2, d3, d4⟩ := hS w3 k5; obtain ⟨x0, x1, x2, x3, x4, ⟨s0, t0⟩, ⟨s1, t1⟩, ⟨s2, t2⟩, ⟨s3, t3⟩, s4, t4⟩ := BZ3.five (o := 0) (by simp) (.int .i64 t.k) (.int .i64 t.n) (.int .i64 t.x) (.string t.s))
      all_goals
        first | go_wp2_with fail | skip
        have hn2 : w.heap.size + 2 ∉ v0.fp := fun hx => by have := (ho1.2 _ hx).1; omega
        have hblk : Blk (set5 w3 (w.heap.size + 2) 0 t v0) (w.heap.size + 2) 26 _ := Blk.five_ BZ3 t v0
        have r1 : LsAt (set5 w3 (w.heap.size + 2) 0 t v0) t.l v0 := (hl1.below (fun g hg => ho1.lt hg) k5).set5_ hn2
        have r2 : Own (set5 w3 (w.heap.size + 2) 0 t v0) w.heap.size v0.fp := Own.mono ((ho1.below (fun g hg => ho1.lt hg) k5).set5_ hn2) (by omega)
        have r3 : Below w.heap.size w (set5 w3 (w.heap.size + 2) 0 t v0) := below_set5 kk5 (by omega)
        exact bodyPost_ret (results_blk2 Try.results7 Try.isAgg26 (by exact Try.sizeOf26) rfl hblk) rfl ⟨v0, rfl, r1, r2, r3⟩
    · obtain ⟨i, rfl⟩ := Int.eq_ofNat_of_zero_le hge
      have hi : i < t.l.length := by omega
      have hO2 := hput _ (hyes i rfl hi)
      rw [hO, Int.toNat_natCast] at hO2
      have hcz := Nat.le_trans (child_sz hi) hm
      obtain ⟨A', hA', htail⟩ : ∃ A', (if c = 1 then some ⟨g, o, none⟩ else some ⟨g, o + 2, none⟩ : Option Addr) = A' ∧ Sl w w.heap.size 2 A' n (c - 1) (stC ps) := by
        by_cases h1 : c = 1
        · exact ⟨_, rfl, by rw [stC_len]; simp at hpl; omega, by omega, by omega, fun h0 => absurd h0 (by omega)⟩
        · exact ⟨_, rfl, by rw [if_neg h1]; exact htail⟩
      have hnn1 : (1 : Int) ≤ (n : Int) + 1 := by omega
      have hL := fun w3 (kk : Below w.heap.size w w3) => (hl.below hel kk).elem (j := i) (by omega)
      have hih := fun wq v (hkq : Below w.heap.size w wq) (hch : LsAt wq t.l[i].l v) (hvl : v.lt wq.heap.size) => ih t.l[i] X v ex A' n (c - 1) wq hch hvl hcz (hx.below hex hkq) (hex.mono hkq.size) hmx ((htail.below hkq).more hkq.size) hps2
      generalize putAt t.l[i] ps X = O' at hih hO2
      subst hO2
      clear hO
      have hgw2 : g < w2.heap.size := Nat.lt_of_lt_of_le hg kk1.size
      have hS0 := fun (w' : World) (hb : Below w2.heap.size w2 w') => (show StepVv w2 w.heap.size t e g o pa pb w' from ⟨⟨(BV.below hb BV.lt).boxV, (hb.cell (p := ⟨g, o, none⟩) hgw2).trans q0, (hb.cell (p := ⟨g, o + 1, none⟩) hgw2).trans q1⟩, hb⟩)
      have hS2 := fun (w' w'' : World) (h : StepVv w2 w.heap.size t e g o pa pb w') (hb : Below w'.heap.size w' w'') => hS0 w'' (h.2.up hb)
      clear hno hyes hput ih h htail hps hps2
      go_region_held3 (fun w' => StepVv w2 w.heap.size t e g o pa pb w')
        (first | exact hS0 _ (Below.refl _ _).drew | (refine hS2 _ _ ?_ hbA; assumption))
        (first | (go_at_call 18; refine (hP _).mono ?_; rintro r w3 ⟨rfl, hbA⟩))
      rename_i hHeld
      have k5 := hHeld.2
      rename World => w3
      clear hS0 hS2 hHeld hbA b0 b1 b2 b3 b4 e0 e1 e2 e3 e4 a0 a1 a2 a3 a4 q0 q1 p0 p1
      have kk5 := kk1.up k5
      have h3z : w2.heap.size ≤ w3.heap.size := k5.size
      obtain ⟨⟨c0, c1, c2, c3, c4⟩, ⟨f0, f1, f2, f3, f4⟩, d0, d1, d2, d3, d4⟩ := hS w3 k5
      obtain ⟨ge, oe, v, _, hAe, hge2, ⟨l0, l1, l2, l3, l4⟩, hch, hsub⟩ := hL w3 kk5
      have hvl : v.lt w3.heap.size := fun x hx => Nat.lt_of_lt_of_le (hel x (hsub x hx)) kk5.size
      have hih2 := fun wq (hb : Below w3.heap.size w3 wq) => hih wq v (kk5.up hb) (hch.below hvl hb) (fun x hx => Nat.lt_of_lt_of_le (hvl x hx) hb.size)
      obtain ⟨eA, en, ec, efp⟩ := e
      have hen : t.l.length = en := hen
      subst hen
      have hec : t.l.length ≤ ec ∧ ec ≤ maxLen := ⟨((lsAt_iff _ _).1 hl).2.1, ((lsAt_iff _ _).1 hl).2.2.1⟩
      replace hAe : eA = some ⟨ge, oe, none⟩ := hAe
      subst hAe
      clear hih hch hL hS hP
      have hgx3 : gx < w3.heap.size := Nat.lt_of_lt_of_le hg1 h3z
      have hz31 : w.heap.size + 1 < w3.heap.size := by omega
      have hz30 : w.heap.size < w3.heap.size := by omega
      have hge3 : ge < w3.heap.size := Nat.lt_of_lt_of_le (hel ge hge2) kk5.size
      have hc1 : ¬ c = 0 := by omega
      cases O' with
      | none =>
        go_wp2_with fail
        go_region_law (go_simp; go_at_call 7; refine (hih2 _ (by first | exact (Below.refl _ _).drew | exact (Below.one _ _).drew)).mono ?_; rintro r w5 ⟨y, rfl, hy1, hy2, hb5⟩; obtain ⟨hc5, hf5⟩ := bcell hb5)
        all_goals
          first
            | (
              have hw5 : Below w3.heap.size w3 w5 := ((Below.refl _ _).drew).up hb5
              have HF : BoxV (w5.alloc (.cells #[.int .i64 t.l[i].k, .int .i64 t.l[i].n, .int .i64 t.l[i].x, .string t.l[i].s, .slice y.A y.n y.c] 26)) w5.heap.size t.l[i] y ∧ LsAt (w5.alloc (.cells #[.int .i64 t.l[i].k, .int .i64 t.l[i].n, .int .i64 t.l[i].x, .string t.l[i].s, .slice y.A y.n y.c] 26)) t.l[i].l y ∧ Own (w5.alloc (.cells #[.int .i64 t.l[i].k, .int .i64 t.l[i].n, .int .i64 t.l[i].x, .string t.l[i].s, .slice y.A y.n y.c] 26)) (w.heap.size + 3) y.fp ∧ (∀ x ∈ y.fp, w2.heap.size ≤ x) ∧ Below w2.heap.size w2 (w5.alloc (.cells #[.int .i64 t.l[i].k, .int .i64 t.l[i].n, .int .i64 t.l[i].x, .string t.l[i].s, .slice y.A y.n y.c] 26)) :=
                ⟨(Blk.new _ _ _).boxV, hy1.below (fun g hg => hy2.lt hg) (Below.one _ _), (hy2.below (fun g hg => hy2.lt hg) (Below.one _ _)).mono (by have : w3.heap.size ≤ w3.drew.heap.size := Nat.le_refl _; omega), fun x hx => Nat.le_trans h3z (hy2.2 x hx).1, (k5.up hw5).up (Below.one _ _)⟩
              clear hb5 hc5 hf5 hy1 hy2
              generalize w5.alloc (.cells #[.int .i64 t.l[i].k, .int .i64 t.l[i].n, .int .i64 t.l[i].x, .string t.l[i].s, .slice y.A y.n y.c] 26) = wF at HF ⊢
              generalize w5.heap.size = gy at HF ⊢
              )
            | (
              have hw5 : Below w3.heap.size w3 w5 := ((Below.one _ _).drew).up hb5
              have HF : BoxV (((((w5.setCell ⟨w3.heap.size, 0, none⟩ (.int .i64 t.l[i].k)).setCell ⟨w3.heap.size, 1, none⟩ (.int .i64 t.l[i].n)).setCell ⟨w3.heap.size, 2, none⟩ (.int .i64 t.l[i].x)).setCell ⟨w3.heap.size, 3, none⟩ (.string t.l[i].s)).setCell ⟨w3.heap.size, 4, none⟩ (.slice y.A y.n y.c)) w3.heap.size t.l[i] y ∧ LsAt (((((w5.setCell ⟨w3.heap.size, 0, none⟩ (.int .i64 t.l[i].k)).setCell ⟨w3.heap.size, 1, none⟩ (.int .i64 t.l[i].n)).setCell ⟨w3.heap.size, 2, none⟩ (.int .i64 t.l[i].x)).setCell ⟨w3.heap.size, 3, none⟩ (.string t.l[i].s)).setCell ⟨w3.heap.size, 4, none⟩ (.slice y.A y.n y.c)) t.l[i].l y ∧ Own (((((w5.setCell ⟨w3.heap.size, 0, none⟩ (.int .i64 t.l[i].k)).setCell ⟨w3.heap.size, 1, none⟩ (.int .i64 t.l[i].n)).setCell ⟨w3.heap.size, 2, none⟩ (.int .i64 t.l[i].x)).setCell ⟨w3.heap.size, 3, none⟩ (.string t.l[i].s)).setCell ⟨w3.heap.size, 4, none⟩ (.slice y.A y.n y.c)) (w.heap.size + 3) y.fp ∧ (∀ x ∈ y.fp, w2.heap.size ≤ x) ∧ Below w2.heap.size w2 (((((w5.setCell ⟨w3.heap.size, 0, none⟩ (.int .i64 t.l[i].k)).setCell ⟨w3.heap.size, 1, none⟩ (.int .i64 t.l[i].n)).setCell ⟨w3.heap.size, 2, none⟩ (.int .i64 t.l[i].x)).setCell ⟨w3.heap.size, 3, none⟩ (.string t.l[i].s)).setCell ⟨w3.heap.size, 4, none⟩ (.slice y.A y.n y.c)) := by
                have hny : w3.heap.size ∉ y.fp := fun hx => by have h9 : (w3.alloc (.cells #[.int .i64 0, .int .i64 0, .int .i64 0, .string ⟨#[]⟩, .slice none 0 0] 26)).heap.size ≤ w3.heap.size := (hy2.2 _ hx).1; simp at h9; omega
                have hY5 : Blk w5 w3.heap.size 26 #[.int .i64 0, .int .i64 0, .int .i64 0, .string ⟨#[]⟩, .slice none 0 0] := (show Blk (w3.alloc (.cells #[.int .i64 0, .int .i64 0, .int .i64 0, .string ⟨#[]⟩, .slice none 0 0] 26)).drew w3.heap.size 26 #[.int .i64 0, .int .i64 0, .int .i64 0, .string ⟨#[]⟩, .slice none 0 0] from Blk.new w3 _ _).below hb5 (by simp)
                have e : set5 w5 w3.heap.size 0 t.l[i] y = ((((w5.setCell ⟨w3.heap.size, 0, none⟩ (.int .i64 t.l[i].k)).setCell ⟨w3.heap.size, 1, none⟩ (.int .i64 t.l[i].n)).setCell ⟨w3.heap.size, 2, none⟩ (.int .i64 t.l[i].x)).setCell ⟨w3.heap.size, 3, none⟩ (.string t.l[i].s)).setCell ⟨w3.heap.size, 4, none⟩ (.slice y.A y.n y.c) := rfl
                rw [← e]
                exact ⟨(Blk.five_ hY5 t.l[i] y).boxV, hy1.set5_ hny, (hy2.set5_ hny).mono (by simp; omega), fun x hx => Nat.le_trans (by simp; omega) (hy2.2 x hx).1, below_set5 (k5.up hw5) h3z⟩
              clear hb5 hc5 hf5 hy1 hy2
              generalize ((((w5.setCell ⟨w3.heap.size, 0, none⟩ (.int .i64 t.l[i].k)).setCell ⟨w3.heap.size, 1, none⟩ (.int .i64 t.l[i].n)).setCell ⟨w3.heap.size, 2, none⟩ (.int .i64 t.l[i].x)).setCell ⟨w3.heap.size, 3, none⟩ (.string t.l[i].s)).setCell ⟨w3.heap.size, 4, none⟩ (.slice y.A y.n y.c) = wF at HF ⊢
              generalize w3.heap.size = gy at HF ⊢
              )
        all_goals
          obtain ⟨⟨y0, y1, y2, y3, y4⟩, hy1, hy2, hyn, k6⟩ := HF
          have kk6 := kk1.up k6
          have BZ6 := BZ.below k6 BZ.lt
          have BX6 := BX0.below k6 BX0.lt
          obtain ⟨m0, m1, m2, m3, m4⟩ := BX6.boxV
          obtain ⟨x0, x1, x2, x3, x4, ⟨s0, t0⟩, ⟨s1, t1⟩, ⟨s2, t2⟩, ⟨s3, t3⟩, s4, t4⟩ := BZ6.five (o := 0) (by simp) (.int .i64 t.k) (.int .i64 t.n) (.int .i64 t.x) (.string t.s)
          go_wp2_with fail
          have hn2 : w.heap.size + 2 ∉ v0.fp := fun hx => by have := (ho1.2 _ hx).1; omega
          have hblk : Blk (set5 wF (w.heap.size + 2) 0 t v0) (w.heap.size + 2) 26 _ := Blk.five_ BZ6 t v0
          have r1 : LsAt (set5 wF (w.heap.size + 2) 0 t v0) t.l v0 := (hl1.below (fun g hg => ho1.lt hg) k6).set5_ hn2
          have r2 : Own (set5 wF (w.heap.size + 2) 0 t v0) w.heap.size v0.fp := Own.mono ((ho1.below (fun g hg => ho1.lt hg) k6).set5_ hn2) (by omega)
          have r3 : Below w.heap.size w (set5 wF (w.heap.size + 2) 0 t v0) := below_set5 kk6 (by omega)
          exact bodyPost_ret (results_blk2 Try.results7 Try.isAgg26 (by exact Try.sizeOf26) rfl hblk) rfl ⟨v0, rfl, r1, r2, r3⟩
      | some z =>
        obtain ⟨g8, o8, es, hV8⟩ := hl1.open_ (by have := hl1.len; omega)
        have hg8 : g8 ∈ v0.fp := by rw [hV8.fp]; exact List.mem_cons_self
        obtain ⟨hg8l, T8, cs8, hB8⟩ := ho1.2 g8 hg8
        have hn8 : t.l.length = v0.n := hl1.len
        have hje : i < es.length := by rw [hV8.eslen]; omega
        have hlt8 : o8 + i * 5 + 5 ≤ cs8.size := by
          obtain ⟨_, _, _, _, c4⟩ := hV8.cells i _ _ (List.getElem?_eq_getElem hi) (List.getElem?_eq_getElem hje)
          have := hB8.size_of c4
          omega
        have hA8 := hV8.adr
        obtain ⟨vA, vn, vc, vfp⟩ := v0
        replace hn8 : t.l.length = vn := hn8
        replace hA8 : vA = some ⟨g8, o8, none⟩ := hA8
        subst hn8 hA8
        have hvc : t.l.length ≤ vc ∧ vc ≤ maxLen := ⟨((lsAt_iff _ _).1 hl1).2.1, ((lsAt_iff _ _).1 hl1).2.2.1⟩
        replace hg8 : g8 ∈ vfp := hg8
        replace hn1 : gx ∉ vfp := hn1
        go_wp2_with fail
        go_region_law (go_simp; go_at_call 7; refine (hih2 _ (by first | exact (Below.refl _ _).drew | exact (Below.one _ _).drew)).mono ?_; rintro r w5 ⟨y, rfl, hy1, hy2, hb5⟩; obtain ⟨hc5, hf5⟩ := bcell hb5)
        all_goals
          first
            | (
              have hw5 : Below w3.heap.size w3 w5 := ((Below.refl _ _).drew).up hb5
              have HF : BoxV (w5.alloc (.cells #[.int .i64 z.k, .int .i64 z.n, .int .i64 z.x, .string z.s, .slice y.A y.n y.c] 26)) w5.heap.size z y ∧ LsAt (w5.alloc (.cells #[.int .i64 z.k, .int .i64 z.n, .int .i64 z.x, .string z.s, .slice y.A y.n y.c] 26)) z.l y ∧ Own (w5.alloc (.cells #[.int .i64 z.k, .int .i64 z.n, .int .i64 z.x, .string z.s, .slice y.A y.n y.c] 26)) (w.heap.size + 3) y.fp ∧ (∀ x ∈ y.fp, w2.heap.size ≤ x) ∧ Below w2.heap.size w2 (w5.alloc (.cells #[.int .i64 z.k, .int .i64 z.n, .int .i64 z.x, .string z.s, .slice y.A y.n y.c] 26)) :=
                ⟨(Blk.new _ _ _).boxV, hy1.below (fun g hg => hy2.lt hg) (Below.one _ _), (hy2.below (fun g hg => hy2.lt hg) (Below.one _ _)).mono (by have : w3.heap.size ≤ w3.drew.heap.size := Nat.le_refl _; omega), fun x hx => Nat.le_trans h3z (hy2.2 x hx).1, (k5.up hw5).up (Below.one _ _)⟩
              clear hb5 hc5 hf5 hy1 hy2
              generalize w5.alloc (.cells #[.int .i64 z.k, .int .i64 z.n, .int .i64 z.x, .string z.s, .slice y.A y.n y.c] 26) = wF at HF ⊢
              generalize w5.heap.size = gy at HF ⊢
              )
            | (
              have hw5 : Below w3.heap.size w3 w5 := ((Below.one _ _).drew).up hb5
              have HF : BoxV (((((w5.setCell ⟨w3.heap.size, 0, none⟩ (.int .i64 z.k)).setCell ⟨w3.heap.size, 1, none⟩ (.int .i64 z.n)).setCell ⟨w3.heap.size, 2, none⟩ (.int .i64 z.x)).setCell ⟨w3.heap.size, 3, none⟩ (.string z.s)).setCell ⟨w3.heap.size, 4, none⟩ (.slice y.A y.n y.c)) w3.heap.size z y ∧ LsAt (((((w5.setCell ⟨w3.heap.size, 0, none⟩ (.int .i64 z.k)).setCell ⟨w3.heap.size, 1, none⟩ (.int .i64 z.n)).setCell ⟨w3.heap.size, 2, none⟩ (.int .i64 z.x)).setCell ⟨w3.heap.size, 3, none⟩ (.string z.s)).setCell ⟨w3.heap.size, 4, none⟩ (.slice y.A y.n y.c)) z.l y ∧ Own (((((w5.setCell ⟨w3.heap.size, 0, none⟩ (.int .i64 z.k)).setCell ⟨w3.heap.size, 1, none⟩ (.int .i64 z.n)).setCell ⟨w3.heap.size, 2, none⟩ (.int .i64 z.x)).setCell ⟨w3.heap.size, 3, none⟩ (.string z.s)).setCell ⟨w3.heap.size, 4, none⟩ (.slice y.A y.n y.c)) (w.heap.size + 3) y.fp ∧ (∀ x ∈ y.fp, w2.heap.size ≤ x) ∧ Below w2.heap.size w2 (((((w5.setCell ⟨w3.heap.size, 0, none⟩ (.int .i64 z.k)).setCell ⟨w3.heap.size, 1, none⟩ (.int .i64 z.n)).setCell ⟨w3.heap.size, 2, none⟩ (.int .i64 z.x)).setCell ⟨w3.heap.size, 3, none⟩ (.string z.s)).setCell ⟨w3.heap.size, 4, none⟩ (.slice y.A y.n y.c)) := by
                have hny : w3.heap.size ∉ y.fp := fun hx => by have h9 : (w3.alloc (.cells #[.int .i64 0, .int .i64 0, .int .i64 0, .string ⟨#[]⟩, .slice none 0 0] 26)).heap.size ≤ w3.heap.size := (hy2.2 _ hx).1; simp at h9; omega
                have hY5 : Blk w5 w3.heap.size 26 #[.int .i64 0, .int .i64 0, .int .i64 0, .string ⟨#[]⟩, .slice none 0 0] := (show Blk (w3.alloc (.cells #[.int .i64 0, .int .i64 0, .int .i64 0, .string ⟨#[]⟩, .slice none 0 0] 26)).drew w3.heap.size 26 #[.int .i64 0, .int .i64 0, .int .i64 0, .string ⟨#[]⟩, .slice none 0 0] from Blk.new w3 _ _).below hb5 (by simp)
                have e : set5 w5 w3.heap.size 0 z y = ((((w5.setCell ⟨w3.heap.size, 0, none⟩ (.int .i64 z.k)).setCell ⟨w3.heap.size, 1, none⟩ (.int .i64 z.n)).setCell ⟨w3.heap.size, 2, none⟩ (.int .i64 z.x)).setCell ⟨w3.heap.size, 3, none⟩ (.string z.s)).setCell ⟨w3.heap.size, 4, none⟩ (.slice y.A y.n y.c) := rfl
                rw [← e]
                exact ⟨(Blk.five_ hY5 z y).boxV, hy1.set5_ hny, (hy2.set5_ hny).mono (by simp; omega), fun x hx => Nat.le_trans (by simp; omega) (hy2.2 x hx).1, below_set5 (k5.up hw5) h3z⟩
              clear hb5 hc5 hf5 hy1 hy2
              generalize ((((w5.setCell ⟨w3.heap.size, 0, none⟩ (.int .i64 z.k)).setCell ⟨w3.heap.size, 1, none⟩ (.int .i64 z.n)).setCell ⟨w3.heap.size, 2, none⟩ (.int .i64 z.x)).setCell ⟨w3.heap.size, 3, none⟩ (.string z.s)).setCell ⟨w3.heap.size, 4, none⟩ (.slice y.A y.n y.c) = wF at HF ⊢
              generalize w3.heap.size = gy at HF ⊢
              )
        all_goals
          obtain ⟨⟨y0, y1, y2, y3, y4⟩, hy1, hy2, hyn, k6⟩ := HF
          have kk6 := kk1.up k6
          have BZ6 := BZ.below k6 BZ.lt
          have BX6 := BX0.below k6 BX0.lt
          obtain ⟨m0, m1, m2, m3, m4⟩ := BX6.boxV
          obtain ⟨x0, x1, x2, x3, x4, ⟨s0, t0⟩, ⟨s1, t1⟩, ⟨s2, t2⟩, ⟨s3, t3⟩, s4, t4⟩ := (hB8.below k6 hB8.lt).five hlt8 (.int .i64 z.k) (.int .i64 z.n) (.int .i64 z.x) (.string z.s)
          go_upto_region 11 with fail
          have hg8y : g8 ∉ y.fp := fun hx => by have := hyn g8 hx; have := hB8.lt; omega
          obtain ⟨e2, hA2, hn2, hc2, hL2, hO2, -⟩ := hV8.swap (w' := set5 wF g8 (o8 + i * 5) z y) ho1 (j := i) (by show i < t.l.length; exact hi) (List.getElem?_eq_getElem hje) ((hB8.below k6 hB8.lt).cells5 z y hlt8) (hy1.set5_ hg8y) (hy2.set5_ hg8y) (fun x hx => .inr (hyn x hx))
            (fun g o hg _ hh => (set5_other _ _ _ _ _ _ _ (by by_cases e : g = g8; exact .inr (hh e); exact .inl e)).trans (k6.cell (p := ⟨g, o, none⟩) hg))
            (fun g T cs hb => by
              by_cases e : g = g8
              · subst e
                obtain ⟨cs2, _, h2⟩ := (hb.below k6 hb.lt).set5_ (o := o8 + i * 5) z y
                exact ⟨cs2, h2⟩
              · exact ⟨cs, (hb.below k6 hb.lt).far5 e⟩)
          have hZ6 := BZ6.far5 (g := g8) (o := o8 + i * 5) (t := z) (e := y) (by omega)
          have hX6 := BX6.far5 (g := g8) (o := o8 + i * 5) (t := z) (e := y) (fun e => hn1 (e ▸ hg8))
          have hk6 : Below w.heap.size w (set5 wF g8 (o8 + i * 5) z y) := below_set5 kk6 (by omega)
          unfold set5 at hL2 hO2 hZ6 hX6 hk6
          clear x0 x1 x2 x3 x4 s0 t0 s1 t1 s2 t2 s3 t3 s4 t4 y0 y1 y2 y3 y4 hy1 hy2 hyn BZ6 BX6 m0 m1 m2 m3 m4
          generalize ((((wF.setCell ⟨g8, o8 + i * 5, none⟩ (.int .i64 z.k)).setCell ⟨g8, o8 + i * 5 + 1, none⟩ (.int .i64 z.n)).setCell ⟨g8, o8 + i * 5 + 2, none⟩ (.int .i64 z.x)).setCell ⟨g8, o8 + i * 5 + 3, none⟩ (.string z.s)).setCell ⟨g8, o8 + i * 5 + 4, none⟩ (.slice y.A y.n y.c) = w6 at hL2 hO2 hZ6 hX6 hk6 ⊢
          obtain ⟨m0, m1, m2, m3, m4⟩ := hX6.boxV
          obtain ⟨x0, x1, x2, x3, x4, ⟨s0, t0⟩, ⟨s1, t1⟩, ⟨s2, t2⟩, ⟨s3, t3⟩, s4, t4⟩ := hZ6.five (o := 0) (by simp) (.int .i64 t.k) (.int .i64 t.n) (.int .i64 t.x) (.string t.s)
          go_wp2_with fail
          obtain ⟨zA, zn, zc, zfp⟩ := e2
          replace hA2 : zA = some ⟨g8, o8, none⟩ := hA2
          replace hn2 : zn = t.l.length := hn2
          replace hc2 : zc = vc := hc2
          subst hA2 hn2 hc2
          have hnz : w.heap.size + 2 ∉ zfp := fun hx => by have := (hO2.2 _ hx).1; omega
          have hblk : Blk (set5 w6 (w.heap.size + 2) 0 (t.putL i z) ⟨some ⟨g8, o8, none⟩, t.l.length, zc, zfp⟩) (w.heap.size + 2) 26 _ := Blk.five_ hZ6 _ _
          have r1 : LsAt (set5 w6 (w.heap.size + 2) 0 (t.putL i z) ⟨some ⟨g8, o8, none⟩, t.l.length, zc, zfp⟩) (t.putL i z).l _ := hL2.set5_ hnz
          have r2 : Own (set5 w6 (w.heap.size + 2) 0 (t.putL i z) ⟨some ⟨g8, o8, none⟩, t.l.length, zc, zfp⟩) w.heap.size zfp := Own.mono (hO2.set5_ hnz) (by omega)
          have r3 : Below w.heap.size w (set5 w6 (w.heap.size + 2) 0 (t.putL i z) ⟨some ⟨g8, o8, none⟩, t.l.length, zc, zfp⟩) := below_set5 hk6 (by omega)
          exact bodyPost_ret (results_blk2 Try.results7 Try.isAgg26 (by exact Try.sizeOf26) rfl hblk) rfl ⟨_, rfl, r1, r2, r3⟩
end Go.Proofs.Ytpafgmlkbbbmhaa
