/- Two trees compared by the laws: sameVal. The law on the bits of halves: FnBits. -/
import Derived.Test.YtmnlkedacnemcaaGreatDoorTwM47
import Derived.Deep.RegionHeld3
import Derived.Test.YtmnlkedacnemcaaGreatDoorTwM21
set_option linter.unusedVariables false
set_option maxRecDepth 100000
set_option linter.unusedSimpArgs false
namespace Go.Proofs.YtmnlkedacnemcaaGreatDoor
open Go.RowKit

/-- Five cells in the midst of a row. -/
abbrev RowCl (w' : World) (g o : Nat) (t : Tr) (e : El) : Prop :=
  w'.cell? ⟨g, o, none⟩ = some (.int .i64 t.k) ∧ w'.cell? ⟨g, o + 1, none⟩ = some (.int .i64 t.n) ∧ w'.cell? ⟨g, o + 2, none⟩ = some (.int .i64 t.x) ∧ w'.cell? ⟨g, o + 3, none⟩ = some (.string t.s) ∧ w'.cell? ⟨g, o + 4, none⟩ = some (.slice e.A e.n e.c)
abbrev SameHeldL (w : World) (p1 p2 : Nat) (q1 q2 : Value) (g1 o1 : Nat) (t1 : Tr) (u1 : El) (g2 o2 : Nat) (t2 : Tr) (u2 : El) (w' : World) : Prop :=
  (w'.cell? ⟨p1, 4, none⟩ = some q1 ∧ w'.cell? ⟨p2, 4, none⟩ = some q2) ∧ RowCl w' g1 o1 t1 u1 ∧ RowCl w' g2 o2 t2 u2 ∧ LsAt w' t1.l u1 ∧ LsAt w' t2.l u2 ∧ Below w.heap.size w w'
theorem same_nextL {w w1 w2 : World} {B p1 p2 g1 o1 g2 o2 : Nat} {q1 q2 : Value} {t1 t2 : Tr} {u1 u2 : El} (hp1 : p1 < B) (hp2 : p2 < B) (h1 : g1 < w.heap.size) (h2 : g2 < w.heap.size) (hu1 : u1.lt w.heap.size) (hu2 : u2.lt w.heap.size) (hB : B ≤ w1.heap.size) (hb : Below w1.heap.size w1 w2)
    (h : SameHeldL w p1 p2 q1 q2 g1 o1 t1 u1 g2 o2 t2 u2 w1) : SameHeldL w p1 p2 q1 q2 g1 o1 t1 u1 g2 o2 t2 u2 w2 := by
  obtain ⟨⟨a, b⟩, ⟨a0, a1, a2, a3, a4⟩, ⟨b0, b1, b2, b3, b4⟩, c, d, e⟩ := h
  have hs := e.size
  have f := fun (g o : Nat) (hg : g < w1.heap.size) => hb.cell (p := ⟨g, o, none⟩) hg
  have hg1 : g1 < w1.heap.size := by omega
  have hg2 : g2 < w1.heap.size := by omega
  exact ⟨⟨(f _ _ (by omega)).trans a, (f _ _ (by omega)).trans b⟩, ⟨(f _ _ hg1).trans a0, (f _ _ hg1).trans a1, (f _ _ hg1).trans a2, (f _ _ hg1).trans a3, (f _ _ hg1).trans a4⟩, ⟨(f _ _ hg2).trans b0, (f _ _ hg2).trans b1, (f _ _ hg2).trans b2, (f _ _ hg2).trans b3, (f _ _ hg2).trans b4⟩, c.below (hu1.mono hs) hb, d.below (hu2.mono hs) hb, e.up hb⟩
def LwSays (a : Tr) : Prop := ∀ (b : Tr) (ea eb : El) (w : World), LsAt w a.l ea → LsAt w b.l eb → ea.lt w.heap.size → eb.lt w.heap.size →
  Calls Tryz.prog 9 #[trV a ea, trV b eb] w fun r w' => r = .returned (.bool (sameT a b)) ∧ Below w.heap.size w w'
set_option maxHeartbeats 8000000 in
theorem l_sameVal (a : Tr) : LwSays a := by
  refine Tr.ind (P := LwSays) (fun a ih => ?_) a
  intro b ea eb w ha hb hla hlb
  have k2 := Below.two w (.cells (valCells a ea) 26) (.cells (valCells b eb) 26)
  have he := sameT_eq a b
  obtain ⟨R, hR⟩ : ∃ R, sameT a b = R := ⟨_, rfl⟩
  rw [hR] at he ⊢
  clear hR
  obtain ⟨k1, n1, x1, s1, l⟩ := a
  obtain ⟨k2', n2, x2, s2, m⟩ := b
  obtain ⟨A1, m1, c1, fp1⟩ := ea
  obtain ⟨A2, m2, c2, fp2⟩ := eb
  have hn1 : l.length = m1 := ha.len
  have hn2 : m.length = m2 := hb.len
  have hc1 : m1 ≤ 9223372036854775807 := by have := ((lsAt_iff _ _).1 ha).2.1; have := ((lsAt_iff _ _).1 ha).2.2.1; unfold maxLen at *; simp at *; omega
  have hc2 : m2 ≤ 9223372036854775807 := by have := ((lsAt_iff _ _).1 hb).2.1; have := ((lsAt_iff _ _).1 hb).2.2.1; unfold maxLen at *; simp at *; omega
  simp only at he ih
  have HE := Lib.hid he
  clear he
  by_cases hk : k1 = k2'
  rotate_left
  · have q1 : (k1 == k2') = false := by simpa using hk
    have HE2 : Hid (R = false) := Lib.hid (by rw [HE.out]; simp [hk])
    clear HE ih
    go_enter Tryz.func9, Tryz.ntmps9
    go_wp2_with fail
    all_goals (go_ret; exact ⟨ret_bool HE2.out.symm, k2⟩)
  subst hk
  by_cases hn : n1 = n2
  rotate_left
  · have q1 : (n1 == n2) = false := by simpa using hn
    have HE2 : Hid (R = false) := Lib.hid (by rw [HE.out]; simp [hn])
    clear HE ih
    go_enter Tryz.func9, Tryz.ntmps9
    go_wp2_with fail
    all_goals (go_ret; exact ⟨ret_bool HE2.out.symm, k2⟩)
  subst hn
  by_cases hx : x1 = x2
  rotate_left
  · have q1 : (x1 == x2) = false := by simpa using hx
    have HE2 : Hid (R = false) := Lib.hid (by rw [HE.out]; simp [hx])
    clear HE ih
    go_enter Tryz.func9, Tryz.ntmps9
    go_wp2_with fail
    all_goals (go_ret; exact ⟨ret_bool HE2.out.symm, k2⟩)
  subst hx
  by_cases hs : s1 = s2
  rotate_left
  · have q1 : (s1.toList == s2.toList) = false := by rw [beq_eq_false_iff_ne]; exact fun h => hs (toList_inj h)
    have q2 : ¬ s1.toList = s2.toList := fun h => hs (toList_inj h)
    have HE2 : Hid (R = false) := Lib.hid (by rw [HE.out]; simp [hs])
    clear HE ih
    go_enter Tryz.func9, Tryz.ntmps9
    go_wp2_with fail
    all_goals (go_ret; exact ⟨ret_bool HE2.out.symm, k2⟩)
  subst hs
  by_cases hm : m1 = m2
  rotate_left
  · have q1 : (m1 == m2) = false := by simpa using hm
    have q2 : ((m1 : Int) == (m2 : Int)) = false := by simp; omega
    have q3 : ((m1 : Int) != (m2 : Int)) = true := by simp; omega
    have HE2 : Hid (R = false) := Lib.hid (by rw [HE.out, sameL_len (by omega)]; simp)
    clear HE ih
    go_enter Tryz.func9, Tryz.ntmps9
    go_wp2_with fail
    all_goals (go_ret; exact ⟨ret_bool HE2.out.symm, k2⟩)
  subst hm
  have HE2 : Hid (R = sameL (l.drop 0) (m.drop 0)) := Lib.hid (by rw [HE.out]; simp)
  clear HE
  have hB1 : Blk ((w.alloc (.cells #[.int .i64 k1, .int .i64 n1, .int .i64 x1, .string s1, .slice A1 m1 c1] 26)).alloc (.cells #[.int .i64 k1, .int .i64 n1, .int .i64 x1, .string s1, .slice A2 m1 c2] 26)) w.heap.size 26 #[.int .i64 k1, .int .i64 n1, .int .i64 x1, .string s1, .slice A1 m1 c1] := (Blk.new w _ _).alloc _
  have hB2 : Blk ((w.alloc (.cells #[.int .i64 k1, .int .i64 n1, .int .i64 x1, .string s1, .slice A1 m1 c1] 26)).alloc (.cells #[.int .i64 k1, .int .i64 n1, .int .i64 x1, .string s1, .slice A2 m1 c2] 26)) (w.heap.size + 1) 26 #[.int .i64 k1, .int .i64 n1, .int .i64 x1, .string s1, .slice A2 m1 c2] := by
    simpa using Blk.new (w.alloc (.cells #[.int .i64 k1, .int .i64 n1, .int .i64 x1, .string s1, .slice A1 m1 c1] 26)) 26 #[.int .i64 k1, .int .i64 n1, .int .i64 x1, .string s1, .slice A2 m1 c2]
  go_enter Tryz.func9, Tryz.ntmps9
  go_wp2_with fail
  go_loopg [5] m1 (fun f z wr => ∃ j : Nat, j + f = m1 ∧ z = .int .i64 j ∧ Hid (R = sameL (l.drop j) (m.drop j)) ∧ wr.cell? ⟨w.heap.size, 4, none⟩ = some (.slice A1 m1 c1) ∧ wr.cell? ⟨w.heap.size + 1, 4, none⟩ = some (.slice A2 m1 c2) ∧ w.heap.size + 2 ≤ wr.heap.size ∧ Below w.heap.size w wr)
  case atStart => exact ⟨0, by omega, rfl, HE2, hB1.cell 4, hB2.cell 4, by simp, k2⟩
  case round =>
    obtain ⟨j, hjf, rfl, hH, p4', r4', hz, hbr⟩ := hrel
    clear HE2 hB1 hB2 k2
    by_cases hlt : j < m1
    · obtain ⟨f, rfl⟩ : ∃ f, gk = f + 1 := ⟨gk - 1, by omega⟩
      obtain ⟨g1, o1, u1, hj1, hA1, hg1, hx1, hch1, hsub1⟩ := (ha.below hla hbr).elem hlt
      obtain ⟨g2, o2, u2, hj2, hA2, hg2, hx2, hch2, hsub2⟩ := (hb.below hlb hbr).elem hlt
      have hA1 : A1 = some ⟨g1, o1, none⟩ := hA1
      have hA2 : A2 = some ⟨g2, o2, none⟩ := hA2
      subst hA1 hA2
      have hG1 : g1 < w.heap.size := hla g1 hg1
      have hG2 : g2 < w.heap.size := hlb g2 hg2
      have hU1 : u1.lt w.heap.size := fun y hy => hla y (hsub1 y hy)
      have hU2 : u2.lt w.heap.size := fun y hy => hlb y (hsub2 y hy)
      have hS : SameHeldL w w.heap.size (w.heap.size + 1) (.slice (some ⟨g1, o1, none⟩) m1 c1) (.slice (some ⟨g2, o2, none⟩) m1 c2) g1 (o1 + j * 5) l[j] u1 g2 (o2 + j * 5) m[j] u2 wr := ⟨⟨p4', r4'⟩, hx1, hx2, hch1, hch2, hbr⟩
      have hcall : ∀ w', SameHeldL w w.heap.size (w.heap.size + 1) (.slice (some ⟨g1, o1, none⟩) m1 c1) (.slice (some ⟨g2, o2, none⟩) m1 c2) g1 (o1 + j * 5) l[j] u1 g2 (o2 + j * 5) m[j] u2 w' → Calls Tryz.prog 9 #[.agg #[.int .i64 l[j].k, .int .i64 l[j].n, .int .i64 l[j].x, .string l[j].s, .slice u1.A u1.n u1.c], .agg #[.int .i64 m[j].k, .int .i64 m[j].n, .int .i64 m[j].x, .string m[j].s, .slice u2.A u2.n u2.c]] w' fun r w2 => r = .returned (.bool (sameT l[j] m[j])) ∧ Below w'.heap.size w' w2 :=
        fun w' hs => ih l[j] (List.getElem_mem hj1) m[j] u1 u2 w' hs.2.2.2.1 hs.2.2.2.2.1 (hU1.mono hs.2.2.2.2.2.size) (hU2.mono hs.2.2.2.2.2.size)
      have hnext : ∀ w1 w2, SameHeldL w w.heap.size (w.heap.size + 1) (.slice (some ⟨g1, o1, none⟩) m1 c1) (.slice (some ⟨g2, o2, none⟩) m1 c2) g1 (o1 + j * 5) l[j] u1 g2 (o2 + j * 5) m[j] u2 w1 → Below w1.heap.size w1 w2 → w.heap.size + 2 ≤ w1.heap.size → SameHeldL w w.heap.size (w.heap.size + 1) (.slice (some ⟨g1, o1, none⟩) m1 c1) (.slice (some ⟨g2, o2, none⟩) m1 c2) g1 (o1 + j * 5) l[j] u1 g2 (o2 + j * 5) m[j] u2 w2 := fun w1 w2 h hb hz => same_nextL (B := w.heap.size + 2) (by omega) (by omega) hG1 hG2 hU1 hU2 hz hb h
      have hS0 : SameHeldL w w.heap.size (w.heap.size + 1) (.slice (some ⟨g1, o1, none⟩) m1 c1) (.slice (some ⟨g2, o2, none⟩) m1 c2) g1 (o1 + j * 5) l[j] u1 g2 (o2 + j * 5) m[j] u2 wr.drew := hnext _ _ hS (Below.refl _ _).drew (by omega)
      have hS1 : SameHeldL w w.heap.size (w.heap.size + 1) (.slice (some ⟨g1, o1, none⟩) m1 c1) (.slice (some ⟨g2, o2, none⟩) m1 c2) g1 (o1 + j * 5) l[j] u1 g2 (o2 + j * 5) m[j] u2 wr.drew ∧ w.heap.size + 2 ≤ wr.drew.heap.size := ⟨hS0, by simp; omega⟩
      have hh := hH.out
      rw [sameL_step hj1 hj2] at hh
      have HH : Hid (R = (sameT l[j] m[j] && sameL (l.drop (j + 1)) (m.drop (j + 1)))) := Lib.hid hh
      have HJ := Lib.hid hjf
      have hS2 : ∀ w1 w2, Below w1.heap.size w1 w2 → (SameHeldL w w.heap.size (w.heap.size + 1) (.slice (some ⟨g1, o1, none⟩) m1 c1) (.slice (some ⟨g2, o2, none⟩) m1 c2) g1 (o1 + j * 5) l[j] u1 g2 (o2 + j * 5) m[j] u2 w1 ∧ w.heap.size + 2 ≤ w1.heap.size) → (SameHeldL w w.heap.size (w.heap.size + 1) (.slice (some ⟨g1, o1, none⟩) m1 c1) (.slice (some ⟨g2, o2, none⟩) m1 c2) g1 (o1 + j * 5) l[j] u1 g2 (o2 + j * 5) m[j] u2 w2 ∧ w.heap.size + 2 ≤ w2.heap.size) := fun w1 w2 hb h => ⟨hnext _ _ h.1 hb h.2, Nat.le_trans h.2 hb.size⟩
      clear ih hh hH hjf hx1 hx2 hch1 hch2 hbr ha hb hS hnext hS0
      cases hq : sameT l[j] m[j] with
      | false =>
        rw [hq] at hcall HH
        clear hq
        go_wp2_with fail
        go_region_held3 (fun w' => SameHeldL w w.heap.size (w.heap.size + 1) (.slice (some ⟨g1, o1, none⟩) m1 c1) (.slice (some ⟨g2, o2, none⟩) m1 c2) g1 (o1 + j * 5) l[j] u1 g2 (o2 + j * 5) m[j] u2 w' ∧ w.heap.size + 2 ≤ w'.heap.size)
          (first | exact hS1 | (refine hS2 _ _ hb2 ?_; assumption))
          (first | (go_at_call 9; refine (hcall _ (And.left (by assumption))).mono ?_; rintro r w2 ⟨rfl, hb2⟩))
        rename_i hHeld
        clear hcall hS1 hS2
        go_wp2
        go_ret
        exact ⟨ret_bool (by rw [HH.out]; rfl), hHeld.1.2.2.2.2.2⟩
      | true =>
        rw [hq] at hcall HH
        clear hq
        have HH2 : Hid (R = sameL (l.drop (j + 1)) (m.drop (j + 1))) := Lib.hid (by rw [HH.out]; rfl)
        clear HH
        go_wp2_with fail
        go_region_held3 (fun w' => SameHeldL w w.heap.size (w.heap.size + 1) (.slice (some ⟨g1, o1, none⟩) m1 c1) (.slice (some ⟨g2, o2, none⟩) m1 c2) g1 (o1 + j * 5) l[j] u1 g2 (o2 + j * 5) m[j] u2 w' ∧ w.heap.size + 2 ≤ w'.heap.size)
          (first | exact hS1 | (refine hS2 _ _ hb2 ?_; assumption))
          (first | (go_at_call 9; refine (hcall _ (And.left (by assumption))).mono ?_; rintro r w2 ⟨rfl, hb2⟩))
        rename_i hHeld
        clear hcall hS1 hS2
        go_wp2
        go_roundg f
        case measure => have := HJ.out; omega
        case rel => exact ⟨j + 1, by have := HJ.out; omega, by go_num, HH2, hHeld.1.1.1, hHeld.1.1.2, hHeld.2, hHeld.1.2.2.2.2.2⟩
    · have hh := hH.out
      rw [sameL_end (by omega) (by omega)] at hh
      have HH := Lib.hid hh
      have hjn : ¬ ((j : Int) < (m1 : Int)) := by omega
      clear hh hH
      go_wp2_with fail
      go_ret
      exact ⟨ret_bool HH.out.symm, hbr⟩
end Go.Proofs.YtmnlkedacnemcaaGreatDoor

namespace Go.Proofs.YtmnlkedacnemcaaGreatDoor
open Go.RowKit

theorem fltV_inj {a b a2 b2 : Int} {o o2 : Bool} (h : fltV a b o = fltV a2 b2 o2) : a = a2 ∧ b = b2 ∧ o = o2 := by
  simp [fltV] at h; exact ⟨h.1.1, h.1.2, h.2⟩
theorem fltNewV_ok {m e a b : Int} (h : fltNewV m e = fltV a b true) : fltOk a b = true := by
  unfold fltNewV fltNewIn at h
  split at h
  · split at h
    · obtain ⟨rfl, rfl, _⟩ := fltV_inj h; rfl
    · split at h
      · rename_i hk; obtain ⟨rfl, rfl, _⟩ := fltV_inj h; exact hk
      · exact absurd (fltV_inj h).2.2 (by decide)
  · exact absurd (fltV_inj h).2.2 (by decide)
theorem bitsFltV_ok {n a b : Int} (h : bitsFltV n = fltV a b true) : fltOk a b = true := by
  unfold bitsFltV at h
  split at h
  · exact fltNewV_ok h
  · exact absurd (fltV_inj h).2.2 (by decide)
theorem flt_odd {a e : Int} (h : fltOk a e = true) (h0 : a ≠ 0) : (a.tmod 2 == 0) = false := by
  unfold fltOk at h
  rw [if_neg h0, decide_eq_true_eq] at h
  have := tmod2 a
  simp only [beq_eq_false_iff_ne, ne_eq]
  intro h2
  exact h.1 (this.1 h2)
theorem bits_back {a e : Int} (h : fltOk a e = true) : bitsFltV (fltBits a e) = fltV a e true ∧ 0 ≤ fltBits a e ∧ fltBits a e < 33554432 := by
  obtain ⟨h1, h2, h3, h4⟩ := fltOk_bounds h
  rcases Int.lt_trichotomy a 0 with ha | ha | ha
  · rw [fltBits_neg h ha]
    refine ⟨?_, by omega, by omega⟩
    rw [bitsFltV_neg (by omega) (by omega), show -((65536 * (e + 16) + (16777216 - a)) % 65536) = a by omega, show (65536 * (e + 16) + (16777216 - a)) / 65536 % 256 - 16 = e by omega]
    exact fltNewV_yes ⟨by omega, by omega⟩ (by omega) (strip_odd (flt_odd h (by omega))) h
  · subst ha
    have he : e = 0 := by simpa [fltOk] using h
    subst he
    have hb : fltBits 0 0 = 1048576 := by decide
    rw [hb]
    refine ⟨?_, by decide, by decide⟩
    rw [bitsFltV_pos (by decide) (by decide)]
    exact fltNewV_zero (by decide)
  · rw [fltBits_pos h (by omega)]
    refine ⟨?_, by omega, by omega⟩
    rw [bitsFltV_pos (by omega) (by omega), show (65536 * (e + 16) + a) % 65536 = a by omega, show (65536 * (e + 16) + a) / 65536 % 256 - 16 = e by omega]
    exact fltNewV_yes ⟨by omega, by omega⟩ (by omega) (strip_odd (flt_odd h (by omega))) h
theorem l_big (A : Option Addr) (n c : Nat) (w : World) (hn : n ≤ 9223372036854775807) :
    Calls Tryz.prog 4 #[.slice A n c] w fun e w' => e = .returned (.bool (decide (1048576 < n))) ∧ w = w' := by
  by_cases h : 1048576 < n
  · have hi : (1048576 : Int) < (n : Int) := by omega
    go_enter Tryz.func4, Tryz.ntmps4
    go_wp2_with fail
    go_ret
    exact ⟨by simp [h], rfl⟩
  · have hi : ¬ (1048576 : Int) < (n : Int) := by omega
    go_enter Tryz.func4, Tryz.ntmps4
    go_wp2_with fail
    go_ret
    exact ⟨by simp [h], rfl⟩
end Go.Proofs.YtmnlkedacnemcaaGreatDoor
