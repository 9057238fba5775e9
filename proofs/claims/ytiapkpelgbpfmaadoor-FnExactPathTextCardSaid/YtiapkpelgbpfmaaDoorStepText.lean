/- The text of a step: stepText (impl), l8Text (spec). -/
import Derived.Test.YtiapkpelgbpfmaaDoorAtPath3
import Derived.Test.YtiapkpelgbpfmaaDoorNumText
set_option linter.unusedVariables false
set_option maxRecDepth 100000
set_option linter.unusedSimpArgs false
namespace Go.Proofs.YtiapkpelgbpfmaaDoor
open Go.RowKit

def nameT (u : Tr) (a : Int) : List UInt8 := if u.k = 7 then 46 :: u.s.data.toList else 46 :: 35 :: numL a
def stepTxt (t : Tr) (p : Int × Bool) : List UInt8 :=
  if t.k = 10 then nameT (t.l.getD (2 * p.1).toNat zT) p.1 ++ (if p.2 = true then [126] else [])
  else if t.k = 11 then [33]
  else 91 :: (numL p.1 ++ [93])
theorem Blk.cells2v {w : World} {g : Nat} {T : TypeId} {a b : Value} (h : Blk w g T #[a, b]) : w.cell? ⟨g, 0, none⟩ = some a ∧ w.cell? ⟨g, 1, none⟩ = some b := ⟨h.cell 0, h.cell 1⟩
theorem dot_eq (s : ByteArray) : (⟨#[46]⟩ : ByteArray) ++ s = ⟨(46 :: s.data.toList).toArray⟩ := by
  have := ba_add [46] s.data.toList
  rw [show (⟨s.data.toList.toArray⟩ : ByteArray) = s by apply ByteArray.ext; simp] at this
  exact this
theorem hash_eq (l : List UInt8) : (⟨#[46, 35]⟩ : ByteArray) ++ (⟨l.toArray⟩ : ByteArray) = ⟨(46 :: 35 :: l).toArray⟩ := ba_add [46, 35] l
theorem tilde_eq (l : List UInt8) : (⟨l.toArray⟩ : ByteArray) ++ (⟨#[126]⟩ : ByteArray) = ⟨(l ++ [126]).toArray⟩ := ba_add l [126]
theorem brack_eq (l : List UInt8) : (⟨#[91]⟩ : ByteArray) ++ (⟨l.toArray⟩ : ByteArray) ++ (⟨#[93]⟩ : ByteArray) = ⟨(91 :: (l ++ [93])).toArray⟩ := by
  have h1 := ba_add [91] l
  have h2 := ba_add ([91] ++ l) [93]
  rw [← h1] at h2
  exact h2
set_option maxHeartbeats 2000000 in
theorem i_stepText (t : Tr) (e : El) (a : Int) (b : Bool) (w : World) (hl : LsAt w t.l e) (hel : e.lt w.heap.size) (hm : t.sz ≤ 1099511627776) (ha : -9223372036854775808 ≤ a ∧ a ≤ 9223372036854775807) (hk : t.k = 10 → 0 ≤ a ∧ 2 * a < t.l.length) (hP : PowT w) :
    Calls Tryd.prog 63 #[trV t e, .agg #[.int .i64 a, .bool b]] w fun r w' => r = .returned (.string ⟨(stepTxt t (a, b)).toArray⟩) ∧ Below w.heap.size w w' := by
  have hnl := numL_len ha
  have k2 := Below.two w (.cells (valCells t e) 36) (.cells #[.int .i64 a, .bool b] 79)
  have B1 : Blk ((w.alloc (.cells (valCells t e) 36)).alloc (.cells #[.int .i64 a, .bool b] 79)) w.heap.size 36 (valCells t e) := (Blk.new w _ _).alloc _
  have B2 : Blk ((w.alloc (.cells (valCells t e) 36)).alloc (.cells #[.int .i64 a, .bool b] 79)) (w.heap.size + 1) 79 #[.int .i64 a, .bool b] := by simpa using Blk.new (w.alloc (.cells (valCells t e) 36)) 79 #[.int .i64 a, .bool b]
  have hN : Calls Tryd.prog 67 #[.int .i64 a] ((w.alloc (.cells (valCells t e) 36)).alloc (.cells #[.int .i64 a, .bool b] 79)) (fun e2 w2 => e2 = .returned (.string ⟨(numL a).toArray⟩) ∧ Below ((w.alloc (.cells (valCells t e) 36)).alloc (.cells #[.int .i64 a, .bool b] 79)).heap.size ((w.alloc (.cells (valCells t e) 36)).alloc (.cells #[.int .i64 a, .bool b] 79)) w2) := i_NumText a _ ha (hP.below k2)
  have hLs := hl.below hel k2
  have helk := hel.mono k2.size
  have hlen := hl.len
  have hsz := t.sz_eq
  have hszl := szT_le t.l 0
  unfold stepTxt
  by_cases h10 : t.k = 10
  · rw [if_pos h10]
    obtain ⟨a0, a2⟩ := hk h10
    obtain ⟨i, hi⟩ : ∃ i : Nat, 2 * a = i := ⟨(2 * a).toNat, by omega⟩
    have hil : i < t.l.length := by omega
    have hgd : t.l.getD (2 * a).toNat zT = t.l[i] := by rw [hi, Int.toNat_natCast, List.getD_eq_getElem?_getD, List.getElem?_eq_getElem hil]; rfl
    rw [hgd]
    have hus := child_sz hil
    have hus2 := t.l[i].sz_eq
    have hEl := fun w1 (hb : Below ((w.alloc (.cells (valCells t e) 36)).alloc (.cells #[.int .i64 a, .bool b] 79)).heap.size ((w.alloc (.cells (valCells t e) 36)).alloc (.cells #[.int .i64 a, .bool b] 79)) w1) => (hLs.below helk hb).elem (j := i) (by omega)
    obtain ⟨k, n, x, s, l⟩ := t
    simp only at h10
    subst h10
    obtain ⟨eA, en, ec, efp⟩ := e
    have hin0 : (0 : Int) ≤ (i : Int) := by omega
    have hin : (i : Int) < (en : Int) := by have h9 : l.length = en := hlen; have h8 : i < l.length := hil; omega
    have henb : en ≤ 9223372036854775807 := by have h9 : l.length = en := hlen; have h7 : szT l 0 = szT l 0 := rfl; have := hLs.len; have h6 := ((lsAt_iff _ _).1 hLs).2.1; have h5 := ((lsAt_iff _ _).1 hLs).2.2.1; simp only at h5 h6; unfold maxLen at h5; omega
    obtain ⟨u, hu⟩ : ∃ u, l[i] = u := ⟨_, rfl⟩
    have hE2 : ∀ w1, Below ((w.alloc (.cells (valCells ⟨10, n, x, s, l⟩ ⟨eA, en, ec, efp⟩) 36)).alloc (.cells #[.int .i64 a, .bool b] 79)).heap.size ((w.alloc (.cells (valCells ⟨10, n, x, s, l⟩ ⟨eA, en, ec, efp⟩) 36)).alloc (.cells #[.int .i64 a, .bool b] 79)) w1 → ∃ g o v, eA = some ⟨g, o, none⟩ ∧ g ∈ efp ∧ Cells5 w1 g (o + i * 5) u v := fun w1 hb => by
      obtain ⟨g, o, v, hl', hA, hg, hc, _⟩ := hEl w1 hb
      rw [← hu]
      exact ⟨g, o, v, hA, hg, hc⟩
    have hus3 : u.s.size ≤ 1099511627776 := by rw [← hu]; have h4 : l[i].sz ≤ _ := hus; have h3 := l[i].sz_eq; omega
    show Calls _ _ _ _ fun r w' => r = .returned (.string ⟨(nameT l[i] a ++ (if b = true then [126] else [])).toArray⟩) ∧ _
    rw [hu]
    have hname : nameT u a = if u.k = 7 then 46 :: u.s.data.toList else 46 :: 35 :: numL a := rfl
    clear hEl hus hus2 hgd hu hk hil hlen hsz hszl hm a2 hLs helk hl hel
    have hb1 := B1
    have T2 : ∀ w1, Below ((w.alloc (.cells (valCells ⟨10, n, x, s, l⟩ ⟨eA, en, ec, efp⟩) 36)).alloc (.cells #[.int .i64 a, .bool b] 79)).heap.size ((w.alloc (.cells (valCells ⟨10, n, x, s, l⟩ ⟨eA, en, ec, efp⟩) 36)).alloc (.cells #[.int .i64 a, .bool b] 79)) w1 → w1.cell? ⟨w.heap.size + 1, 0, none⟩ = some (.int .i64 a) ∧ w1.cell? ⟨w.heap.size + 1, 1, none⟩ = some (.bool b) := fun w1 hb => (B2.below hb B2.lt).cells2v
    have T1 : ∀ w1, Below ((w.alloc (.cells (valCells ⟨10, n, x, s, l⟩ ⟨eA, en, ec, efp⟩) 36)).alloc (.cells #[.int .i64 a, .bool b] 79)).heap.size ((w.alloc (.cells (valCells ⟨10, n, x, s, l⟩ ⟨eA, en, ec, efp⟩) 36)).alloc (.cells #[.int .i64 a, .bool b] 79)) w1 → w1.cell? ⟨w.heap.size, 4, none⟩ = some (.slice eA en ec) := fun w1 hb => (B1.below hb B1.lt).cell 4
    obtain ⟨u0, hu0⟩ : ∃ z, nameT u a = z := ⟨_, rfl⟩
    clear hb1 B1 B2
    cases b
    all_goals
      by_cases h7 : u.k = 7
      · have hnm : nameT u a = 46 :: u.s.data.toList := by unfold nameT; rw [if_pos h7]
        rw [hnm]
        have h7b : (u.k == 7) = true := by rw [h7]; rfl
        clear hname hnm hu0 h7
        go_enter Tryd.func63, Tryd.ntmps63
        go_wp2_with (go_at_call 67; refine hN.mono ?_; rintro r w3 ⟨rfl, hb3⟩; have kk := k2.up hb3; have hz3 : w.heap.size + 1 < w3.heap.size := (by have := hb3.size; simp at this; omega); obtain ⟨d0, d1⟩ := T2 _ hb3; have d4 := T1 _ hb3; obtain ⟨g, o, v, rfl, hg, c0, c1, c2, c3, c4⟩ := hE2 _ hb3)
        go_ret
        exact ⟨ret_str (by first | exact dot_eq _ | exact hash_eq _ | (rw [dot_eq, tilde_eq]; rfl) | (rw [hash_eq, tilde_eq]; rfl)), by first | exact kk | exact kk.alloc (by have := kk.size; omega) _⟩
      · have hnm : nameT u a = 46 :: 35 :: numL a := by unfold nameT; rw [if_neg h7]
        rw [hnm]
        have h7b : (u.k == 7) = false := by simpa using h7
        clear hname hnm hu0 h7
        go_enter Tryd.func63, Tryd.ntmps63
        go_wp2_with (go_at_call 67; refine hN.mono ?_; rintro r w3 ⟨rfl, hb3⟩; have kk := k2.up hb3; have hz3 : w.heap.size + 1 < w3.heap.size := (by have := hb3.size; simp at this; omega); obtain ⟨d0, d1⟩ := T2 _ hb3; have d4 := T1 _ hb3; obtain ⟨g, o, v, rfl, hg, c0, c1, c2, c3, c4⟩ := hE2 _ hb3)
        go_ret
        exact ⟨ret_str (by first | exact dot_eq _ | exact hash_eq _ | (rw [dot_eq, tilde_eq]; rfl) | (rw [hash_eq, tilde_eq]; rfl)), by first | exact kk | exact kk.alloc (by have := kk.size; omega) _⟩
  · rw [if_neg h10]
    obtain ⟨k, n, x, s, l⟩ := t
    obtain ⟨eA, en, ec, efp⟩ := e
    simp only at h10
    have e10 : (k == 10) = false := by simpa using h10
    clear hk hLs helk hlen hsz hszl hl hel hm B1 B2
    by_cases h11 : k = 11
    · rw [if_pos h11]
      subst h11
      clear hN h10
      go_enter Tryd.func63, Tryd.ntmps63
      go_wp2_with fail
      go_ret
      exact ⟨rfl, k2⟩
    · rw [if_neg h11]
      have e11 : (k == 11) = false := by simpa using h11
      clear h11 h10
      go_enter Tryd.func63, Tryd.ntmps63
      go_wp2_with (go_at_call 67; refine hN.mono ?_; rintro r w3 ⟨rfl, hb3⟩; have kk := k2.up hb3)
      go_ret
      exact ⟨ret_str (by rw [← brack_eq]), kk⟩
set_option maxHeartbeats 2000000 in
theorem s_l8Text (t : Tr) (e : El) (a : Int) (b : Bool) (w : World) (hl : LsAt w t.l e) (hel : e.lt w.heap.size) (hm : t.sz ≤ 1099511627776) (ha : -9223372036854775808 ≤ a ∧ a ≤ 9223372036854775807) (hk : t.k = 10 → 0 ≤ a ∧ 2 * a < t.l.length) :
    Calls Tryd.prog 59 #[trV t e, .agg #[.int .i64 a, .bool b]] w fun r w' => r = .returned (.string ⟨(stepTxt t (a, b)).toArray⟩) ∧ Below w.heap.size w w' := by
  have hnl := numL_len ha
  have k2 := Below.two w (.cells (valCells t e) 36) (.cells #[.int .i64 a, .bool b] 79)
  have B1 : Blk ((w.alloc (.cells (valCells t e) 36)).alloc (.cells #[.int .i64 a, .bool b] 79)) w.heap.size 36 (valCells t e) := (Blk.new w _ _).alloc _
  have B2 : Blk ((w.alloc (.cells (valCells t e) 36)).alloc (.cells #[.int .i64 a, .bool b] 79)) (w.heap.size + 1) 79 #[.int .i64 a, .bool b] := by simpa using Blk.new (w.alloc (.cells (valCells t e) 36)) 79 #[.int .i64 a, .bool b]
  have hN : Calls Tryd.prog 66 #[.int .i64 a] ((w.alloc (.cells (valCells t e) 36)).alloc (.cells #[.int .i64 a, .bool b] 79)) (fun e2 w2 => e2 = .returned (.string ⟨(numL a).toArray⟩) ∧ Below ((w.alloc (.cells (valCells t e) 36)).alloc (.cells #[.int .i64 a, .bool b] 79)).heap.size ((w.alloc (.cells (valCells t e) 36)).alloc (.cells #[.int .i64 a, .bool b] 79)) w2) := s_NumText a _ ha
  have hLs := hl.below hel k2
  have helk := hel.mono k2.size
  have hlen := hl.len
  have hsz := t.sz_eq
  have hszl := szT_le t.l 0
  unfold stepTxt
  by_cases h10 : t.k = 10
  · rw [if_pos h10]
    obtain ⟨a0, a2⟩ := hk h10
    obtain ⟨i, hi⟩ : ∃ i : Nat, 2 * a = i := ⟨(2 * a).toNat, by omega⟩
    have hil : i < t.l.length := by omega
    have hgd : t.l.getD (2 * a).toNat zT = t.l[i] := by rw [hi, Int.toNat_natCast, List.getD_eq_getElem?_getD, List.getElem?_eq_getElem hil]; rfl
    rw [hgd]
    have hus := child_sz hil
    have hus2 := t.l[i].sz_eq
    have hEl := fun w1 (hb : Below ((w.alloc (.cells (valCells t e) 36)).alloc (.cells #[.int .i64 a, .bool b] 79)).heap.size ((w.alloc (.cells (valCells t e) 36)).alloc (.cells #[.int .i64 a, .bool b] 79)) w1) => (hLs.below helk hb).elem (j := i) (by omega)
    obtain ⟨k, n, x, s, l⟩ := t
    simp only at h10
    subst h10
    obtain ⟨eA, en, ec, efp⟩ := e
    have hin0 : (0 : Int) ≤ (i : Int) := by omega
    have hin : (i : Int) < (en : Int) := by have h9 : l.length = en := hlen; have h8 : i < l.length := hil; omega
    have henb : en ≤ 9223372036854775807 := by have h9 : l.length = en := hlen; have h7 : szT l 0 = szT l 0 := rfl; have := hLs.len; have h6 := ((lsAt_iff _ _).1 hLs).2.1; have h5 := ((lsAt_iff _ _).1 hLs).2.2.1; simp only at h5 h6; unfold maxLen at h5; omega
    obtain ⟨u, hu⟩ : ∃ u, l[i] = u := ⟨_, rfl⟩
    have hE2 : ∀ w1, Below ((w.alloc (.cells (valCells ⟨10, n, x, s, l⟩ ⟨eA, en, ec, efp⟩) 36)).alloc (.cells #[.int .i64 a, .bool b] 79)).heap.size ((w.alloc (.cells (valCells ⟨10, n, x, s, l⟩ ⟨eA, en, ec, efp⟩) 36)).alloc (.cells #[.int .i64 a, .bool b] 79)) w1 → ∃ g o v, eA = some ⟨g, o, none⟩ ∧ g ∈ efp ∧ Cells5 w1 g (o + i * 5) u v := fun w1 hb => by
      obtain ⟨g, o, v, hl', hA, hg, hc, _⟩ := hEl w1 hb
      rw [← hu]
      exact ⟨g, o, v, hA, hg, hc⟩
    have hus3 : u.s.size ≤ 1099511627776 := by rw [← hu]; have h4 : l[i].sz ≤ _ := hus; have h3 := l[i].sz_eq; omega
    show Calls _ _ _ _ fun r w' => r = .returned (.string ⟨(nameT l[i] a ++ (if b = true then [126] else [])).toArray⟩) ∧ _
    rw [hu]
    have hname : nameT u a = if u.k = 7 then 46 :: u.s.data.toList else 46 :: 35 :: numL a := rfl
    clear hEl hus hus2 hgd hu hk hil hlen hsz hszl hm a2 hLs helk hl hel
    have hb1 := B1
    have T2 : ∀ w1, Below ((w.alloc (.cells (valCells ⟨10, n, x, s, l⟩ ⟨eA, en, ec, efp⟩) 36)).alloc (.cells #[.int .i64 a, .bool b] 79)).heap.size ((w.alloc (.cells (valCells ⟨10, n, x, s, l⟩ ⟨eA, en, ec, efp⟩) 36)).alloc (.cells #[.int .i64 a, .bool b] 79)) w1 → w1.cell? ⟨w.heap.size + 1, 0, none⟩ = some (.int .i64 a) ∧ w1.cell? ⟨w.heap.size + 1, 1, none⟩ = some (.bool b) := fun w1 hb => (B2.below hb B2.lt).cells2v
    have T1 : ∀ w1, Below ((w.alloc (.cells (valCells ⟨10, n, x, s, l⟩ ⟨eA, en, ec, efp⟩) 36)).alloc (.cells #[.int .i64 a, .bool b] 79)).heap.size ((w.alloc (.cells (valCells ⟨10, n, x, s, l⟩ ⟨eA, en, ec, efp⟩) 36)).alloc (.cells #[.int .i64 a, .bool b] 79)) w1 → w1.cell? ⟨w.heap.size, 4, none⟩ = some (.slice eA en ec) := fun w1 hb => (B1.below hb B1.lt).cell 4
    obtain ⟨u0, hu0⟩ : ∃ z, nameT u a = z := ⟨_, rfl⟩
    clear hb1 B1 B2
    cases b
    all_goals
      by_cases h7 : u.k = 7
      · have hnm : nameT u a = 46 :: u.s.data.toList := by unfold nameT; rw [if_pos h7]
        rw [hnm]
        have h7b : (u.k == 7) = true := by rw [h7]; rfl
        clear hname hnm hu0 h7
        go_enter Tryd.func59, Tryd.ntmps59
        go_wp2_with (go_at_call 66; refine hN.mono ?_; rintro r w3 ⟨rfl, hb3⟩; have kk := k2.up hb3; have hz3 : w.heap.size + 1 < w3.heap.size := (by have := hb3.size; simp at this; omega); obtain ⟨d0, d1⟩ := T2 _ hb3; have d4 := T1 _ hb3; obtain ⟨g, o, v, rfl, hg, c0, c1, c2, c3, c4⟩ := hE2 _ hb3)
        go_ret
        exact ⟨ret_str (by first | exact dot_eq _ | exact hash_eq _ | (rw [dot_eq, tilde_eq]; rfl) | (rw [hash_eq, tilde_eq]; rfl)), by first | exact kk | exact kk.alloc (by have := kk.size; omega) _⟩
      · have hnm : nameT u a = 46 :: 35 :: numL a := by unfold nameT; rw [if_neg h7]
        rw [hnm]
        have h7b : (u.k == 7) = false := by simpa using h7
        clear hname hnm hu0 h7
        go_enter Tryd.func59, Tryd.ntmps59
        go_wp2_with (go_at_call 66; refine hN.mono ?_; rintro r w3 ⟨rfl, hb3⟩; have kk := k2.up hb3; have hz3 : w.heap.size + 1 < w3.heap.size := (by have := hb3.size; simp at this; omega); obtain ⟨d0, d1⟩ := T2 _ hb3; have d4 := T1 _ hb3; obtain ⟨g, o, v, rfl, hg, c0, c1, c2, c3, c4⟩ := hE2 _ hb3)
        go_ret
        exact ⟨ret_str (by first | exact dot_eq _ | exact hash_eq _ | (rw [dot_eq, tilde_eq]; rfl) | (rw [hash_eq, tilde_eq]; rfl)), by first | exact kk | exact kk.alloc (by have := kk.size; omega) _⟩
  · rw [if_neg h10]
    obtain ⟨k, n, x, s, l⟩ := t
    obtain ⟨eA, en, ec, efp⟩ := e
    simp only at h10
    have e10 : (k == 10) = false := by simpa using h10
    clear hk hLs helk hlen hsz hszl hl hel hm B1 B2
    by_cases h11 : k = 11
    · rw [if_pos h11]
      subst h11
      clear hN h10
      go_enter Tryd.func59, Tryd.ntmps59
      go_wp2_with fail
      go_ret
      exact ⟨rfl, k2⟩
    · rw [if_neg h11]
      have e11 : (k == 11) = false := by simpa using h11
      clear h11 h10
      go_enter Tryd.func59, Tryd.ntmps59
      go_wp2_with (go_at_call 66; refine hN.mono ?_; rintro r w3 ⟨rfl, hb3⟩; have kk := k2.up hb3)
      go_ret
      exact ⟨ret_str (by rw [← brack_eq]), kk⟩
end Go.Proofs.YtiapkpelgbpfmaaDoor
