/- The text of a step: stepText (impl), l8Text (spec). PathText (impl). -/
import Derived.Test.YtpafgmlkbbbmhaaDoorPqAtPath3
import Derived.Test.YtpafgmlkbbbmhaaDoorPqM22
set_option linter.unusedVariables false
set_option maxRecDepth 100000
set_option linter.unusedSimpArgs false
namespace Go.Proofs.YtpafgmlkbbbmhaaDoor
open Go.RowKit

def nameT (u : Tr) (a : Int) : List UInt8 := if u.k = 7 then 46 :: u.s.data.toList else 46 :: 35 :: numL a
def stepTxt (t : Tr) (p : Int × Bool) : List UInt8 :=
  if t.k = 10 then nameT (t.l.getD (2 * p.1).toNat zT) p.1 ++ (if p.2 = true then [126] else [])
  else if t.k = 11 then [33]
  else 91 :: (numL p.1 ++ [93])
theorem Blk.cells2v {w : World} {g : Nat} {T : TypeId} {a b : Value} (h : Blk w g T #[a, b]) : w.cell? ⟨g, 0, none⟩ = some a ∧ w.cell? ⟨g, 1, none⟩ = some b := ⟨h.cell 0, h.cell 1⟩
theorem dot_eq (s : ByteArray) : (⟨#[46]⟩ : ByteArray) ++ s = ⟨(46 :: s.data.toList).toArray⟩ := by
  have := ba_add [46] s.data.toList
  rw [show (⟨s.data.toList.toArray⟩ : ByteArray) = s by apply ByteArray.ext; simp] at this
  exact this
theorem hash_eq (l : List UInt8) : (⟨#[46, 35]⟩ : ByteArray) ++ (⟨l.toArray⟩ : ByteArray) = ⟨(46 :: 35 :: l).toArray⟩ := ba_add [46, 35] l
theorem tilde_eq (l : List UInt8) : (⟨l.toArray⟩ : ByteArray) ++ (⟨#[126]⟩ : ByteArray) = ⟨(l ++ [126]).toArray⟩ := ba_add l [126]
theorem brack_eq (l : List UInt8) : (⟨#[91]⟩ : ByteArray) ++ (⟨l.toArray⟩ : ByteArray) ++ (⟨#[93]⟩ : ByteArray) = ⟨(91 :: (l ++ [93])).toArray⟩ := by
  have h1 := ba_add [91] l
  have h2 := ba_add ([91] ++ l) [93]
  rw [← h1] at h2
  exact h2
set_option maxHeartbeats 2000000 in
theorem i_stepText (t : Tr) (e : El) (a : Int) (b : Bool) (w : World) (hl : LsAt w t.l e) (hel : e.lt w.heap.size) (hm : t.sz ≤ 1099511627776) (ha : -9223372036854775808 ≤ a ∧ a ≤ 9223372036854775807) (hk : t.k = 10 → 0 ≤ a ∧ 2 * a < t.l.length) (hP : PowT w) :
    Calls Tryd.prog 35 #[trV t e, .agg #[.int .i64 a, .bool b]] w fun r w' => r = .returned (.string ⟨(stepTxt t (a, b)).toArray⟩) ∧ Below w.heap.size w w' := by
  have hnl := numL_len ha
  have k2 := Below.two w (.cells (valCells t e) 26) (.cells #[.int .i64 a, .bool b] 34)
  have B1 : Blk ((w.alloc (.cells (valCells t e) 26)).alloc (.cells #[.int .i64 a, .bool b] 34)) w.heap.size 26 (valCells t e) := (Blk.new w _ _).alloc _
  have B2 : Blk ((w.alloc (.cells (valCells t e) 26)).alloc (.cells #[.int .i64 a, .bool b] 34)) (w.heap.size + 1) 34 #[.int .i64 a, .bool b] := by simpa using Blk.new (w.alloc (.cells (valCells t e) 26)) 34 #[.int .i64 a, .bool b]
  have hN : Calls Tryd.prog 48 #[.int .i64 a] ((w.alloc (.cells (valCells t e) 26)).alloc (.cells #[.int .i64 a, .bool b] 34)) (fun e2 w2 => e2 = .returned (.string ⟨(numL a).toArray⟩) ∧ Below ((w.alloc (.cells (valCells t e) 26)).alloc (.cells #[.int .i64 a, .bool b] 34)).heap.size ((w.alloc (.cells (valCells t e) 26)).alloc (.cells #[.int .i64 a, .bool b] 34)) w2) := i_NumText a _ ha (hP.below k2)
  have hLs := hl.below hel k2
  have helk := hel.mono k2.size
  have hlen := hl.len
  have hsz := t.sz_eq
  have hszl := szT_le t.l 0
  unfold stepTxt
  by_cases h10 : t.k = 10
  · rw [if_pos h10]
    obtain ⟨a0, a2⟩ := hk h10
    obtain ⟨i, hi⟩ : ∃ i : Nat, 2 * a = i := ⟨(2 * a).toNat, by omega⟩
    have hil : i < t.l.length := by omega
    have hgd : t.l.getD (2 * a).toNat zT = t.l[i] := by rw [hi, Int.toNat_natCast, List.getD_eq_getElem?_getD, List.getElem?_eq_getElem hil]; rfl
    rw [hgd]
    have hus := child_sz hil
    have hus2 := t.l[i].sz_eq
    have hEl := fun w1 (hb : Below ((w.alloc (.cells (valCells t e) 26)).alloc (.cells #[.int .i64 a, .bool b] 34)).heap.size ((w.alloc (.cells (valCells t e) 26)).alloc (.cells #[.int .i64 a, .bool b] 34)) w1) => (hLs.below helk hb).elem (j := i) (by omega)
    obtain ⟨k, n, x, s, l⟩ := t
    simp only at h10
    subst h10
    obtain ⟨eA, en, ec, efp⟩ := e
    have hin0 : (0 : Int) ≤ (i : Int) := by omega
    have hin : (i : Int) < (en : Int) := by have h9 : l.length = en := hlen; have h8 : i < l.length := hil; omega
    have henb : en ≤ 9223372036854775807 := by have h9 : l.length = en := hlen; have h7 : szT l 0 = szT l 0 := rfl; have := hLs.len; have h6 := ((lsAt_iff _ _).1 hLs).2.1; have h5 := ((lsAt_iff _ _).1 hLs).2.2.1; simp only at h5 h6; unfold maxLen at h5; omega
    obtain ⟨u, hu⟩ : ∃ u, l[i] = u := ⟨_, rfl⟩
    have hE2 : ∀ w1, Below ((w.alloc (.cells (valCells ⟨10, n, x, s, l⟩ ⟨eA, en, ec, efp⟩) 26)).alloc (.cells #[.int .i64 a, .bool b] 34)).heap.size ((w.alloc (.cells (valCells ⟨10, n, x, s, l⟩ ⟨eA, en, ec, efp⟩) 26)).alloc (.cells #[.int .i64 a, .bool b] 34)) w1 → ∃ g o v, eA = some ⟨g, o, none⟩ ∧ g ∈ efp ∧ Cells5 w1 g (o + i * 5) u v := fun w1 hb => by
      obtain ⟨g, o, v, hl', hA, hg, hc, _⟩ := hEl w1 hb
      rw [← hu]
      exact ⟨g, o, v, hA, hg, hc⟩
    have hus3 : u.s.size ≤ 1099511627776 := by rw [← hu]; have h4 : l[i].sz ≤ _ := hus; have h3 := l[i].sz_eq; omega
    show Calls _ _ _ _ fun r w' => r = .returned (.string ⟨(nameT l[i] a ++ (if b = true then [126] else [])).toArray⟩) ∧ _
    rw [hu]
    have hname : nameT u a = if u.k = 7 then 46 :: u.s.data.toList else 46 :: 35 :: numL a := rfl
    clear hEl hus hus2 hgd hu hk hil hlen hsz hszl hm a2 hLs helk hl hel
    have hb1 := B1
    have T2 : ∀ w1, Below ((w.alloc (.cells (valCells ⟨10, n, x, s, l⟩ ⟨eA, en, ec, efp⟩) 26)).alloc (.cells #[.int .i64 a, .bool b] 34)).heap.size ((w.alloc (.cells (valCells ⟨10, n, x, s, l⟩ ⟨eA, en, ec, efp⟩) 26)).alloc (.cells #[.int .i64 a, .bool b] 34)) w1 → w1.cell? ⟨w.heap.size + 1, 0, none⟩ = some (.int .i64 a) ∧ w1.cell? ⟨w.heap.size + 1, 1, none⟩ = some (.bool b) := fun w1 hb => (B2.below hb B2.lt).cells2v
    have T1 : ∀ w1, Below ((w.alloc (.cells (valCells ⟨10, n, x, s, l⟩ ⟨eA, en, ec, efp⟩) 26)).alloc (.cells #[.int .i64 a, .bool b] 34)).heap.size ((w.alloc (.cells (valCells ⟨10, n, x, s, l⟩ ⟨eA, en, ec, efp⟩) 26)).alloc (.cells #[.int .i64 a, .bool b] 34)) w1 → w1.cell? ⟨w.heap.size, 4, none⟩ = some (.slice eA en ec) := fun w1 hb => (B1.below hb B1.lt).cell 4
    obtain ⟨u0, hu0⟩ : ∃ z, nameT u a = z := ⟨_, rfl⟩
    clear hb1 B1 B2
    cases b
    all_goals
      by_cases h7 : u.k = 7
      · have hnm : nameT u a = 46 :: u.s.data.toList := by unfold nameT; rw [if_pos h7]
        rw [hnm]
        have h7b : (u.k == 7) = true := by rw [h7]; rfl
        clear hname hnm hu0 h7
        go_enter Tryd.func35, Tryd.ntmps35
        go_wp2_with (go_at_call 48; refine hN.mono ?_; rintro r w3 ⟨rfl, hb3⟩; have kk := k2.up hb3; have hz3 : w.heap.size + 1 < w3.heap.size := (by have := hb3.size; simp at this; omega); obtain ⟨d0, d1⟩ := T2 _ hb3; have d4 := T1 _ hb3; obtain ⟨g, o, v, rfl, hg, c0, c1, c2, c3, c4⟩ := hE2 _ hb3)
        go_ret
        exact ⟨ret_str (by first | exact dot_eq _ | exact hash_eq _ | (rw [dot_eq, tilde_eq]; rfl) | (rw [hash_eq, tilde_eq]; rfl)), by first | exact kk | exact kk.alloc (by have := kk.size; omega) _⟩
      · have hnm : nameT u a = 46 :: 35 :: numL a := by unfold nameT; rw [if_neg h7]
        rw [hnm]
        have h7b : (u.k == 7) = false := by simpa using h7
        clear hname hnm hu0 h7
        go_enter Tryd.func35, Tryd.ntmps35
        go_wp2_with (go_at_call 48; refine hN.mono ?_; rintro r w3 ⟨rfl, hb3⟩; have kk := k2.up hb3; have hz3 : w.heap.size + 1 < w3.heap.size := (by have := hb3.size; simp at this; omega); obtain ⟨d0, d1⟩ := T2 _ hb3; have d4 := T1 _ hb3; obtain ⟨g, o, v, rfl, hg, c0, c1, c2, c3, c4⟩ := hE2 _ hb3)
        go_ret
        exact ⟨ret_str (by first | exact dot_eq _ | exact hash_eq _ | (rw [dot_eq, tilde_eq]; rfl) | (rw [hash_eq, tilde_eq]; rfl)), by first | exact kk | exact kk.alloc (by have := kk.size; omega) _⟩
  · rw [if_neg h10]
    obtain ⟨k, n, x, s, l⟩ := t
    obtain ⟨eA, en, ec, efp⟩ := e
    simp only at h10
    have e10 : (k == 10) = false := by simpa using h10
    clear hk hLs helk hlen hsz hszl hl hel hm B1 B2
    by_cases h11 : k = 11
    · rw [if_pos h11]
      subst h11
      clear hN h10
      go_enter Tryd.func35, Tryd.ntmps35
      go_wp2_with fail
      go_ret
      exact ⟨rfl, k2⟩
    · rw [if_neg h11]
      have e11 : (k == 11) = false := by simpa using h11
      clear h11 h10
      go_enter Tryd.func35, Tryd.ntmps35
      go_wp2_with (go_at_call 48; refine hN.mono ?_; rintro r w3 ⟨rfl, hb3⟩; have kk := k2.up hb3)
      go_ret
      exact ⟨ret_str (by rw [← brack_eq]), kk⟩
set_option maxHeartbeats 2000000 in
theorem s_l8Text (t : Tr) (e : El) (a : Int) (b : Bool) (w : World) (hl : LsAt w t.l e) (hel : e.lt w.heap.size) (hm : t.sz ≤ 1099511627776) (ha : -9223372036854775808 ≤ a ∧ a ≤ 9223372036854775807) (hk : t.k = 10 → 0 ≤ a ∧ 2 * a < t.l.length) :
    Calls Tryd.prog 36 #[trV t e, .agg #[.int .i64 a, .bool b]] w fun r w' => r = .returned (.string ⟨(stepTxt t (a, b)).toArray⟩) ∧ Below w.heap.size w w' := by
  have hnl := numL_len ha
  have k2 := Below.two w (.cells (valCells t e) 26) (.cells #[.int .i64 a, .bool b] 34)
  have B1 : Blk ((w.alloc (.cells (valCells t e) 26)).alloc (.cells #[.int .i64 a, .bool b] 34)) w.heap.size 26 (valCells t e) := (Blk.new w _ _).alloc _
  have B2 : Blk ((w.alloc (.cells (valCells t e) 26)).alloc (.cells #[.int .i64 a, .bool b] 34)) (w.heap.size + 1) 34 #[.int .i64 a, .bool b] := by simpa using Blk.new (w.alloc (.cells (valCells t e) 26)) 34 #[.int .i64 a, .bool b]
  have hN : Calls Tryd.prog 49 #[.int .i64 a] ((w.alloc (.cells (valCells t e) 26)).alloc (.cells #[.int .i64 a, .bool b] 34)) (fun e2 w2 => e2 = .returned (.string ⟨(numL a).toArray⟩) ∧ Below ((w.alloc (.cells (valCells t e) 26)).alloc (.cells #[.int .i64 a, .bool b] 34)).heap.size ((w.alloc (.cells (valCells t e) 26)).alloc (.cells #[.int .i64 a, .bool b] 34)) w2) := s_NumText a _ ha
  have hLs := hl.below hel k2
  have helk := hel.mono k2.size
  have hlen := hl.len
  have hsz := t.sz_eq
  have hszl := szT_le t.l 0
  unfold stepTxt
  by_cases h10 : t.k = 10
  · rw [if_pos h10]
    obtain ⟨a0, a2⟩ := hk h10
    obtain ⟨i, hi⟩ : ∃ i : Nat, 2 * a = i := ⟨(2 * a).toNat, by omega⟩
    have hil : i < t.l.length := by omega
    have hgd : t.l.getD (2 * a).toNat zT = t.l[i] := by rw [hi, Int.toNat_natCast, List.getD_eq_getElem?_getD, List.getElem?_eq_getElem hil]; rfl
    rw [hgd]
    have hus := child_sz hil
    have hus2 := t.l[i].sz_eq
    have hEl := fun w1 (hb : Below ((w.alloc (.cells (valCells t e) 26)).alloc (.cells #[.int .i64 a, .bool b] 34)).heap.size ((w.alloc (.cells (valCells t e) 26)).alloc (.cells #[.int .i64 a, .bool b] 34)) w1) => (hLs.below helk hb).elem (j := i) (by omega)
    obtain ⟨k, n, x, s, l⟩ := t
    simp only at h10
    subst h10
    obtain ⟨eA, en, ec, efp⟩ := e
    have hin0 : (0 : Int) ≤ (i : Int) := by omega
    have hin : (i : Int) < (en : Int) := by have h9 : l.length = en := hlen; have h8 : i < l.length := hil; omega
    have henb : en ≤ 9223372036854775807 := by have h9 : l.length = en := hlen; have h7 : szT l 0 = szT l 0 := rfl; have := hLs.len; have h6 := ((lsAt_iff _ _).1 hLs).2.1; have h5 := ((lsAt_iff _ _).1 hLs).2.2.1; simp only at h5 h6; unfold maxLen at h5; omega
    obtain ⟨u, hu⟩ : ∃ u, l[i] = u := ⟨_, rfl⟩
    have hE2 : ∀ w1, Below ((w.alloc (.cells (valCells ⟨10, n, x, s, l⟩ ⟨eA, en, ec, efp⟩) 26)).alloc (.cells #[.int .i64 a, .bool b] 34)).heap.size ((w.alloc (.cells (valCells ⟨10, n, x, s, l⟩ ⟨eA, en, ec, efp⟩) 26)).alloc (.cells #[.int .i64 a, .bool b] 34)) w1 → ∃ g o v, eA = some ⟨g, o, none⟩ ∧ g ∈ efp ∧ Cells5 w1 g (o + i * 5) u v := fun w1 hb => by
      obtain ⟨g, o, v, hl', hA, hg, hc, _⟩ := hEl w1 hb
      rw [← hu]
      exact ⟨g, o, v, hA, hg, hc⟩
    have hus3 : u.s.size ≤ 1099511627776 := by rw [← hu]; have h4 : l[i].sz ≤ _ := hus; have h3 := l[i].sz_eq; omega
    show Calls _ _ _ _ fun r w' => r = .returned (.string ⟨(nameT l[i] a ++ (if b = true then [126] else [])).toArray⟩) ∧ _
    rw [hu]
    have hname : nameT u a = if u.k = 7 then 46 :: u.s.data.toList else 46 :: 35 :: numL a := rfl
    clear hEl hus hus2 hgd hu hk hil hlen hsz hszl hm a2 hLs helk hl hel
    have hb1 := B1
    have T2 : ∀ w1, Below ((w.alloc (.cells (valCells ⟨10, n, x, s, l⟩ ⟨eA, en, ec, efp⟩) 26)).alloc (.cells #[.int .i64 a, .bool b] 34)).heap.size ((w.alloc (.cells (valCells ⟨10, n, x, s, l⟩ ⟨eA, en, ec, efp⟩) 26)).alloc (.cells #[.int .i64 a, .bool b] 34)) w1 → w1.cell? ⟨w.heap.size + 1, 0, none⟩ = some (.int .i64 a) ∧ w1.cell? ⟨w.heap.size + 1, 1, none⟩ = some (.bool b) := fun w1 hb => (B2.below hb B2.lt).cells2v
    have T1 : ∀ w1, Below ((w.alloc (.cells (valCells ⟨10, n, x, s, l⟩ ⟨eA, en, ec, efp⟩) 26)).alloc (.cells #[.int .i64 a, .bool b] 34)).heap.size ((w.alloc (.cells (valCells ⟨10, n, x, s, l⟩ ⟨eA, en, ec, efp⟩) 26)).alloc (.cells #[.int .i64 a, .bool b] 34)) w1 → w1.cell? ⟨w.heap.size, 4, none⟩ = some (.slice eA en ec) := fun w1 hb => (B1.below hb B1.lt).cell 4
    obtain ⟨u0, hu0⟩ : ∃ z, nameT u a = z := ⟨_, rfl⟩
    clear hb1 B1 B2
    cases b
    all_goals
      by_cases h7 : u.k = 7
      · have hnm : nameT u a = 46 :: u.s.data.toList := by unfold nameT; rw [if_pos h7]
        rw [hnm]
        have h7b : (u.k == 7) = true := by rw [h7]; rfl
        clear hname hnm hu0 h7
        go_enter Tryd.func36, Tryd.ntmps36
        go_wp2_with (go_at_call 49; refine hN.mono ?_; rintro r w3 ⟨rfl, hb3⟩; have kk := k2.up hb3; have hz3 : w.heap.size + 1 < w3.heap.size := (by have := hb3.size; simp at this; omega); obtain ⟨d0, d1⟩ := T2 _ hb3; have d4 := T1 _ hb3; obtain ⟨g, o, v, rfl, hg, c0, c1, c2, c3, c4⟩ := hE2 _ hb3)
        go_ret
        exact ⟨ret_str (by first | exact dot_eq _ | exact hash_eq _ | (rw [dot_eq, tilde_eq]; rfl) | (rw [hash_eq, tilde_eq]; rfl)), by first | exact kk | exact kk.alloc (by have := kk.size; omega) _⟩
      · have hnm : nameT u a = 46 :: 35 :: numL a := by unfold nameT; rw [if_neg h7]
        rw [hnm]
        have h7b : (u.k == 7) = false := by simpa using h7
        clear hname hnm hu0 h7
        go_enter Tryd.func36, Tryd.ntmps36
        go_wp2_with (go_at_call 49; refine hN.mono ?_; rintro r w3 ⟨rfl, hb3⟩; have kk := k2.up hb3; have hz3 : w.heap.size + 1 < w3.heap.size := (by have := hb3.size; simp at this; omega); obtain ⟨d0, d1⟩ := T2 _ hb3; have d4 := T1 _ hb3; obtain ⟨g, o, v, rfl, hg, c0, c1, c2, c3, c4⟩ := hE2 _ hb3)
        go_ret
        exact ⟨ret_str (by first | exact dot_eq _ | exact hash_eq _ | (rw [dot_eq, tilde_eq]; rfl) | (rw [hash_eq, tilde_eq]; rfl)), by first | exact kk | exact kk.alloc (by have := kk.size; omega) _⟩
  · rw [if_neg h10]
    obtain ⟨k, n, x, s, l⟩ := t
    obtain ⟨eA, en, ec, efp⟩ := e
    simp only at h10
    have e10 : (k == 10) = false := by simpa using h10
    clear hk hLs helk hlen hsz hszl hl hel hm B1 B2
    by_cases h11 : k = 11
    · rw [if_pos h11]
      subst h11
      clear hN h10
      go_enter Tryd.func36, Tryd.ntmps36
      go_wp2_with fail
      go_ret
      exact ⟨rfl, k2⟩
    · rw [if_neg h11]
      have e11 : (k == 11) = false := by simpa using h11
      clear h11 h10
      go_enter Tryd.func36, Tryd.ntmps36
      go_wp2_with (go_at_call 49; refine hN.mono ?_; rintro r w3 ⟨rfl, hb3⟩; have kk := k2.up hb3)
      go_ret
      exact ⟨ret_str (by rw [← brack_eq]), kk⟩
end Go.Proofs.YtpafgmlkbbbmhaaDoor

namespace Go.Proofs.YtpafgmlkbbbmhaaDoor
open Go.RowKit

def pathTxt : Tr → List (Int × Bool) → List UInt8
  | _, [] => []
  | t, p :: ps => match stepT t p with
    | none => []
    | some u => stepTxt t p ++ pathTxt u ps
theorem pathTxt_nil (t : Tr) : pathTxt t [] = [] := by cases t; rfl
theorem pathTxt_no {t : Tr} {p : Int × Bool} {ps : List (Int × Bool)} (h : stepT t p = none) : pathTxt t (p :: ps) = [] := by simp [pathTxt, h]
theorem pathTxt_yes {t u : Tr} {p : Int × Bool} {ps : List (Int × Bool)} (h : stepT t p = some u) : pathTxt t (p :: ps) = stepTxt t p ++ pathTxt u ps := by simp [pathTxt, h]
theorem stepTxt_len {t : Tr} {p : Int × Bool} (hp : -9223372036854775808 ≤ p.1 ∧ p.1 ≤ 9223372036854775807) : (stepTxt t p).length ≤ t.sz + 25 := by
  have hn := numL_len hp
  have hg : (t.l.getD (2 * p.1).toNat zT).s.size ≤ t.sz := by
    rw [List.getD_eq_getElem?_getD]
    by_cases h : (2 * p.1).toNat < t.l.length
    · rw [List.getElem?_eq_getElem h, Option.getD_some]
      have h1 := child_sz h
      have h2 := t.l[(2 * p.1).toNat].sz_eq
      omega
    · rw [List.getElem?_eq_none (by omega)]
      exact Nat.zero_le _
  unfold stepTxt nameT
  have hb := blen_of (t.l.getD (2 * p.1).toNat zT).s
  (repeat' split) <;> simp only [List.length_append, List.length_cons, List.length_nil] <;> omega
theorem place_ok {k : Int} {n : Nat} {a : Int} {b : Bool} (h : 0 ≤ place k n a b) : k = 10 → 0 ≤ a ∧ 2 * a < n := by
  intro hk
  unfold place at h
  rw [if_pos hk] at h
  (repeat' split at h) <;> omega
set_option maxHeartbeats 1600000 in
theorem i_PathText (t : Tr) (e : El) (A : Option Addr) (m c : Nat) (ps : List (Int × Bool)) (w : World) (hl : LsAt w t.l e) (hel : e.lt w.heap.size) (hm : t.sz ≤ 1048576) (h : Sl w w.heap.size 2 A m c (stC ps)) (hmb : m ≤ 1048576) (hps : ∀ p ∈ ps, -9223372036854775808 ≤ p.1 ∧ p.1 ≤ 9223372036854775807) (hP : PowT w) :
    Calls Tryd.prog 20 #[trV t e, .slice A m c] w fun r w' => r = .returned (.string ⟨(36 :: pathTxt t ps).toArray⟩) ∧ Below w.heap.size w w' := by
  obtain ⟨R, hR⟩ : ∃ R, pathTxt t ps = R := ⟨_, rfl⟩
  rw [hR]
  have hpl := h.stlen
  have hR0 : Hid ([] ++ pathTxt t (ps.drop 0) = R) := by rw [List.drop_zero, List.nil_append]; exact Lib.hid hR
  have k1 := Below.one w (.cells (valCells t e) 26)
  have hV : Blk (w.alloc (.cells (valCells t e) 26)) w.heap.size 26 (valCells t e) := Blk.new w _ _
  have hl2 := hl.below hel k1
  clear hR
  go_enter Tryd.func20, Tryd.ntmps20
  go_wp2_with fail
  go_loopg [5, 7, 8, 11] m (fun f v5 v7 v8 z wr => ∃ (j : Nat) (q : Tr) (u : El) (b : List UInt8), j + f = m ∧ z = .int .i64 j ∧ v5 = .string ⟨(36 :: b).toArray⟩ ∧ Hid (b ++ pathTxt q (ps.drop j) = R) ∧ b.length ≤ 1048601 * j ∧ q.sz ≤ 1048576 ∧ LsAt wr q.l u ∧ u.lt w.heap.size ∧ Below w.heap.size w wr ∧ Blk wr w.heap.size 26 (valCells q u))
  case atStart => exact ⟨0, t, e, [], by omega, rfl, rfl, hR0, by simp, hm, hl2, hel, k1, hV⟩
  case round =>
    obtain ⟨j, q, u, b, hjf, rfl, rfl, hq, hbl, hqs, hql, hul, hk, hB⟩ := hrel
    clear hl2 hV hR0
    have hz : w.heap.size < wr.heap.size := hB.lt
    by_cases hlt : j < m
    · obtain ⟨f, rfl⟩ : ∃ f, gk = f + 1 := ⟨gk - 1, by omega⟩
      obtain ⟨g, o, hj, hA, hg, p0, p1⟩ := (h.below hk).stp hlt
      subst hA
      have hh := hq.out
      rw [drop_cons hj] at hh
      have hpb := hps _ (List.getElem_mem hj)
      obtain ⟨⟨pa, pb⟩, hp⟩ : ∃ p, ps[j] = p := ⟨_, rfl⟩
      rw [hp] at p0 p1 hh hpb
      simp only at p0 p1 hpb
      have hqn := hql.len
      have hszl := szT_le q.l 0
      have hsz := q.sz_eq
      have hix := fun o => i_index pa pb q u (wr.alloc o) (by omega)
      have hpc := place_lt q.k q.l.length pa pb
      have hok := fun h => place_ok (k := q.k) (n := q.l.length) (a := pa) (b := pb) h
      obtain ⟨P, hPl⟩ : ∃ P, place q.k q.l.length pa pb = P := ⟨_, rfl⟩
      rw [← hqn, hPl] at hix
      have hno := stepT_no (t := q) (p := (pa, pb)) hPl
      have hyes := fun (i : Nat) (h : P = i) (hi : i < q.l.length) => stepT_yes (t := q) (p := (pa, pb)) (j := i) (hPl.trans h) hi
      rw [hPl] at hpc hok
      clear hPl hq
      have hB1 := hB.alloc (.cells #[.int .i64 pa, .bool pb] 34)
      have hS1 : Blk (wr.alloc (.cells #[.int .i64 pa, .bool pb] 34)) wr.heap.size 34 #[.int .i64 pa, .bool pb] := Blk.new wr _ _
      obtain ⟨b0, b1, b2, b3, b4⟩ := hB1.boxV
      have kA := Below.one wr (.cells #[.int .i64 pa, .bool pb] 34)
      rcases hpc with hneg | ⟨hge, hlt2⟩
      · rw [pathTxt_no (hno (by omega)), List.append_nil] at hh
        subst hh
        have hneg2 : P < 0 := by omega
        clear hno hyes hql hok
        go_wp2_with (go_at_call 27; refine (hix _).mono ?_; rintro r w3 ⟨rfl, hb3⟩; have kk := hk.up (kA.up hb3))
        go_ret
        exact ⟨rfl, kk⟩
      · obtain ⟨i, rfl⟩ := Int.eq_ofNat_of_zero_le hge
        have hi : i < q.l.length := by omega
        have hst := hyes i rfl hi
        rw [pathTxt_yes hst, ← List.append_assoc] at hh
        have hsl := stepTxt_len (t := q) (p := (pa, pb)) hpb
        have hqs2 := Nat.le_trans (child_sz hi) hqs
        have hsT := fun w1 (hb : Below wr.heap.size wr w1) => i_stepText q u pa pb w1 (hql.below (hul.mono hk.size) hb) (hul.mono (Nat.le_trans hk.size hb.size)) (by omega) hpb (hok (by omega)) (hP.below (hk.up hb))
        obtain ⟨T, hT⟩ : ∃ T, stepTxt q (pa, pb) = T := ⟨_, rfl⟩
        rw [hT] at hsT hh hsl
        have HH := Lib.hid hh
        have hL := fun w1 (hb : Below wr.heap.size wr w1) => (hql.below (hul.mono hk.size) hb).elem (j := i) (by omega)
        obtain ⟨qA, qn, qc, qfp⟩ := u
        have hqn : q.l.length = qn := hqn
        subst hqn
        have hqc : q.l.length ≤ qc ∧ qc ≤ maxLen := ⟨((lsAt_iff _ _).1 hql).2.1, ((lsAt_iff _ _).1 hql).2.2.1⟩
        have hjf2 : j + 1 + f = m := by omega
        clear hno hyes hql hst hT hh hok hjf
        go_wp2_with (first
          | (go_at_call 27; refine (hix _).mono ?_; rintro r w3 ⟨rfl, hb3⟩; clear hix; have kb := kA.up hb3; have hB3 := hB1.below hb3 hB1.lt; have hS3 := hS1.below hb3 hS1.lt; obtain ⟨r0, r1⟩ := hS3.cells2v; obtain ⟨x0, x1, x2, x3, x4⟩ := hB3.boxV)
          | (go_at_call 35; refine (hsT _ kb).mono ?_; rintro r w4 ⟨rfl, hb4⟩; clear hsT x0 x1 x2 x3 x4 r0 r1; have kc := kb.up hb4; have kk := hk.up kc; have hB4 := hB3.below hb4 hB3.lt; obtain ⟨x0, x1, x2, x3, x4⟩ := hB4.boxV; obtain ⟨g2, o2, v, hi2, hAe, hgm, ⟨c0, c1, c2, c3, c4⟩, hch, hsub⟩ := hL w4 kc; replace hAe : qA = some ⟨g2, o2, none⟩ := hAe; subst hAe; obtain ⟨y0, y1, y2, y3, y4, ⟨s0, t0⟩, ⟨s1, t1⟩, ⟨s2, t2⟩, ⟨s3, t3⟩, s4, t4⟩ := hB4.five (o := 0) (by simp) (.int .i64 q.l[i].k) (.int .i64 q.l[i].n) (.int .i64 q.l[i].x) (.string q.l[i].s)))
        have hvl : v.lt w.heap.size := fun x hx => hul x (hsub x hx)
        have hB5 : Blk (set5 w4 w.heap.size 0 q.l[i] v) w.heap.size 26 (valCells q.l[i] v) := Blk.five_ hB4 q.l[i] v
        have hl5 : LsAt (set5 w4 w.heap.size 0 q.l[i] v) q.l[i].l v := hch.set5_ (fun hx => Nat.lt_irrefl _ (hvl _ hx))
        have hk5 : Below w.heap.size w (set5 w4 w.heap.size 0 q.l[i] v) := below_set5 kk (Nat.le_refl _)
        clear hL hB hB1 hB3 hS1 hS3 hB4 hch c0 c1 c2 c3 c4 x0 x1 x2 x3 x4 s0 t0 s1 t1 s2 t2 s3 t3 s4 t4 b0 b1 b2 b3 b4 p0 p1 hb3 kb kc kA
        go_roundg f
        case measure => omega
        case rel => exact ⟨j + 1, q.l[i], v, b ++ T, hjf2, by go_num, by rw [← List.cons_append, ← ba_add], HH, by rw [List.length_append]; omega, hqs2, hl5, hvl, hk5, hB5⟩
    · obtain rfl : j = m := by omega
      have hh := hq.out
      rw [List.drop_eq_nil_of_le (by omega), pathTxt_nil, List.append_nil] at hh
      subst hh
      clear hq
      go_wp2_with fail
      go_ret
      exact ⟨rfl, hk⟩
end Go.Proofs.YtpafgmlkbbbmhaaDoor
