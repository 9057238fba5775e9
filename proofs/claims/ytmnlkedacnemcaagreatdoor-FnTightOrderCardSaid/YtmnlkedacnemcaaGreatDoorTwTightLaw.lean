/- The law FnTightOrder. Written by gen/tightlaw.py. -/
import Derived.Test.YtmnlkedacnemcaaGreatDoorTwNmDraws
import Derived.Test.YtmnlkedacnemcaaGreatDoorTwM40
import Derived.Test.YtmnlkedacnemcaaGreatDoorTwSortMap
import Derived.Test.YtmnlkedacnemcaaGreatDoorTwSortTightS
import Derived.Test.YtmnlkedacnemcaaGreatDoorTwM47
import Derived.Test.YtmnlkedacnemcaaGreatDoorTwM48
set_option linter.unusedVariables false
set_option maxRecDepth 100000
set_option linter.unusedSimpArgs false
namespace Go.Proofs.YtmnlkedacnemcaaGreatDoor
open Go.RowKit

/-- A tree in a box of five cells. -/
structure TB (w : World) (g : Nat) (t : Tr) (e : El) : Prop where
  blk : Blk w g 26 (valCells t e)
  ls : LsAt w t.l e
  lt : e.lt w.heap.size
theorem TB.below {w w' : World} {g : Nat} {t : Tr} {e : El} (h : TB w g t e) (hb : Below w.heap.size w w') : TB w' g t e := ⟨h.blk.below hb h.blk.lt, h.ls.below h.lt hb, h.lt.mono hb.size⟩
theorem TB.new {w : World} {t : Tr} {e : El} (hl : LsAt w t.l e) (ht : e.lt w.heap.size) : TB (w.alloc (.cells (valCells t e) 26)) w.heap.size t e :=
  ⟨Blk.new w _ _, hl.below ht (Below.one _ _), ht.mono (Below.one _ _).size⟩
theorem sameT_rfl (t : Tr) : sameT t t = true := sameT_iff.2 rfl
theorem same_tb {w : World} {g1 g2 : Nat} {t : Tr} {e1 e2 : El} (h1 : TB w g1 t e1) (h2 : TB w g2 t e2) : Calls Tryz.prog 9 #[trV t e1, trV t e2] w fun r w' => r = .returned (.bool true) ∧ Below w.heap.size w w' := by
  have h := l_sameVal t t e1 e2 w h1.ls h2.ls h1.lt h2.lt
  rw [sameT_rfl] at h
  exact h
/-- A tree returned, somewhere. -/
def TrOnly (w w' : World) (r : Ending) (t : Tr) : Prop := ∃ u : El, r = .returned (trV t u) ∧ LsAt w' t.l u ∧ u.lt w'.heap.size ∧ Below w.heap.size w w'
theorem CopyOf.only {w w' : World} {r : Ending} {t : Tr} (h : CopyOf w w' r t) : TrOnly w w' r t := by
  obtain ⟨u, h1, h2, h3, h4⟩ := h
  exact ⟨u, h1, h2, fun x hx => h3.lt hx, h4⟩
theorem row_bel {w w' : World} {g o : Nat} {t : Tr} {e : El} (hg : g < w.heap.size) (h : Cells5 w g o t e) (hb : Below w.heap.size w w') : RowV w' g o t e := by
  obtain ⟨c0, c1, c2, c3, c4⟩ := h
  exact ⟨(hb.cell (p := ⟨g, _, none⟩) hg).trans c0, (hb.cell (p := ⟨g, _, none⟩) hg).trans c1, (hb.cell (p := ⟨g, _, none⟩) hg).trans c2, (hb.cell (p := ⟨g, _, none⟩) hg).trans c3, (hb.cell (p := ⟨g, _, none⟩) hg).trans c4⟩
def BoolB (w w' : World) (r : Ending) (b : Bool) : Prop := r = .returned (.bool b) ∧ Below w.heap.size w w'
theorem BoolB.here {w w' : World} {r : Ending} {b : Bool} (h : r = .returned (.bool b) ∧ w = w') : BoolB w w' r b := ⟨h.1, h.2 ▸ Below.refl _ _⟩
theorem BoolB.drawn {w w' : World} {r : Ending} {b : Bool} (h : r = .returned (.bool b) ∧ Drawn w w') : BoolB w w' r b := ⟨h.1, h.2.below _⟩
theorem same_at {w : World} {t : Tr} {e1 e2 : El} (h1 : LsAt w t.l e1) (h2 : LsAt w t.l e2) (l1 : e1.lt w.heap.size) (l2 : e2.lt w.heap.size) : Calls Tryz.prog 9 #[trV t e1, trV t e2] w fun r w' => r = .returned (.bool true) ∧ Below w.heap.size w w' := by
  have h := l_sameVal t t e1 e2 w h1 h2 l1 l2
  rw [sameT_rfl] at h
  exact h
set_option maxHeartbeats 16000000 in
theorem law_FnTightOrder (A : Option Addr) (n c : Nat) (b : List UInt8) (w : World) (h : Sl w w.heap.size 1 A n c (u8s b)) :
    Calls Tryz.prog 3 #[.slice A n c] w fun e' w' => e' = .returned (.bool true) ∧ Below w.heap.size w w' := by
  have hn9 : n ≤ 9223372036854775807 := by have := h.cap; have := h.max; unfold maxLen at *; omega
  have hbig := fun w1 => l_big A n c w1 hn9
  by_cases hn : 1048576 < n
  · rw [decide_eq_true hn] at hbig
    go_enter Tryz.func3, Tryz.ntmps3
    go_wp2_with (go_at_call 4; refine (hbig _).mono ?_; rintro e w1 ⟨rfl, rfl⟩)
    go_ret
    exact ⟨rfl, Below.refl _ _⟩
  · rw [decide_eq_false hn] at hbig
    have hnn : n ≤ 1048576 := by omega
    clear hn hn9
    go_enter Tryz.func3, Tryz.ntmps3
    go_wp2_with fail
    refine (hbig _).mono ?_; rintro e w1 ⟨rfl, rfl⟩
    clear hbig
    go_wp2_with fail
    refine (s_DrawSortTight A n c b _ h hnn).mono ?_; rintro r w1 ⟨v, e, rfl, hlv, hte, hvs, hb1⟩
    have kq := Below.one w1 (.cells (valCells v e) 26)
    have kr := hb1.up kq
    replace h := (h.below kr).more kr.size
    have TV := TB.new hlv hte
    clear hlv hte kq
    have K := kr
    clear kr
    obtain ⟨x, hx⟩ : ∃ x, sortT v = x := ⟨_, rfl⟩
    have hxs : NmT x := hx ▸ hvs.sort
    have hSi := fun w' (hv : TB w' w1.heap.size v e) => (i_SortTight v e w' hv.ls hv.lt hvs.wf hvs.sz).mono fun r w2 h => h.only
    have hSs := fun w' (hv : TB w' w1.heap.size v e) => (s_SortTight v e w' hv.ls hv.lt hvs.wf hvs.sz).mono fun r w2 h => h.only
    simp only [hx] at hSi hSs
    unfold TrOnly at hSi hSs
    have HX := Lib.hid hx
    clear hx
    obtain ⟨a0, a1, a2, a3, a4⟩ := TV.blk.boxV
    go_wp2_with fail
    refine (hSi _ TV).mono ?_; rintro r w2 ⟨u1, rfl, hl1, ht1, hb2⟩
    have kq := Below.one w2 (.cells (valCells x u1) 26)
    have kr := hb2.up kq
    replace h := (h.below kr).more kr.size
    replace TV := TV.below kr
    have TX := TB.new hl1 ht1
    clear hl1 ht1 kq
    replace K := K.up kr
    clear kr
    clear a0 a1 a2 a3 a4
    clear hSi
    go_wp2_with fail
    refine (s_DrawLessTight A n c b _ h hnn).mono ?_; rintro r w3 ⟨a, ba, ea, eb, rfl, hla, hta, hlb, htb, hda, hdb, hb3⟩
    have kq := Below.one w3 (.cells (valCells a ea) 26)
    have kq2 := Below.one (w3.alloc (.cells (valCells a ea) 26)) (.cells (valCells ba eb) 26)
    have kr := (hb3.up kq).up kq2
    replace h := (h.below kr).more kr.size
    replace TV := TV.below kr
    replace TX := TX.below kr
    have hz : (w3.alloc (.cells (valCells a ea) 26)).heap.size = w3.heap.size + 1 := by simp
    have TA := (TB.new hla hta).below kq2
    have TB2 := TB.new (w := w3.alloc (.cells (valCells a ea) 26)) (hlb.below htb kq) (htb.mono kq.size)
    rw [hz] at TB2
    replace K := K.up kr
    clear hla hta hlb htb kq kq2 kr hb3 hz
    have haw := drT_wf _ _ hda
    have has := drT_small (Nat.le_refl _) hda
    have hbw := drT_wf _ _ hdb
    have hbs := drT_small (Nat.le_refl _) hdb
    clear hda hdb
    go_upto_region 6 with fail
    go_wp2_with fail
    refine (s_DrawLessBytes A n c b _ h hnn).mono ?_; rintro r w4 ⟨A7, m7, c7, p7, A8, m8, c8, p8, rfl, h7, h8, hb4⟩
    replace h := (h.below hb4).more hb4.size
    replace TV := TV.below hb4
    replace TX := TX.below hb4
    replace TA := TA.below hb4
    replace TB2 := TB2.below hb4
    replace K := K.up hb4
    clear hb4
    clear h
    go_upto_region 7 with fail
    have hS0 := fun (w' : World) (hb : Below w4.heap.size w4 w') => (show (BoxV w' w1.heap.size v e ∧ BoxV w' w2.heap.size x u1 ∧ BoxV w' w3.heap.size a ea ∧ BoxV w' (w3.heap.size + 1) ba eb) ∧ Below w4.heap.size w4 w' from ⟨⟨(TV.below hb).blk.boxV, (TX.below hb).blk.boxV, (TA.below hb).blk.boxV, (TB2.below hb).blk.boxV⟩, hb⟩)
    have hS2 := fun (w' w'' : World) (h : (BoxV w' w1.heap.size v e ∧ BoxV w' w2.heap.size x u1 ∧ BoxV w' w3.heap.size a ea ∧ BoxV w' (w3.heap.size + 1) ba eb) ∧ Below w4.heap.size w4 w') (hb : Below w'.heap.size w' w'') => hS0 w'' (h.2.up hb)
    have hSt := fun (w' : World) (h : (BoxV w' w1.heap.size v e ∧ BoxV w' w2.heap.size x u1 ∧ BoxV w' w3.heap.size a ea ∧ BoxV w' (w3.heap.size + 1) ba eb) ∧ Below w4.heap.size w4 w') => hSs w' (TV.below h.2)
    have hEq := fun (w' : World) (h : (BoxV w' w1.heap.size v e ∧ BoxV w' w2.heap.size x u1 ∧ BoxV w' w3.heap.size a ea ∧ BoxV w' (w3.heap.size + 1) ba eb) ∧ Below w4.heap.size w4 w') (u2 : El) (hl : LsAt w' x.l u2) (ht : u2.lt w'.heap.size) => same_at (TX.below h.2).ls hl (TX.below h.2).lt ht
    have hLi := fun (w' : World) (h : (BoxV w' w1.heap.size v e ∧ BoxV w' w2.heap.size x u1 ∧ BoxV w' w3.heap.size a ea ∧ BoxV w' (w3.heap.size + 1) ba eb) ∧ Below w4.heap.size w4 w') => i_LessTight a ba ea eb w' haw hbw (TA.below h.2).ls (TB2.below h.2).ls (TA.below h.2).lt (TB2.below h.2).lt has hbs
    have hLs := fun (w' : World) (h : (BoxV w' w1.heap.size v e ∧ BoxV w' w2.heap.size x u1 ∧ BoxV w' w3.heap.size a ea ∧ BoxV w' (w3.heap.size + 1) ba eb) ∧ Below w4.heap.size w4 w') => s_LessTight a ba ea eb w' haw hbw (TA.below h.2).ls (TB2.below h.2).ls (TA.below h.2).lt (TB2.below h.2).lt has hbs
    have hP1 := fun (w' : World) (h : (BoxV w' w1.heap.size v e ∧ BoxV w' w2.heap.size x u1 ∧ BoxV w' w3.heap.size a ea ∧ BoxV w' (w3.heap.size + 1) ba eb) ∧ Below w4.heap.size w4 w') => (i_LessBytes _ _ _ _ _ _ _ _ w' w'.heap.size ((h7.below h.2).more h.2.size) ((h8.below h.2).more h.2.size)).mono fun r w2 h => BoolB.here h
    have hPs := fun (w' : World) (h : (BoxV w' w1.heap.size v e ∧ BoxV w' w2.heap.size x u1 ∧ BoxV w' w3.heap.size a ea ∧ BoxV w' (w3.heap.size + 1) ba eb) ∧ Below w4.heap.size w4 w') => (s_LessBytes _ _ _ _ _ _ _ _ w' w'.heap.size ((h7.below h.2).more h.2.size) ((h8.below h.2).more h.2.size)).mono fun r w2 h => BoolB.drawn h
    have hP2 := fun (w' : World) (h : (BoxV w' w1.heap.size v e ∧ BoxV w' w2.heap.size x u1 ∧ BoxV w' w3.heap.size a ea ∧ BoxV w' (w3.heap.size + 1) ba eb) ∧ Below w4.heap.size w4 w') => (i_LessBytes _ _ _ _ _ _ _ _ w' w'.heap.size ((h7.below h.2).more h.2.size) ((h7.below h.2).more h.2.size)).mono fun r w2 h => BoolB.here h
    have hP4 := fun (w' : World) (h : (BoxV w' w1.heap.size v e ∧ BoxV w' w2.heap.size x u1 ∧ BoxV w' w3.heap.size a ea ∧ BoxV w' (w3.heap.size + 1) ba eb) ∧ Below w4.heap.size w4 w') => (i_LessBytes _ _ _ _ _ _ _ _ w' w'.heap.size ((h8.below h.2).more h.2.size) ((h7.below h.2).more h.2.size)).mono fun r w2 h => BoolB.here h
    unfold BoolB at hP1 hPs hP2 hP4
    simp only [ltB_self] at hP2
    have hL12 := @ltB_asym p7 p8
    generalize ltB p7 p8 = lp at hP1 hPs hL12
    generalize ltB p8 p7 = lq at hP4 hL12
    generalize ltB (tightT false false a) (tightT false false ba) = lt at hLi hLs
    have hP3 := hP1
    clear hSs TA TB2 h7 h8 haw has hbw hbs
    cases lp
    · clear hP4 hL12
      refine wp_region_noPanic ?_
      refine wp_region_held_drew (S := fun w' => (BoxV w' w1.heap.size v e ∧ BoxV w' w2.heap.size x u1 ∧ BoxV w' w3.heap.size a ea ∧ BoxV w' (w3.heap.size + 1) ba eb) ∧ Below w4.heap.size w4 w') (by kernel_rfl) (hS0 _ (Below.refl _ _).drew) (fun hHeld => ?_)
      generalize w4.drew = wv at hHeld ⊢
      refine wpAnyH_take (i := 0) (oi := ?oi0x1) (v := ?vv0x1) ?hi0x1 (by kernel_rfl) (by kernel_rfl) (by kernel_rfl) ?hQ0x1 (Or.inl ⟨?hw0x1, ?hy0x1⟩) hHeld ?rest0x1
      case hi0x1 => (simp only [List.getElem?_toArray, List.getElem?_cons_succ, List.getElem?_cons_zero]; exact rfl)
      case hQ0x1 => exact fun _ _ _ h => h
      case hw0x1 => rfl
      case hy0x1 => ((intro w hSw; (try dsimp only at hSw); go_simp) <;> (with_reducible rfl))
      try simp only [Act.put, List.setIfInBounds_toArray, List.set_cons_zero, List.set_cons_succ]
      refine wpAnyH_take (i := 1) (oi := ?oi1x2) (v := ?vv1x2) ?hi1x2 (by kernel_rfl) (by kernel_rfl) (by kernel_rfl) ?hQ1x2 (Or.inl ⟨?hw1x2, ?hy1x2⟩) hHeld ?rest1x2
      case hi1x2 => (simp only [List.getElem?_toArray, List.getElem?_cons_succ, List.getElem?_cons_zero]; exact rfl)
      case hQ1x2 => exact fun _ _ _ h => h
      case hw1x2 => rfl
      case hy1x2 => ((intro w hSw; (try dsimp only at hSw); go_simp) <;> (with_reducible rfl))
      try simp only [Act.put, List.setIfInBounds_toArray, List.set_cons_zero, List.set_cons_succ]
      refine wpAnyH_ready (rs := [2]) (by kernel_rfl) (by simp) ?_
      refine AllReadyH.cons (o := ?o2y38) ?ho2y38 (fun KK hKK => ?st2y38) (AllReadyH.nil)
      case ho2y38 => (simp only [List.getElem?_toArray, List.getElem?_cons_succ, List.getElem?_cons_zero]; exact rfl)
      rw [if_pos (by rfl)]
      go_simp
      go_at_call 10
      refine (hSt _ hHeld).mono ?_; rintro r wa ⟨u2, rfl, hl2, ht2, hbA⟩
      refine hKK.out _ _ (hS2 _ _ hHeld hbA) (fun hHeld => ?_)
      clear hKK KK
      try simp only [Act.put, List.setIfInBounds_toArray, List.set_cons_zero, List.set_cons_succ]
      refine wpAnyH_ready (rs := [3]) (by kernel_rfl) (by simp) ?_
      refine AllReadyH.cons (o := ?o3y37) ?ho3y37 (fun KK hKK => ?st3y37) (AllReadyH.nil)
      case ho3y37 => (simp only [List.getElem?_toArray, List.getElem?_cons_succ, List.getElem?_cons_zero]; exact rfl)
      rw [if_pos (by rfl)]
      go_simp
      go_at_call 9
      refine (hEq _ hHeld u2 hl2 ht2).mono ?_; rintro r wb ⟨rfl, hbB⟩
      refine hKK.out _ _ (hS2 _ _ hHeld hbB) (fun hHeld => ?_)
      clear hKK KK
      try simp only [Act.put, List.setIfInBounds_toArray, List.set_cons_zero, List.set_cons_succ]
      refine wpAnyH_take (i := 4) (oi := ?oi4x3) (v := ?vv4x3) ?hi4x3 (by kernel_rfl) (by kernel_rfl) (by kernel_rfl) ?hQ4x3 (Or.inl ⟨?hw4x3, ?hy4x3⟩) hHeld ?rest4x3
      case hi4x3 => (simp only [List.getElem?_toArray, List.getElem?_cons_succ, List.getElem?_cons_zero]; exact rfl)
      case hQ4x3 => exact fun _ _ _ h => h
      case hw4x3 => rfl
      case hy4x3 => ((intro w hSw; (try dsimp only at hSw); go_simp) <;> (with_reducible rfl))
      try simp only [Act.put, List.setIfInBounds_toArray, List.set_cons_zero, List.set_cons_succ]
      refine wpAnyH_take (i := 5) (oi := ?oi5x4) (v := ?vv5x4) ?hi5x4 (by kernel_rfl) (by kernel_rfl) (by kernel_rfl) ?hQ5x4 (Or.inl ⟨?hw5x4, ?hy5x4⟩) hHeld ?rest5x4
      case hi5x4 => (simp only [List.getElem?_toArray, List.getElem?_cons_succ, List.getElem?_cons_zero]; exact rfl)
      case hQ5x4 => exact fun _ _ _ h => h
      case hw5x4 => rfl
      case hy5x4 => ((intro w hSw; (try dsimp only at hSw); go_simp) <;> (with_reducible rfl))
      try simp only [Act.put, List.setIfInBounds_toArray, List.set_cons_zero, List.set_cons_succ]
      refine wpAnyH_take (i := 6) (oi := ?oi6x5) (v := ?vv6x5) ?hi6x5 (by kernel_rfl) (by kernel_rfl) (by kernel_rfl) ?hQ6x5 (Or.inl ⟨?hw6x5, ?hy6x5⟩) hHeld ?rest6x5
      case hi6x5 => (simp only [List.getElem?_toArray, List.getElem?_cons_succ, List.getElem?_cons_zero]; exact rfl)
      case hQ6x5 => exact fun _ _ _ h => h
      case hw6x5 => rfl
      case hy6x5 => ((intro w hSw; (try dsimp only at hSw); go_simp) <;> (with_reducible rfl))
      try simp only [Act.put, List.setIfInBounds_toArray, List.set_cons_zero, List.set_cons_succ]
      refine wpAnyH_take (i := 7) (oi := ?oi7x6) (v := ?vv7x6) ?hi7x6 (by kernel_rfl) (by kernel_rfl) (by kernel_rfl) ?hQ7x6 (Or.inl ⟨?hw7x6, ?hy7x6⟩) hHeld ?rest7x6
      case hi7x6 => (simp only [List.getElem?_toArray, List.getElem?_cons_succ, List.getElem?_cons_zero]; exact rfl)
      case hQ7x6 => exact fun _ _ _ h => h
      case hw7x6 => rfl
      case hy7x6 => ((intro w hSw; (try dsimp only at hSw); go_simp) <;> (with_reducible rfl))
      try simp only [Act.put, List.setIfInBounds_toArray, List.set_cons_zero, List.set_cons_succ]
      refine wpAnyH_take (i := 9) (oi := ?oi9x7) (v := ?vv9x7) ?hi9x7 (by kernel_rfl) (by kernel_rfl) (by kernel_rfl) ?hQ9x7 (Or.inl ⟨?hw9x7, ?hy9x7⟩) hHeld ?rest9x7
      case hi9x7 => (simp only [List.getElem?_toArray, List.getElem?_cons_succ, List.getElem?_cons_zero]; exact rfl)
      case hQ9x7 => exact fun _ _ _ h => h
      case hw9x7 => rfl
      case hy9x7 => ((intro w hSw; (try dsimp only at hSw); go_simp) <;> (with_reducible rfl))
      try simp only [Act.put, List.setIfInBounds_toArray, List.set_cons_zero, List.set_cons_succ]
      refine wpAnyH_take (i := 10) (oi := ?oi10x8) (v := ?vv10x8) ?hi10x8 (by kernel_rfl) (by kernel_rfl) (by kernel_rfl) ?hQ10x8 (Or.inl ⟨?hw10x8, ?hy10x8⟩) hHeld ?rest10x8
      case hi10x8 => (simp only [List.getElem?_toArray, List.getElem?_cons_succ, List.getElem?_cons_zero]; exact rfl)
      case hQ10x8 => exact fun _ _ _ h => h
      case hw10x8 => rfl
      case hy10x8 => ((intro w hSw; (try dsimp only at hSw); go_simp) <;> (with_reducible rfl))
      try simp only [Act.put, List.setIfInBounds_toArray, List.set_cons_zero, List.set_cons_succ]
      refine wpAnyH_ready (rs := [8]) (by kernel_rfl) (by simp) ?_
      refine AllReadyH.cons (o := ?o8y36) ?ho8y36 (fun KK hKK => ?st8y36) (AllReadyH.nil)
      case ho8y36 => (simp only [List.getElem?_toArray, List.getElem?_cons_succ, List.getElem?_cons_zero]; exact rfl)
      rw [if_pos (by rfl)]
      go_simp
      go_at_call 11
      refine (hLi _ hHeld).mono ?_; rintro r wc ⟨rfl, hbC⟩
      refine hKK.out _ _ (hS2 _ _ hHeld hbC) (fun hHeld => ?_)
      clear hKK KK
      try simp only [Act.put, List.setIfInBounds_toArray, List.set_cons_zero, List.set_cons_succ]
      refine wpAnyH_ready (rs := [11]) (by kernel_rfl) (by simp) ?_
      refine AllReadyH.cons (o := ?o11y35) ?ho11y35 (fun KK hKK => ?st11y35) (AllReadyH.nil)
      case ho11y35 => (simp only [List.getElem?_toArray, List.getElem?_cons_succ, List.getElem?_cons_zero]; exact rfl)
      rw [if_pos (by rfl)]
      go_simp
      go_at_call 12
      refine (hLs _ hHeld).mono ?_; rintro r wd ⟨rfl, hbD⟩
      refine hKK.out _ _ (hS2 _ _ hHeld hbD) (fun hHeld => ?_)
      clear hKK KK
      try simp only [Act.put, List.setIfInBounds_toArray, List.set_cons_zero, List.set_cons_succ]
      refine wpAnyH_take (i := 12) (oi := ?oi12x9) (v := ?vv12x9) ?hi12x9 (by kernel_rfl) (by kernel_rfl) (by kernel_rfl) ?hQ12x9 (Or.inl ⟨?hw12x9, ?hy12x9⟩) hHeld ?rest12x9
      case hi12x9 => (simp only [List.getElem?_toArray, List.getElem?_cons_succ, List.getElem?_cons_zero]; exact rfl)
      case hQ12x9 => exact fun _ _ _ h => h
      case hw12x9 => rfl
      case hy12x9 => ((intro w hSw; (try dsimp only at hSw); go_simp) <;> (with_reducible rfl))
      try simp only [Act.put, List.setIfInBounds_toArray, List.set_cons_zero, List.set_cons_succ]
      refine wpAnyH_take (i := 13) (oi := ?oi13x10) (v := ?vv13x10) ?hi13x10 (by kernel_rfl) (by kernel_rfl) (by kernel_rfl) ?hQ13x10 (Or.inl ⟨?hw13x10, ?hy13x10⟩) hHeld ?rest13x10
      case hi13x10 => (simp only [List.getElem?_toArray, List.getElem?_cons_succ, List.getElem?_cons_zero]; exact rfl)
      case hQ13x10 => exact fun _ _ _ h => h
      case hw13x10 => rfl
      case hy13x10 => ((intro w hSw; (try dsimp only at hSw); go_simp) <;> (with_reducible rfl))
      try simp only [Act.put, List.setIfInBounds_toArray, List.set_cons_zero, List.set_cons_succ]
      refine wpAnyH_take (i := 14) (oi := ?oi14x11) (v := ?vv14x11) ?hi14x11 (by kernel_rfl) (by kernel_rfl) (by kernel_rfl) ?hQ14x11 (Or.inl ⟨?hw14x11, ?hy14x11⟩) hHeld ?rest14x11
      case hi14x11 => (simp only [List.getElem?_toArray, List.getElem?_cons_succ, List.getElem?_cons_zero]; exact rfl)
      case hQ14x11 => exact fun _ _ _ h => h
      case hw14x11 => rfl
      case hy14x11 => ((intro w hSw; (try dsimp only at hSw); go_simp) <;> (with_reducible rfl))
      try simp only [Act.put, List.setIfInBounds_toArray, List.set_cons_zero, List.set_cons_succ]
      refine wpAnyH_take (i := 15) (oi := ?oi15x12) (v := ?vv15x12) ?hi15x12 (by kernel_rfl) (by kernel_rfl) (by kernel_rfl) ?hQ15x12 (Or.inl ⟨?hw15x12, ?hy15x12⟩) hHeld ?rest15x12
      case hi15x12 => (simp only [List.getElem?_toArray, List.getElem?_cons_succ, List.getElem?_cons_zero]; exact rfl)
      case hQ15x12 => exact fun _ _ _ h => h
      case hw15x12 => rfl
      case hy15x12 => ((intro w hSw; (try dsimp only at hSw); go_simp) <;> (with_reducible rfl))
      try simp only [Act.put, List.setIfInBounds_toArray, List.set_cons_zero, List.set_cons_succ]
      refine wpAnyH_take (i := 16) (oi := ?oi16x13) (v := ?vv16x13) ?hi16x13 (by kernel_rfl) (by kernel_rfl) (by kernel_rfl) ?hQ16x13 (Or.inl ⟨?hw16x13, ?hy16x13⟩) hHeld ?rest16x13
      case hi16x13 => (simp only [List.getElem?_toArray, List.getElem?_cons_succ, List.getElem?_cons_zero]; exact rfl)
      case hQ16x13 => exact fun _ _ _ h => h
      case hw16x13 => rfl
      case hy16x13 => ((intro w hSw; (try dsimp only at hSw); go_simp) <;> (with_reducible rfl))
      try simp only [Act.put, List.setIfInBounds_toArray, List.set_cons_zero, List.set_cons_succ]
      refine wpAnyH_take (i := 18) (oi := ?oi18x14) (v := ?vv18x14) ?hi18x14 (by kernel_rfl) (by kernel_rfl) (by kernel_rfl) ?hQ18x14 (Or.inl ⟨?hw18x14, ?hy18x14⟩) hHeld ?rest18x14
      case hi18x14 => (simp only [List.getElem?_toArray, List.getElem?_cons_succ, List.getElem?_cons_zero]; exact rfl)
      case hQ18x14 => exact fun _ _ _ h => h
      case hw18x14 => rfl
      case hy18x14 => ((intro w hSw; (try dsimp only at hSw); go_simp) <;> (with_reducible rfl))
      try simp only [Act.put, List.setIfInBounds_toArray, List.set_cons_zero, List.set_cons_succ]
      refine wpAnyH_take (i := 19) (oi := ?oi19x15) (v := ?vv19x15) ?hi19x15 (by kernel_rfl) (by kernel_rfl) (by kernel_rfl) ?hQ19x15 (Or.inl ⟨?hw19x15, ?hy19x15⟩) hHeld ?rest19x15
      case hi19x15 => (simp only [List.getElem?_toArray, List.getElem?_cons_succ, List.getElem?_cons_zero]; exact rfl)
      case hQ19x15 => exact fun _ _ _ h => h
      case hw19x15 => rfl
      case hy19x15 => ((intro w hSw; (try dsimp only at hSw); go_simp) <;> (with_reducible rfl))
      try simp only [Act.put, List.setIfInBounds_toArray, List.set_cons_zero, List.set_cons_succ]
      refine wpAnyH_ready (rs := [17]) (by kernel_rfl) (by simp) ?_
      refine AllReadyH.cons (o := ?o17y34) ?ho17y34 (fun KK hKK => ?st17y34) (AllReadyH.nil)
      case ho17y34 => (simp only [List.getElem?_toArray, List.getElem?_cons_succ, List.getElem?_cons_zero]; exact rfl)
      rw [if_pos (by rfl)]
      go_simp
      go_at_call 13
      refine (hP1 _ hHeld).mono ?_; rintro r we ⟨rfl, hbE⟩
      refine hKK.out _ _ (hS2 _ _ hHeld hbE) (fun hHeld => ?_)
      clear hKK KK
      try simp only [Act.put, List.setIfInBounds_toArray, List.set_cons_zero, List.set_cons_succ]
      refine wpAnyH_ready (rs := [20]) (by kernel_rfl) (by simp) ?_
      refine AllReadyH.cons (o := ?o20y33) ?ho20y33 (fun KK hKK => ?st20y33) (AllReadyH.nil)
      case ho20y33 => (simp only [List.getElem?_toArray, List.getElem?_cons_succ, List.getElem?_cons_zero]; exact rfl)
      rw [if_pos (by rfl)]
      go_simp
      go_at_call 14
      refine (hPs _ hHeld).mono ?_; rintro r wf ⟨rfl, hbF⟩
      refine hKK.out _ _ (hS2 _ _ hHeld hbF) (fun hHeld => ?_)
      clear hKK KK
      try simp only [Act.put, List.setIfInBounds_toArray, List.set_cons_zero, List.set_cons_succ]
      refine wpAnyH_take (i := 21) (oi := ?oi21x16) (v := ?vv21x16) ?hi21x16 (by kernel_rfl) (by kernel_rfl) (by kernel_rfl) ?hQ21x16 (Or.inl ⟨?hw21x16, ?hy21x16⟩) hHeld ?rest21x16
      case hi21x16 => (simp only [List.getElem?_toArray, List.getElem?_cons_succ, List.getElem?_cons_zero]; exact rfl)
      case hQ21x16 => exact fun _ _ _ h => h
      case hw21x16 => rfl
      case hy21x16 => ((intro w hSw; (try dsimp only at hSw); go_simp) <;> (with_reducible rfl))
      try simp only [Act.put, List.setIfInBounds_toArray, List.set_cons_zero, List.set_cons_succ]
      refine wpAnyH_take (i := 22) (oi := ?oi22x17) (v := ?vv22x17) ?hi22x17 (by kernel_rfl) (by kernel_rfl) (by kernel_rfl) ?hQ22x17 (Or.inl ⟨?hw22x17, ?hy22x17⟩) hHeld ?rest22x17
      case hi22x17 => (simp only [List.getElem?_toArray, List.getElem?_cons_succ, List.getElem?_cons_zero]; exact rfl)
      case hQ22x17 => exact fun _ _ _ h => h
      case hw22x17 => rfl
      case hy22x17 => ((intro w hSw; (try dsimp only at hSw); go_simp) <;> (with_reducible rfl))
      try simp only [Act.put, List.setIfInBounds_toArray, List.set_cons_zero, List.set_cons_succ]
      refine wpAnyH_take (i := 23) (oi := ?oi23x18) (v := ?vv23x18) ?hi23x18 (by kernel_rfl) (by kernel_rfl) (by kernel_rfl) ?hQ23x18 (Or.inl ⟨?hw23x18, ?hy23x18⟩) hHeld ?rest23x18
      case hi23x18 => (simp only [List.getElem?_toArray, List.getElem?_cons_succ, List.getElem?_cons_zero]; exact rfl)
      case hQ23x18 => exact fun _ _ _ h => h
      case hw23x18 => rfl
      case hy23x18 => ((intro w hSw; (try dsimp only at hSw); go_simp) <;> (with_reducible rfl))
      try simp only [Act.put, List.setIfInBounds_toArray, List.set_cons_zero, List.set_cons_succ]
      refine wpAnyH_take (i := 24) (oi := ?oi24x19) (v := ?vv24x19) ?hi24x19 (by kernel_rfl) (by kernel_rfl) (by kernel_rfl) ?hQ24x19 (Or.inl ⟨?hw24x19, ?hy24x19⟩) hHeld ?rest24x19
      case hi24x19 => (simp only [List.getElem?_toArray, List.getElem?_cons_succ, List.getElem?_cons_zero]; exact rfl)
      case hQ24x19 => exact fun _ _ _ h => h
      case hw24x19 => rfl
      case hy24x19 => ((intro w hSw; (try dsimp only at hSw); go_simp) <;> (with_reducible rfl))
      try simp only [Act.put, List.setIfInBounds_toArray, List.set_cons_zero, List.set_cons_succ]
      refine wpAnyH_take (i := 25) (oi := ?oi25x20) (v := ?vv25x20) ?hi25x20 (by kernel_rfl) (by kernel_rfl) (by kernel_rfl) ?hQ25x20 (Or.inl ⟨?hw25x20, ?hy25x20⟩) hHeld ?rest25x20
      case hi25x20 => (simp only [List.getElem?_toArray, List.getElem?_cons_succ, List.getElem?_cons_zero]; exact rfl)
      case hQ25x20 => exact fun _ _ _ h => h
      case hw25x20 => rfl
      case hy25x20 => ((intro w hSw; (try dsimp only at hSw); go_simp) <;> (with_reducible rfl))
      try simp only [Act.put, List.setIfInBounds_toArray, List.set_cons_zero, List.set_cons_succ]
      refine wpAnyH_ready (rs := [26]) (by kernel_rfl) (by simp) ?_
      refine AllReadyH.cons (o := ?o26y32) ?ho26y32 (fun KK hKK => ?st26y32) (AllReadyH.nil)
      case ho26y32 => (simp only [List.getElem?_toArray, List.getElem?_cons_succ, List.getElem?_cons_zero]; exact rfl)
      rw [if_pos (by rfl)]
      go_simp
      go_at_call 13
      refine (hP2 _ hHeld).mono ?_; rintro r wg ⟨rfl, hbG⟩
      refine hKK.out _ _ (hS2 _ _ hHeld hbG) (fun hHeld => ?_)
      clear hKK KK
      try simp only [Act.put, List.setIfInBounds_toArray, List.set_cons_zero, List.set_cons_succ]
      refine wpAnyH_take (i := 27) (oi := ?oi27x21) (v := ?vv27x21) ?hi27x21 (by kernel_rfl) (by kernel_rfl) (by kernel_rfl) ?hQ27x21 (Or.inl ⟨?hw27x21, ?hy27x21⟩) hHeld ?rest27x21
      case hi27x21 => (simp only [List.getElem?_toArray, List.getElem?_cons_succ, List.getElem?_cons_zero]; exact rfl)
      case hQ27x21 => exact fun _ _ _ h => h
      case hw27x21 => rfl
      case hy27x21 => ((intro w hSw; (try dsimp only at hSw); go_simp) <;> (with_reducible rfl))
      try simp only [Act.put, List.setIfInBounds_toArray, List.set_cons_zero, List.set_cons_succ]
      refine wpAnyH_take (i := 28) (oi := ?oi28x22) (v := ?vv28x22) ?hi28x22 (by kernel_rfl) (by kernel_rfl) (by kernel_rfl) ?hQ28x22 (Or.inl ⟨?hw28x22, ?hy28x22⟩) hHeld ?rest28x22
      case hi28x22 => (simp only [List.getElem?_toArray, List.getElem?_cons_succ, List.getElem?_cons_zero]; exact rfl)
      case hQ28x22 => exact fun _ _ _ h => h
      case hw28x22 => rfl
      case hy28x22 => ((intro w hSw; (try dsimp only at hSw); go_simp) <;> (with_reducible rfl))
      try simp only [Act.put, List.setIfInBounds_toArray, List.set_cons_zero, List.set_cons_succ]
      refine wpAnyH_take (i := 29) (oi := ?oi29x23) (v := ?vv29x23) ?hi29x23 (by kernel_rfl) (by kernel_rfl) (by kernel_rfl) ?hQ29x23 (Or.inl ⟨?hw29x23, ?hy29x23⟩) hHeld ?rest29x23
      case hi29x23 => (simp only [List.getElem?_toArray, List.getElem?_cons_succ, List.getElem?_cons_zero]; exact rfl)
      case hQ29x23 => exact fun _ _ _ h => h
      case hw29x23 => rfl
      case hy29x23 => ((intro w hSw; (try dsimp only at hSw); go_simp) <;> (with_reducible rfl))
      try simp only [Act.put, List.setIfInBounds_toArray, List.set_cons_zero, List.set_cons_succ]
      refine wpAnyH_take (i := 30) (oi := ?oi30x24) (v := ?vv30x24) ?hi30x24 (by kernel_rfl) (by kernel_rfl) (by kernel_rfl) ?hQ30x24 (Or.inl ⟨?hw30x24, ?hy30x24⟩) hHeld ?rest30x24
      case hi30x24 => (simp only [List.getElem?_toArray, List.getElem?_cons_succ, List.getElem?_cons_zero]; exact rfl)
      case hQ30x24 => exact fun _ _ _ h => h
      case hw30x24 => rfl
      case hy30x24 => ((intro w hSw; (try dsimp only at hSw); go_simp) <;> (with_reducible rfl))
      try simp only [Act.put, List.setIfInBounds_toArray, List.set_cons_zero, List.set_cons_succ]
      refine wpAnyH_ready (rs := [31]) (by kernel_rfl) (by simp) ?_
      refine AllReadyH.cons (o := ?o31y31) ?ho31y31 (fun KK hKK => ?st31y31) (AllReadyH.nil)
      case ho31y31 => (simp only [List.getElem?_toArray, List.getElem?_cons_succ, List.getElem?_cons_zero]; exact rfl)
      rw [if_pos (by rfl)]
      go_simp
      go_at_call 13
      refine (hP1 _ hHeld).mono ?_; rintro r wh ⟨rfl, hbH⟩
      refine hKK.out _ _ (hS2 _ _ hHeld hbH) (fun hHeld => ?_)
      clear hKK KK
      try simp only [Act.put, List.setIfInBounds_toArray, List.set_cons_zero, List.set_cons_succ]
      refine wpAnyH_take (i := 32) (oi := ?oi32x25) (v := ?vv32x25) ?hi32x25 (by kernel_rfl) (by kernel_rfl) (by kernel_rfl) ?hQ32x25 (Or.inl ⟨?hw32x25, ?hy32x25⟩) hHeld ?rest32x25
      case hi32x25 => (simp only [List.getElem?_toArray, List.getElem?_cons_succ, List.getElem?_cons_zero]; exact rfl)
      case hQ32x25 => exact fun _ _ _ h => h
      case hw32x25 => rfl
      case hy32x25 => ((intro w hSw; (try dsimp only at hSw); go_simp) <;> (with_reducible rfl))
      try simp only [Act.put, List.setIfInBounds_toArray, List.set_cons_zero, List.set_cons_succ]
      refine wpAnyH_take (i := 33) (oi := ?oi33x26) (v := undef) ?hi33x26 (by kernel_rfl) (by kernel_rfl) (by kernel_rfl) ?hQ33x26 (Or.inr ⟨?hw33x26, rfl⟩) hHeld ?rest33x26
      case hi33x26 => (simp only [List.getElem?_toArray, List.getElem?_cons_succ, List.getElem?_cons_zero]; exact rfl)
      case hQ33x26 => exact fun _ _ _ h => h
      case hw33x26 => rfl
      try simp only [Act.put, List.setIfInBounds_toArray, List.set_cons_zero, List.set_cons_succ]
      refine wpAnyH_take (i := 34) (oi := ?oi34x27) (v := undef) ?hi34x27 (by kernel_rfl) (by kernel_rfl) (by kernel_rfl) ?hQ34x27 (Or.inr ⟨?hw34x27, rfl⟩) hHeld ?rest34x27
      case hi34x27 => (simp only [List.getElem?_toArray, List.getElem?_cons_succ, List.getElem?_cons_zero]; exact rfl)
      case hQ34x27 => exact fun _ _ _ h => h
      case hw34x27 => rfl
      try simp only [Act.put, List.setIfInBounds_toArray, List.set_cons_zero, List.set_cons_succ]
      refine wpAnyH_take (i := 35) (oi := ?oi35x28) (v := undef) ?hi35x28 (by kernel_rfl) (by kernel_rfl) (by kernel_rfl) ?hQ35x28 (Or.inr ⟨?hw35x28, rfl⟩) hHeld ?rest35x28
      case hi35x28 => (simp only [List.getElem?_toArray, List.getElem?_cons_succ, List.getElem?_cons_zero]; exact rfl)
      case hQ35x28 => exact fun _ _ _ h => h
      case hw35x28 => rfl
      try simp only [Act.put, List.setIfInBounds_toArray, List.set_cons_zero, List.set_cons_succ]
      refine wpAnyH_take (i := 36) (oi := ?oi36x29) (v := ?vv36x29) ?hi36x29 (by kernel_rfl) (by kernel_rfl) (by kernel_rfl) ?hQ36x29 (Or.inl ⟨?hw36x29, ?hy36x29⟩) hHeld ?rest36x29
      case hi36x29 => (simp only [List.getElem?_toArray, List.getElem?_cons_succ, List.getElem?_cons_zero]; exact rfl)
      case hQ36x29 => exact fun _ _ _ h => h
      case hw36x29 => rfl
      case hy36x29 => ((intro w hSw; (try dsimp only at hSw); go_simp) <;> (with_reducible rfl))
      try simp only [Act.put, List.setIfInBounds_toArray, List.set_cons_zero, List.set_cons_succ]
      refine wpAnyH_take (i := 37) (oi := ?oi37x30) (v := ?vv37x30) ?hi37x30 (by kernel_rfl) (by kernel_rfl) (by kernel_rfl) ?hQ37x30 (Or.inl ⟨?hw37x30, ?hy37x30⟩) hHeld ?rest37x30
      case hi37x30 => (simp only [List.getElem?_toArray, List.getElem?_cons_succ, List.getElem?_cons_zero]; exact rfl)
      case hQ37x30 => exact fun _ _ _ h => h
      case hw37x30 => rfl
      case hy37x30 => ((intro w hSw; (try dsimp only at hSw); go_simp) <;> (with_reducible rfl))
      try simp only [Act.put, List.setIfInBounds_toArray, List.set_cons_zero, List.set_cons_succ]
      refine wpAnyH_done (by kernel_rfl) ?_ _
      refine NoPanic.normal ?_
      have kR := hHeld.2
      generalize wh = wR at kR
      replace TV := TV.below kR
      replace TX := TX.below kR
      replace K := K.up kR
      clear hP1 hP2 hP3 hS0 hS2 hSt hEq hLi hLs hPs hHeld kR
      as_aux_lemma =>
        have hen : v.l.length = e.n := TV.ls.len
        have hun : x.l.length = u1.n := TX.ls.len
        by_cases hc : v.k = 10 ∧ v.l.length % 2 = 0
        rotate_left
        · obtain rfl : x = v := by rw [← HX.out]; exact sortT_no hc
          have hE := same_tb TX TV
          have hcc : ((x.k != 10) = true) ∨ ((x.k != 10) = false ∧ ((e.n : Int) % 2 != 0) = true) := by
            by_cases h1 : x.k = 10
            · right; refine ⟨by simp [h1], ?_⟩; have h2 : ¬ (x.l.length % 2 = 0) := fun h3 => hc ⟨h1, h3⟩; simp; omega
            · left; simpa using h1
          have hQ := HX
          clear hc HX hvs hxs hen hun hQ
          obtain ⟨a0, a1, a2, a3, a4⟩ := TV.blk.boxV
          obtain ⟨b0, b1, b2, b3, b4⟩ := TX.blk.boxV
          rcases hcc with q1 | ⟨q1, q2⟩
          · go_wp2_with (go_at_call 9; refine hE.mono ?_; rintro r wb ⟨rfl, hbB⟩)
            go_ret
            exact ⟨rfl, K.up hbB⟩
          · go_wp2_with (go_at_call 9; refine hE.mono ?_; rintro r wb ⟨rfl, hbB⟩)
            go_ret
            exact ⟨rfl, K.up hbB⟩
        obtain ⟨L, hLn, hasc, hs1, hs2, hnm, hll⟩ := tight_law hvs hc
        have hlx := sortT_len v
        rw [HX.out] at hLn hs1 hs2 hlx
        have q1 : (v.k != 10) = false := by simp [hc.1]
        have q2 : ((e.n : Int) % 2 != 0) = false := by have := hc.2; simp; omega
        have hxu : u1.n = e.n := by omega
        have hNi := i_NamesOf x u1 wR hxs.sz TX.ls TX.lt hxs.names.2.2
        rw [hLn] at hNi
        unfold NamesAt at hNi
        have HC := Lib.hid (And.intro hs1 (And.intro hs2 (And.intro hxu hc)))
        clear hs1 hs2 hxu hc hlx hLn hen hun HX
        obtain ⟨a0, a1, a2, a3, a4⟩ := TV.blk.boxV
        obtain ⟨b0, b1, b2, b3, b4⟩ := TX.blk.boxV
        go_wp2_with fail
        refine hNi.mono ?_; rintro r wP ⟨le, rfl, hlL, hlt, hbP⟩
        clear hNi q1 q2
        clear a0 a1 a2 a3 a4 b0 b1 b2 b3 b4
        replace TV := TV.below hbP
        replace TX := TX.below hbP
        replace K := K.up hbP
        clear hbP
        obtain ⟨lA, nL, lc, lfp⟩ := le
        have hLl : L.length = nL := hlL.len
        have hnb : nL ≤ 9 := by omega
        have HLL := Lib.hid hLl
        go_wp2_with fail
        go_loopg [10] nL (fun f i wr => ∃ j : Nat, nL ≤ j + f ∧ 1 ≤ j ∧ i = .int .i64 j ∧ j ≤ 10 ∧ Below wP.heap.size wP wr)
        case atStart => exact ⟨1, by omega, Nat.le_refl _, rfl, by omega, Below.refl _ _⟩
        case round =>
          obtain ⟨j, hjk, hj1, rfl, hj10, hb⟩ := hrel
          have TVr := TV.below hb
          have TXr := TX.below hb
          replace K := K.up hb
          by_cases hlt2 : j < nL
          · obtain ⟨f, rfl⟩ : ∃ f, gk = f + 1 := ⟨gk - 1, by omega⟩
            obtain ⟨k, rfl⟩ : ∃ k, j = k + 1 := ⟨j - 1, by omega⟩
            have hLr := hlL.below hlt hb
            have hlr := hlt.mono hb.size
            obtain ⟨g, o, es, hV⟩ := hLr.open_ (by show 0 < nL; omega)
            have hA3 : lA = some ⟨g, o, none⟩ := hV.adr
            subst hA3
            have hel : es.length = nL := hV.eslen
            have hk1 : k + 1 < L.length := by omega
            have i1 : L[k + 1]? = some L[k + 1] := List.getElem?_eq_getElem hk1
            have i0 : L[k]? = some L[k] := List.getElem?_eq_getElem (by omega)
            have j1 : es[k + 1]? = some es[k + 1] := List.getElem?_eq_getElem (by omega)
            have j0 : es[k]? = some es[k] := List.getElem?_eq_getElem (by omega)
            have hn1 := hnm _ (List.mem_of_getElem? i1)
            have hn0 := hnm _ (List.mem_of_getElem? i0)
            have hls := hasc k hk1
            have hfe : ∀ u ∈ es, u.lt wr.heap.size := fun u hu y hy => hlr y (by have h2 : lfp = g :: elFp es := hV.fp; show y ∈ lfp; rw [h2]; obtain ⟨i, hi⟩ := List.getElem?_of_mem hu; exact List.mem_cons_of_mem _ (elFp_mem hi hy))
            have hlt1 := hfe _ (List.mem_of_getElem? j1)
            have hlt0 := hfe _ (List.mem_of_getElem? j0)
            have hgl : g < wr.heap.size := hlr g (by have h2 : lfp = g :: elFp es := hV.fp; show g ∈ lfp; rw [h2]; exact List.mem_cons_self)
            have hc1 := hV.cells _ _ _ i1 j1
            have hc0 := hV.cells _ _ _ i0 j0
            have hk1l := hV.kids _ _ _ i1 j1
            have hk0l := hV.kids _ _ _ i0 j0
            generalize L[k + 1] = t1 at hn1 hls hc1 hk1l
            generalize L[k] = t0 at hn0 hls hc0 hk0l
            generalize es[k + 1] = e1 at hlt1 hc1 hk1l
            generalize es[k] = e0 at hlt0 hc0 hk0l
            have hLT := fun w1 (hb : Below wr.heap.size wr w1) => i_LessTight t1 t0 e1 e0 w1 hn1.wf hn0.wf (hk1l.below hlt1 hb) (hk0l.below hlt0 hb) (hlt1.mono hb.size) (hlt0.mono hb.size) (Nat.le_trans hn1.sz (by decide)) (Nat.le_trans hn0.sz (by decide))
            have hls2 : ltB (tightT false false t1) (tightT false false t0) = false := hls
            rw [hls2] at hLT
            have hS0 := fun (w' : World) (hb : Below wr.heap.size wr w') => (show (RowV w' g (o + (k + 1) * 5) t1 e1 ∧ RowV w' g (o + k * 5) t0 e0) ∧ Below wr.heap.size wr w' from ⟨⟨row_bel hgl hc1 hb, row_bel hgl hc0 hb⟩, hb⟩)
            have hLT2 := fun (w' : World) (h : (RowV w' g (o + (k + 1) * 5) t1 e1 ∧ RowV w' g (o + k * 5) t0 e0) ∧ Below wr.heap.size wr w') => hLT w' h.2
            have HJ := Lib.hid (And.intro hjk (And.intro hnb hlt2))
            have r1 : ((k + 1 : Nat) : Int) < (nL : Int) := by omega
            obtain ⟨z, hz⟩ : ∃ z : Int, ((k + 1 : Nat) : Int) = z := ⟨_, rfl⟩
            rw [hz] at r1 ⊢
            have r2 : (0 : Int) ≤ z := by omega
            have r3 : z.toNat = k + 1 := by omega
            obtain ⟨y, hy⟩ : ∃ y : Int, y = z - 1 := ⟨_, rfl⟩
            have r4 : (0 : Int) ≤ y := by omega
            have r5 : y < (nL : Int) := by omega
            have r6 : y.toNat = k := by omega
            have r7 : IntKind.i64.wrap (z - 1) = y := by rw [IntKind.wrap_i64]; omega
            have HZ := Lib.hid hz
            clear hy hz hls hls2 hjk hj10 hj1 hLr hV hel hk1 i1 i0 j1 j0 hfe hLT hlt2 hnb hLl hlr hk1l hk0l hn1 hn0 hlt1 hlt0 hc1 hc0
            go_wp2_with fail
            go_region_held3 (fun w' => (RowV w' g (o + (k + 1) * 5) t1 e1 ∧ RowV w' g (o + k * 5) t0 e0) ∧ Below wr.heap.size wr w')
              (first | exact hS0 _ (Below.refl _ _).drew | exact hS0 _ ((Below.refl _ _).drew.up hbA))
              (first | (go_at_call 11; refine (hLT2 _ (by assumption)).mono ?_; rintro r w9 ⟨rfl, hbA⟩))
            rename_i hHeld
            have kb := hHeld.2
            rename World => w9
            clear hS0 hLT2 hHeld r4 r5 r6 r7
            go_wp2_with fail
            go_roundg f
            case measure => omega
            case rel => exact ⟨k + 1 + 1, by have := HJ.out.1; omega, by omega, by have h1 := HZ.out; have h2 := HJ.out.2; refine congrArg (Value.int .i64) ?_; unfold wrap64; omega, by have := HJ.out.2; omega, hb.up kb⟩
          · have r1 : ¬ ((j : Nat) : Int) < (nL : Int) := by omega
            have r2 : decide (((j : Nat) : Int) < (nL : Int)) = false := decide_eq_false r1
            obtain ⟨hs1, hs2, hxu, hc⟩ := HC.out
            obtain ⟨m, hm⟩ : ∃ m, sortV v = m := ⟨_, rfl⟩
            have hS0 := fun (w' : World) (hb : Below wr.heap.size wr w') => (show (BoxV w' w1.heap.size v e ∧ BoxV w' w2.heap.size x u1) ∧ Below wr.heap.size wr w' from ⟨⟨(TVr.below hb).blk.boxV, (TXr.below hb).blk.boxV⟩, hb⟩)
            have hS2 := fun (w' w'' : World) (h : (BoxV w' w1.heap.size v e ∧ BoxV w' w2.heap.size x u1) ∧ Below wr.heap.size wr w') (hb : Below w'.heap.size w' w'') => hS0 w'' (h.2.up hb)
            have hM1 := fun (w' : World) (h : (BoxV w' w1.heap.size v e ∧ BoxV w' w2.heap.size x u1) ∧ Below wr.heap.size wr w') => (i_SortMap x u1 w' (TXr.below h.2).ls (TXr.below h.2).lt hxs.nm hxs.sz).mono fun r w2 h => h.only
            have hM2 := fun (w' : World) (h : (BoxV w' w1.heap.size v e ∧ BoxV w' w2.heap.size x u1) ∧ Below wr.heap.size wr w') => (i_SortMap v e w' (TVr.below h.2).ls (TVr.below h.2).lt hvs.nm hvs.sz).mono fun r w2 h => h.only
            have hM3 := fun (w' : World) (h : (BoxV w' w1.heap.size v e ∧ BoxV w' w2.heap.size x u1) ∧ Below wr.heap.size wr w') => (i_SortTight x u1 w' (TXr.below h.2).ls (TXr.below h.2).lt hxs.wf hxs.sz).mono fun r w2 h => h.only
            simp only [hs2, hm] at hM1 hM2
            simp only [hs1] at hM3
            unfold TrOnly at hM1 hM2 hM3
            have hE1 := fun (w' : World) (m1 m2 : El) (h1 : LsAt w' m.l m1) (h2 : LsAt w' m.l m2) (l1 : m1.lt w'.heap.size) (l2 : m2.lt w'.heap.size) => same_at h1 h2 l1 l2
            have hE2 := fun (w' : World) (h : (BoxV w' w1.heap.size v e ∧ BoxV w' w2.heap.size x u1) ∧ Below wr.heap.size wr w') (m3 : El) (hl : LsAt w' x.l m3) (ht : m3.lt w'.heap.size) => same_at hl (TXr.below h.2).ls ht (TXr.below h.2).lt
            obtain ⟨uA, un, uc, uf⟩ := u1
            simp only at hxu
            subst hxu
            clear hs1 hs2 hc HC hm HLL hlL hlt hasc hnm hll hLl hnb hjk hj10 hj1 hlt2
            go_wp2_with fail
            go_region_held3 (fun w' => (BoxV w' w1.heap.size v e ∧ BoxV w' w2.heap.size x ⟨uA, e.n, uc, uf⟩) ∧ Below wr.heap.size wr w')
              (first | exact hS0 _ (Below.refl _ _).drew | (refine hS2 _ _ ?_ hbA; assumption) | (refine hS2 _ _ ?_ hbB; assumption) | (refine hS2 _ _ ?_ hbC; assumption) | (refine hS2 _ _ ?_ hbD; assumption) | (refine hS2 _ _ ?_ hbE; assumption) | fail)
              (first
                | (go_at_call 16; have hq := hM1; clear hq; refine (hM1 _ (by assumption)).mono ?_; clear hM1; rintro r wa ⟨m1, rfl, hlm1, htm1, hbA⟩)
                | (go_at_call 16; refine (hM2 _ (by assumption)).mono ?_; clear hM2; rintro r wb ⟨m2, rfl, hlm2, htm2, hbB⟩; replace hlm1 := hlm1.below htm1 hbB; replace htm1 := htm1.mono hbB.size)
                | (go_at_call 9; have hq := hE1; clear hq; refine (hE1 _ m1 m2 hlm1 hlm2 htm1 htm2).mono ?_; clear hE1; rintro r wc ⟨rfl, hbC⟩)
                | (go_at_call 6; refine (hM3 _ (by assumption)).mono ?_; rintro r wd ⟨m3, rfl, hlm3, htm3, hbD⟩)
                | (go_at_call 9; refine (hE2 _ (by assumption) m3 hlm3 htm3).mono ?_; rintro r we ⟨rfl, hbE⟩))
            rename_i hHeld
            have kR := hHeld.2
            clear hS0 hS2 hM3 hE2 hHeld
            go_wp2_with fail
            go_ret
            exact ⟨by simp, K.up kR⟩
    · obtain rfl : lq = false := hL12 rfl
      clear hL12
      go_region_held3 (fun w' => (BoxV w' w1.heap.size v e ∧ BoxV w' w2.heap.size x u1 ∧ BoxV w' w3.heap.size a ea ∧ BoxV w' (w3.heap.size + 1) ba eb) ∧ Below w4.heap.size w4 w')
        (first | exact hS0 _ (Below.refl _ _).drew | (refine hS2 _ _ ?_ hbA; assumption) | (refine hS2 _ _ ?_ hbB; assumption) | (refine hS2 _ _ ?_ hbC; assumption) | (refine hS2 _ _ ?_ hbD; assumption) | (refine hS2 _ _ ?_ hbE; assumption) | (refine hS2 _ _ ?_ hbF; assumption) | (refine hS2 _ _ ?_ hbG; assumption) | (refine hS2 _ _ ?_ hbH; assumption) | (refine hS2 _ _ ?_ hbI; assumption) | fail)
        (first
          | (go_at_call 10; refine (hSt _ (by assumption)).mono ?_; rintro r wa ⟨u2, rfl, hl2, ht2, hbA⟩)
          | (go_at_call 9; refine (hEq _ (by assumption) u2 hl2 ht2).mono ?_; rintro r wb ⟨rfl, hbB⟩)
          | (go_at_call 11; refine (hLi _ (by assumption)).mono ?_; rintro r wc ⟨rfl, hbC⟩)
          | (go_at_call 12; refine (hLs _ (by assumption)).mono ?_; rintro r wd ⟨rfl, hbD⟩)
          | (go_at_call 13; have hq := hP1; clear hq; refine (hP1 _ (by assumption)).mono ?_; clear hP1; rintro r we ⟨rfl, hbE⟩)
          | (go_at_call 14; refine (hPs _ (by assumption)).mono ?_; rintro r wf ⟨rfl, hbF⟩)
          | (go_at_call 13; have hq := hP2; clear hq; refine (hP2 _ (by assumption)).mono ?_; clear hP2; rintro r wg ⟨rfl, hbG⟩)
          | (go_at_call 13; have hq := hP3; clear hq; refine (hP3 _ (by assumption)).mono ?_; clear hP3; rintro r wh ⟨rfl, hbH⟩)
          | (go_at_call 13; refine (hP4 _ (by assumption)).mono ?_; rintro r wi ⟨rfl, hbI⟩))
      rename_i hHeld
      have kR := hHeld.2
      rename World => wR
      replace TV := TV.below kR
      replace TX := TX.below kR
      replace K := K.up kR
      try clear hP1
      try clear hP2
      try clear hP3
      clear hS0 hS2 hSt hEq hLi hLs hPs hP4 hHeld kR
      as_aux_lemma =>
        have hen : v.l.length = e.n := TV.ls.len
        have hun : x.l.length = u1.n := TX.ls.len
        by_cases hc : v.k = 10 ∧ v.l.length % 2 = 0
        rotate_left
        · obtain rfl : x = v := by rw [← HX.out]; exact sortT_no hc
          have hE := same_tb TX TV
          have hcc : ((x.k != 10) = true) ∨ ((x.k != 10) = false ∧ ((e.n : Int) % 2 != 0) = true) := by
            by_cases h1 : x.k = 10
            · right; refine ⟨by simp [h1], ?_⟩; have h2 : ¬ (x.l.length % 2 = 0) := fun h3 => hc ⟨h1, h3⟩; simp; omega
            · left; simpa using h1
          have hQ := HX
          clear hc HX hvs hxs hen hun hQ
          obtain ⟨a0, a1, a2, a3, a4⟩ := TV.blk.boxV
          obtain ⟨b0, b1, b2, b3, b4⟩ := TX.blk.boxV
          rcases hcc with q1 | ⟨q1, q2⟩
          · go_wp2_with (go_at_call 9; refine hE.mono ?_; rintro r wb ⟨rfl, hbB⟩)
            go_ret
            exact ⟨rfl, K.up hbB⟩
          · go_wp2_with (go_at_call 9; refine hE.mono ?_; rintro r wb ⟨rfl, hbB⟩)
            go_ret
            exact ⟨rfl, K.up hbB⟩
        obtain ⟨L, hLn, hasc, hs1, hs2, hnm, hll⟩ := tight_law hvs hc
        have hlx := sortT_len v
        rw [HX.out] at hLn hs1 hs2 hlx
        have q1 : (v.k != 10) = false := by simp [hc.1]
        have q2 : ((e.n : Int) % 2 != 0) = false := by have := hc.2; simp; omega
        have hxu : u1.n = e.n := by omega
        have hNi := i_NamesOf x u1 wR hxs.sz TX.ls TX.lt hxs.names.2.2
        rw [hLn] at hNi
        unfold NamesAt at hNi
        have HC := Lib.hid (And.intro hs1 (And.intro hs2 (And.intro hxu hc)))
        clear hs1 hs2 hxu hc hlx hLn hen hun HX
        obtain ⟨a0, a1, a2, a3, a4⟩ := TV.blk.boxV
        obtain ⟨b0, b1, b2, b3, b4⟩ := TX.blk.boxV
        go_wp2_with fail
        refine hNi.mono ?_; rintro r wP ⟨le, rfl, hlL, hlt, hbP⟩
        clear hNi q1 q2
        clear a0 a1 a2 a3 a4 b0 b1 b2 b3 b4
        replace TV := TV.below hbP
        replace TX := TX.below hbP
        replace K := K.up hbP
        clear hbP
        obtain ⟨lA, nL, lc, lfp⟩ := le
        have hLl : L.length = nL := hlL.len
        have hnb : nL ≤ 9 := by omega
        have HLL := Lib.hid hLl
        go_wp2_with fail
        go_loopg [10] nL (fun f i wr => ∃ j : Nat, nL ≤ j + f ∧ 1 ≤ j ∧ i = .int .i64 j ∧ j ≤ 10 ∧ Below wP.heap.size wP wr)
        case atStart => exact ⟨1, by omega, Nat.le_refl _, rfl, by omega, Below.refl _ _⟩
        case round =>
          obtain ⟨j, hjk, hj1, rfl, hj10, hb⟩ := hrel
          have TVr := TV.below hb
          have TXr := TX.below hb
          replace K := K.up hb
          by_cases hlt2 : j < nL
          · obtain ⟨f, rfl⟩ : ∃ f, gk = f + 1 := ⟨gk - 1, by omega⟩
            obtain ⟨k, rfl⟩ : ∃ k, j = k + 1 := ⟨j - 1, by omega⟩
            have hLr := hlL.below hlt hb
            have hlr := hlt.mono hb.size
            obtain ⟨g, o, es, hV⟩ := hLr.open_ (by show 0 < nL; omega)
            have hA3 : lA = some ⟨g, o, none⟩ := hV.adr
            subst hA3
            have hel : es.length = nL := hV.eslen
            have hk1 : k + 1 < L.length := by omega
            have i1 : L[k + 1]? = some L[k + 1] := List.getElem?_eq_getElem hk1
            have i0 : L[k]? = some L[k] := List.getElem?_eq_getElem (by omega)
            have j1 : es[k + 1]? = some es[k + 1] := List.getElem?_eq_getElem (by omega)
            have j0 : es[k]? = some es[k] := List.getElem?_eq_getElem (by omega)
            have hn1 := hnm _ (List.mem_of_getElem? i1)
            have hn0 := hnm _ (List.mem_of_getElem? i0)
            have hls := hasc k hk1
            have hfe : ∀ u ∈ es, u.lt wr.heap.size := fun u hu y hy => hlr y (by have h2 : lfp = g :: elFp es := hV.fp; show y ∈ lfp; rw [h2]; obtain ⟨i, hi⟩ := List.getElem?_of_mem hu; exact List.mem_cons_of_mem _ (elFp_mem hi hy))
            have hlt1 := hfe _ (List.mem_of_getElem? j1)
            have hlt0 := hfe _ (List.mem_of_getElem? j0)
            have hgl : g < wr.heap.size := hlr g (by have h2 : lfp = g :: elFp es := hV.fp; show g ∈ lfp; rw [h2]; exact List.mem_cons_self)
            have hc1 := hV.cells _ _ _ i1 j1
            have hc0 := hV.cells _ _ _ i0 j0
            have hk1l := hV.kids _ _ _ i1 j1
            have hk0l := hV.kids _ _ _ i0 j0
            generalize L[k + 1] = t1 at hn1 hls hc1 hk1l
            generalize L[k] = t0 at hn0 hls hc0 hk0l
            generalize es[k + 1] = e1 at hlt1 hc1 hk1l
            generalize es[k] = e0 at hlt0 hc0 hk0l
            have hLT := fun w1 (hb : Below wr.heap.size wr w1) => i_LessTight t1 t0 e1 e0 w1 hn1.wf hn0.wf (hk1l.below hlt1 hb) (hk0l.below hlt0 hb) (hlt1.mono hb.size) (hlt0.mono hb.size) (Nat.le_trans hn1.sz (by decide)) (Nat.le_trans hn0.sz (by decide))
            have hls2 : ltB (tightT false false t1) (tightT false false t0) = false := hls
            rw [hls2] at hLT
            have hS0 := fun (w' : World) (hb : Below wr.heap.size wr w') => (show (RowV w' g (o + (k + 1) * 5) t1 e1 ∧ RowV w' g (o + k * 5) t0 e0) ∧ Below wr.heap.size wr w' from ⟨⟨row_bel hgl hc1 hb, row_bel hgl hc0 hb⟩, hb⟩)
            have hLT2 := fun (w' : World) (h : (RowV w' g (o + (k + 1) * 5) t1 e1 ∧ RowV w' g (o + k * 5) t0 e0) ∧ Below wr.heap.size wr w') => hLT w' h.2
            have HJ := Lib.hid (And.intro hjk (And.intro hnb hlt2))
            have r1 : ((k + 1 : Nat) : Int) < (nL : Int) := by omega
            obtain ⟨z, hz⟩ : ∃ z : Int, ((k + 1 : Nat) : Int) = z := ⟨_, rfl⟩
            rw [hz] at r1 ⊢
            have r2 : (0 : Int) ≤ z := by omega
            have r3 : z.toNat = k + 1 := by omega
            obtain ⟨y, hy⟩ : ∃ y : Int, y = z - 1 := ⟨_, rfl⟩
            have r4 : (0 : Int) ≤ y := by omega
            have r5 : y < (nL : Int) := by omega
            have r6 : y.toNat = k := by omega
            have r7 : IntKind.i64.wrap (z - 1) = y := by rw [IntKind.wrap_i64]; omega
            have HZ := Lib.hid hz
            clear hy hz hls hls2 hjk hj10 hj1 hLr hV hel hk1 i1 i0 j1 j0 hfe hLT hlt2 hnb hLl hlr hk1l hk0l hn1 hn0 hlt1 hlt0 hc1 hc0
            go_wp2_with fail
            go_region_held3 (fun w' => (RowV w' g (o + (k + 1) * 5) t1 e1 ∧ RowV w' g (o + k * 5) t0 e0) ∧ Below wr.heap.size wr w')
              (first | exact hS0 _ (Below.refl _ _).drew | exact hS0 _ ((Below.refl _ _).drew.up hbA))
              (first | (go_at_call 11; refine (hLT2 _ (by assumption)).mono ?_; rintro r w9 ⟨rfl, hbA⟩))
            rename_i hHeld
            have kb := hHeld.2
            rename World => w9
            clear hS0 hLT2 hHeld r4 r5 r6 r7
            go_wp2_with fail
            go_roundg f
            case measure => omega
            case rel => exact ⟨k + 1 + 1, by have := HJ.out.1; omega, by omega, by have h1 := HZ.out; have h2 := HJ.out.2; refine congrArg (Value.int .i64) ?_; unfold wrap64; omega, by have := HJ.out.2; omega, hb.up kb⟩
          · have r1 : ¬ ((j : Nat) : Int) < (nL : Int) := by omega
            have r2 : decide (((j : Nat) : Int) < (nL : Int)) = false := decide_eq_false r1
            obtain ⟨hs1, hs2, hxu, hc⟩ := HC.out
            obtain ⟨m, hm⟩ : ∃ m, sortV v = m := ⟨_, rfl⟩
            have hS0 := fun (w' : World) (hb : Below wr.heap.size wr w') => (show (BoxV w' w1.heap.size v e ∧ BoxV w' w2.heap.size x u1) ∧ Below wr.heap.size wr w' from ⟨⟨(TVr.below hb).blk.boxV, (TXr.below hb).blk.boxV⟩, hb⟩)
            have hS2 := fun (w' w'' : World) (h : (BoxV w' w1.heap.size v e ∧ BoxV w' w2.heap.size x u1) ∧ Below wr.heap.size wr w') (hb : Below w'.heap.size w' w'') => hS0 w'' (h.2.up hb)
            have hM1 := fun (w' : World) (h : (BoxV w' w1.heap.size v e ∧ BoxV w' w2.heap.size x u1) ∧ Below wr.heap.size wr w') => (i_SortMap x u1 w' (TXr.below h.2).ls (TXr.below h.2).lt hxs.nm hxs.sz).mono fun r w2 h => h.only
            have hM2 := fun (w' : World) (h : (BoxV w' w1.heap.size v e ∧ BoxV w' w2.heap.size x u1) ∧ Below wr.heap.size wr w') => (i_SortMap v e w' (TVr.below h.2).ls (TVr.below h.2).lt hvs.nm hvs.sz).mono fun r w2 h => h.only
            have hM3 := fun (w' : World) (h : (BoxV w' w1.heap.size v e ∧ BoxV w' w2.heap.size x u1) ∧ Below wr.heap.size wr w') => (i_SortTight x u1 w' (TXr.below h.2).ls (TXr.below h.2).lt hxs.wf hxs.sz).mono fun r w2 h => h.only
            simp only [hs2, hm] at hM1 hM2
            simp only [hs1] at hM3
            unfold TrOnly at hM1 hM2 hM3
            have hE1 := fun (w' : World) (m1 m2 : El) (h1 : LsAt w' m.l m1) (h2 : LsAt w' m.l m2) (l1 : m1.lt w'.heap.size) (l2 : m2.lt w'.heap.size) => same_at h1 h2 l1 l2
            have hE2 := fun (w' : World) (h : (BoxV w' w1.heap.size v e ∧ BoxV w' w2.heap.size x u1) ∧ Below wr.heap.size wr w') (m3 : El) (hl : LsAt w' x.l m3) (ht : m3.lt w'.heap.size) => same_at hl (TXr.below h.2).ls ht (TXr.below h.2).lt
            obtain ⟨uA, un, uc, uf⟩ := u1
            simp only at hxu
            subst hxu
            clear hs1 hs2 hc HC hm HLL hlL hlt hasc hnm hll hLl hnb hjk hj10 hj1 hlt2
            go_wp2_with fail
            go_region_held3 (fun w' => (BoxV w' w1.heap.size v e ∧ BoxV w' w2.heap.size x ⟨uA, e.n, uc, uf⟩) ∧ Below wr.heap.size wr w')
              (first | exact hS0 _ (Below.refl _ _).drew | (refine hS2 _ _ ?_ hbA; assumption) | (refine hS2 _ _ ?_ hbB; assumption) | (refine hS2 _ _ ?_ hbC; assumption) | (refine hS2 _ _ ?_ hbD; assumption) | (refine hS2 _ _ ?_ hbE; assumption) | fail)
              (first
                | (go_at_call 16; have hq := hM1; clear hq; refine (hM1 _ (by assumption)).mono ?_; clear hM1; rintro r wa ⟨m1, rfl, hlm1, htm1, hbA⟩)
                | (go_at_call 16; refine (hM2 _ (by assumption)).mono ?_; clear hM2; rintro r wb ⟨m2, rfl, hlm2, htm2, hbB⟩; replace hlm1 := hlm1.below htm1 hbB; replace htm1 := htm1.mono hbB.size)
                | (go_at_call 9; have hq := hE1; clear hq; refine (hE1 _ m1 m2 hlm1 hlm2 htm1 htm2).mono ?_; clear hE1; rintro r wc ⟨rfl, hbC⟩)
                | (go_at_call 6; refine (hM3 _ (by assumption)).mono ?_; rintro r wd ⟨m3, rfl, hlm3, htm3, hbD⟩)
                | (go_at_call 9; refine (hE2 _ (by assumption) m3 hlm3 htm3).mono ?_; rintro r we ⟨rfl, hbE⟩))
            rename_i hHeld
            have kR := hHeld.2
            clear hS0 hS2 hM3 hE2 hHeld
            go_wp2_with fail
            go_ret
            exact ⟨by simp, K.up kR⟩
end Go.Proofs.YtmnlkedacnemcaaGreatDoor
