/- The law on AtPath. (Written by wip/gen/lawtree.py.) -/
import Derived.Test.YtnfokfogmniehaaAtPath3
import Derived.Test.YtnfokfogmniehaaMarkVal
import Derived.Test.YtnfokfogmniehaaOpenVal
set_option linter.unusedVariables false
set_option maxRecDepth 100000
set_option linter.unusedSimpArgs false
namespace Go.Proofs.Ytnfokfogmniehaa
open Go.ChangeShapes Go.WideShapes Go.ChangeAt Go.RowKit

theorem steps_of : ∀ (n : Nat) (xs : List Value), xs.length = n * 2 → (∀ i, i < n → ∃ (a : Int) (b : Bool), (xs.drop (i * 2)).take 2 = [.int .i64 a, .bool b] ∧ -9223372036854775808 ≤ a ∧ a ≤ 9223372036854775807) →
    ∃ ps : List (Int × Bool), xs = stC ps ∧ ∀ p ∈ ps, -9223372036854775808 ≤ p.1 ∧ p.1 ≤ 9223372036854775807
  | 0, xs, h, _ => ⟨[], List.eq_nil_of_length_eq_zero (by omega), fun p hp => by cases hp⟩
  | n + 1, xs, h, hq => by
    obtain ⟨a, b, hab, hb⟩ := hq 0 (by omega)
    match xs, h with
    | [], h => simp at h
    | [_], h => simp at h; omega
    | x0 :: x1 :: ys, h =>
      obtain ⟨ps, hps, hbd⟩ := steps_of n ys (by simp at h; omega) fun i hi => by
        obtain ⟨a, b, h1, h2⟩ := hq (i + 1) (by omega)
        exact ⟨a, b, by rw [← h1, show (i + 1) * 2 = i * 2 + 1 + 1 by omega]; rfl, h2⟩
      simp at hab
      refine ⟨(a, b) :: ps, by rw [hab.1, hab.2, hps]; rfl, fun p hp => ?_⟩
      rcases List.mem_cons.1 hp with rfl | hp
      · exact hb
      · exact hbd p hp
theorem two_of {α : Type} {cs : List α} (h : cs.length = 2) : ∃ a b, cs = [a, b] := by
  match cs, h with
  | [a, b], _ => exact ⟨a, b, rfl⟩
/-- Steps that came in, opened. -/
theorem open_steps {H : Type} {enc : TypeId × Value → H} {w : World} {r : Reach} {b0 : Nat} {v : Value} {d : DataW H} {p : List MemPlace} (hval : Value.okWide Try.prog w r b0 53 v)
    (h : DataW.Trod enc Try.prog w 0 (fun _ => true) true 53 v d p) (hlt : ∀ x ∈ p, x.block < w.heap.size) :
    ∃ (A : Option Addr) (n c : Nat) (ps : List (Int × Bool)), v = .slice A n c ∧ Sl w w.heap.size 2 A n c (stC ps) ∧ ∀ p ∈ ps, -9223372036854775808 ≤ p.1 ∧ p.1 ≤ 9223372036854775807 := by
  obtain ⟨a0, l0, c0, rfl⟩ := okWide_slice Try.underlying53 hval
  obtain ⟨fuel, hf⟩ := h
  obtain ⟨A, n, c, xs, hv, hs, hx⟩ := open_sl (B := w.heap.size) Try.underlying53 (show Try.prog.cellsOf 99 = 2 by kernel_rfl) (by decide) hf hlt
  obtain ⟨ps, rfl, hb⟩ := steps_of n xs hs.len fun i hi => by
    obtain ⟨f, y, _, hy, _⟩ := hx i hi
    obtain ⟨ys, f2, _, _, hl, hxl, hg⟩ := DataW.trod_struct Try.underlying99 hy
    obtain ⟨c0, c1, hcs⟩ := two_of (hl.trans (by kernel_rfl))
    obtain ⟨y0, y1, rfl⟩ := two_of (hxl.trans (by rfl))
    rw [hcs] at hg
    have h0 := hg 0 _ rfl
    have h1 := hg 1 _ rfl
    have g0 : DataW.trod enc Try.prog w 0 (fun _ => true) true f2 3 [c0] = some y0 := by rw [show Try.prog.cellsOf _ = 1 from by kernel_rfl] at h0; exact h0
    have g1 : DataW.trod enc Try.prog w 0 (fun _ => true) true f2 4 [c1] = some y1 := by rw [show Try.prog.cellsOf _ = 1 from by kernel_rfl] at h1; exact h1
    obtain ⟨k, e0, _, w0⟩ := DataW.trod_int Try.underlying3 g0
    obtain ⟨b, e1, _⟩ := DataW.trod_bool Try.underlying4 g1
    simp only [List.cons.injEq, and_true] at e0 e1
    exact ⟨k, b, by rw [hcs, e0, e1], bounds_i64 w0⟩
  exact ⟨A, n, c, ps, hv, hs, hb⟩
theorem Blk.fr_ {w w' : World} {g : Nat} {T : TypeId} {cs : Array Value} {fp : List Nat} (h : Blk w g T cs) (hf : Fr fp w w') (hn : g ∉ fp) : Blk w' g T cs := (hf.block g h.lt hn).trans h
theorem atPath_sz : ∀ (ps : List (Int × Bool)) (t u : Tr), atPath t ps = some u → u.sz ≤ t.sz
  | [], t, u, h => by simp [atPath] at h; rw [h]; exact Nat.le_refl _
  | p :: ps, t, u, h => by
    cases hst : stepT t p with
    | none => rw [atPath_no hst] at h; cases h
    | some x =>
      rw [atPath_yes hst] at h
      have h1 := atPath_sz ps x u h
      unfold stepT at hst
      split at hst
      · cases hst
      · obtain ⟨hi, rfl⟩ := List.getElem?_eq_some_iff.1 hst
        exact Nat.le_trans h1 (child_sz hi)
set_option maxHeartbeats 4000000 in
theorem law_AtPath (t : Tr) (e : El) (A : Option Addr) (n c : Nat) (ps : List (Int × Bool)) (w : World) (hl : LsAt w t.l e) (hel : e.lt w.heap.size) (hwf : t.wf) (hps : Sl w w.heap.size 2 A n c (stC ps)) (hpb : ∀ p ∈ ps, -9223372036854775808 ≤ p.1 ∧ p.1 ≤ 9223372036854775807) :
    Calls Try.prog 7 #[trV t e, .slice A n c] w fun e' w' => e' = .returned (.bool true) ∧ Below w.heap.size w w' := by
  have hsz := fun w1 (hb : Below w.heap.size w w1) => l_szVal t e 1048576 w1 hwf (hl.below hel hb) (hel.mono hb.size) (by decide) (by decide)
  have hnm : n ≤ 9223372036854775807 := by have := hps.cap; have := hps.max; unfold maxLen at *; omega
  have BV : Blk (w.alloc (.cells (valCells t e) 40)) w.heap.size 40 (valCells t e) := Blk.new w _ _
  have K := Below.one w (.cells (valCells t e) 40)
  have zV : (w.alloc (.cells (valCells t e) 40)).heap.size = w.heap.size + 1 := by simp
  by_cases hle : t.sz ≤ 1048576
  · have hres : szRes 1048576 t.sz = 1048576 - t.sz := by unfold szRes; rw [if_pos (by omega)]
    rw [hres] at hsz
    have hss := fun w1 => l_szStepS A n c (1048576 - t.sz) w1 hnm (by omega) (by omega)
    by_cases hln : (n : Int) ≤ 1048576 - t.sz
    case neg =>
      rw [if_neg hln] at hss
      go_enter Try.func7, Try.ntmps7
      go_wp2_with (first
        | (go_at_call 30; refine (hsz _ K).mono ?_; rintro r w1 ⟨rfl, hb1⟩)
        | (go_at_call 39; refine (hss _).mono ?_; rintro r w2 ⟨rfl, rfl⟩))
      go_ret
      exact ⟨rfl, K.up hb1⟩
    rw [if_pos hln] at hss
    have hto := fun w1 (hb : Below w.heap.size w w1) => l_toVal t e w1 (hl.below hel hb) (hel.mono hb.size) hle
    have hst := fun w1 (hb : Below w.heap.size w w1) => l_toStepS A n c ps w1 w.heap.size (hps.below hb) hb.size (by omega)
    obtain ⟨R, ok, hRz, hS, hI⟩ : ∃ (R : Tr) (ok : Bool), cntL R.l ≤ 4194304 ∧
        (∀ u A' c' w1, LsAt w1 t.l u → u.lt w1.heap.size → SS w1 0 A' n c' ps → Calls Try.prog 40 #[trV t u, .slice A' n c'] w1 fun r w' => ∃ v : El, r = .returned (.tuple #[trV R v, .bool ok]) ∧ LsAt w' R.l v ∧ Own w' w1.heap.size v.fp ∧ Below w1.heap.size w1 w') ∧
        (∀ u A' c' w1, LsAt w1 t.l u → u.lt w1.heap.size → SS w1 0 A' n c' ps → Calls Try.prog 42 #[trV t u, .slice A' n c'] w1 fun r w' => ∃ v : El, r = .returned (.tuple #[trV R v, .bool ok]) ∧ LsAt w' R.l v ∧ Own w' w1.heap.size v.fp ∧ Below w1.heap.size w1 w') := by
      refine ⟨(atPath t ps).getD zT, (atPath t ps).isSome, ?_, fun u A' c' w1 h1 h2 h3 => ?_, fun u A' c' w1 h1 h2 h3 => ?_⟩
      · cases hq : atPath t ps with
        | none => exact Nat.zero_le _
        | some x =>
          have := cntT_sz x
          have := atPath_sz ps t x hq
          show cntL x.l ≤ _
          omega
      · exact s_AtPath t u A' n c' ps w1 h1 h2 (by omega) h3.sl hpb
      · exact i_AtPath t u A' n c' ps w1 h1 h2 (by omega) h3.sl
    have hSp := fun lo u A' c' w1 h1 h2 (h3 : SS w1 lo A' n c' ps) => hS u A' c' w1 h1 h2 (own_mono h3 (Nat.zero_le _))
    have hIp := fun lo u A' c' w1 h1 h2 (h3 : SS w1 lo A' n c' ps) => hI u A' c' w1 h1 h2 (own_mono h3 (Nat.zero_le _))
    have hcx : cntL t.l ≤ 4194304 := by have := cntT_sz t; omega
    clear hS hI hres hwf hpb
    go_enter Try.func7, Try.ntmps7
    obtain ⟨p00, p01, p02, p03, p04⟩ := Blk.boxV BV
    go_wp2_with fail
    clear p00 p01 p02 p03 p04
    refine (hsz _ K).mono ?_; rintro e wz ⟨rfl, hbz⟩
    clear hsz
    replace BV := BV.below hbz BV.lt
    replace K := K.up hbz
    have z_hbz := hbz.size
    go_wp2_with fail
    refine (hss _).mono ?_; rintro r wz2 ⟨rfl, rfl⟩
    obtain ⟨p00, p01, p02, p03, p04⟩ := Blk.boxV BV
    go_wp2_with fail
    clear p00 p01 p02 p03 p04
    refine (hto _ K).mono ?_; rintro e wa ⟨ua, rfl, ha, oa, hba⟩
    replace BV := BV.below hba BV.lt
    replace K := K.up hba
    have z_hba := hba.size
    have fra := fun g hg => (oa.2 g hg).1
    have toa := fun g hg => oa.lt (g := g) hg
    go_wp2_with fail
    refine (hst _ K).mono ?_; rintro e wb ⟨Ab, cb, rfl, hb, hbb⟩
    replace BV := BV.below hbb BV.lt
    replace ha := ha.below (fun g hg => oa.lt hg) hbb
    replace oa := oa.below (fun g hg => oa.lt hg) hbb
    replace K := K.up hbb
    have z_hbb := hbb.size
    have frb := fun g hg => (SS.lt hb (g := g) hg).1
    have tob := fun g hg => (SS.lt hb (g := g) hg).2
    go_wp2_with fail
    refine (hSp _ _ _ _ _ ha (fun g hg => oa.lt hg) hb).mono ?_; rintro e wW ⟨uW, rfl, hW, oW, hbW⟩
    replace BV := BV.below hbW BV.lt
    replace ha := ha.below (fun g hg => oa.lt hg) hbW
    replace oa := oa.below (fun g hg => oa.lt hg) hbW
    replace hb := hb.below hbW
    replace K := K.up hbW
    have z_hbW := hbW.size
    have frW := fun g hg => (oW.2 g hg).1
    have toW := fun g hg => oW.lt (g := g) hg
    clear ha
    clear hb
    have BW : Blk (wW.alloc (.cells (valCells R uW) 46)) wW.heap.size 46 (valCells R uW) := Blk.new wW _ _
    have hbxW := Below.one wW (.cells (valCells R uW) 46)
    have zbxW : (wW.alloc (.cells (valCells R uW) 46)).heap.size = wW.heap.size + 1 := by simp
    replace BV := BV.below hbxW BV.lt
    replace hW := hW.below (fun g hg => oW.lt hg) hbxW
    replace oW := oW.below (fun g hg => oW.lt hg) hbxW
    replace K := K.up hbxW
    have z_hbxW := hbxW.size
    obtain ⟨p00, p01, p02, p03, p04⟩ := Blk.boxV BV
    go_wp2_with fail
    clear p00 p01 p02 p03 p04
    refine (hto _ K).mono ?_; rintro e wX ⟨uX, rfl, hX, oX, hbX⟩
    replace BV := BV.below hbX BV.lt
    replace hW := hW.below (fun g hg => oW.lt hg) hbX
    replace oW := oW.below (fun g hg => oW.lt hg) hbX
    replace BW := BW.below hbX BW.lt
    replace K := K.up hbX
    have z_hbX := hbX.size
    have frX := fun g hg => (oX.2 g hg).1
    have toX := fun g hg => oX.lt (g := g) hg
    have BX : Blk (wX.alloc (.cells (valCells t uX) 46)) wX.heap.size 46 (valCells t uX) := Blk.new wX _ _
    have hbxX := Below.one wX (.cells (valCells t uX) 46)
    have zbxX : (wX.alloc (.cells (valCells t uX) 46)).heap.size = wX.heap.size + 1 := by simp
    replace BV := BV.below hbxX BV.lt
    replace hW := hW.below (fun g hg => oW.lt hg) hbxX
    replace oW := oW.below (fun g hg => oW.lt hg) hbxX
    replace BW := BW.below hbxX BW.lt
    replace hX := hX.below (fun g hg => oX.lt hg) hbxX
    replace oX := oX.below (fun g hg => oX.lt hg) hbxX
    replace K := K.up hbxX
    have z_hbxX := hbxX.size
    go_wp2_with fail
    refine (hst _ K).mono ?_; rintro e wP ⟨AP, cP, rfl, hP, hbP⟩
    replace BV := BV.below hbP BV.lt
    replace hW := hW.below (fun g hg => oW.lt hg) hbP
    replace oW := oW.below (fun g hg => oW.lt hg) hbP
    replace BW := BW.below hbP BW.lt
    replace hX := hX.below (fun g hg => oX.lt hg) hbP
    replace oX := oX.below (fun g hg => oX.lt hg) hbP
    replace BX := BX.below hbP BX.lt
    replace K := K.up hbP
    have z_hbP := hbP.size
    have frP := fun g hg => (SS.lt hP (g := g) hg).1
    have toP := fun g hg => (SS.lt hP (g := g) hg).2
    obtain ⟨p00, p01, p02, p03, p04⟩ := Blk.boxV BX
    go_wp2_with fail
    clear p00 p01 p02 p03 p04
    refine (hIp _ _ _ _ _ hX (fun g hg => oX.lt hg) hP).mono ?_; rintro e wG ⟨uG, rfl, hG, oG, hbG⟩
    replace BV := BV.below hbG BV.lt
    replace hW := hW.below (fun g hg => oW.lt hg) hbG
    replace oW := oW.below (fun g hg => oW.lt hg) hbG
    replace BW := BW.below hbG BW.lt
    replace hX := hX.below (fun g hg => oX.lt hg) hbG
    replace oX := oX.below (fun g hg => oX.lt hg) hbG
    replace BX := BX.below hbG BX.lt
    replace hP := hP.below hbG
    replace K := K.up hbG
    have z_hbG := hbG.size
    have frG := fun g hg => (oG.2 g hg).1
    have toG := fun g hg => oG.lt (g := g) hg
    have BG : Blk (wG.alloc (.cells (valCells R uG) 46)) wG.heap.size 46 (valCells R uG) := Blk.new wG _ _
    have hbxG := Below.one wG (.cells (valCells R uG) 46)
    have zbxG : (wG.alloc (.cells (valCells R uG) 46)).heap.size = wG.heap.size + 1 := by simp
    replace BV := BV.below hbxG BV.lt
    replace hW := hW.below (fun g hg => oW.lt hg) hbxG
    replace oW := oW.below (fun g hg => oW.lt hg) hbxG
    replace BW := BW.below hbxG BW.lt
    replace hX := hX.below (fun g hg => oX.lt hg) hbxG
    replace oX := oX.below (fun g hg => oX.lt hg) hbxG
    replace BX := BX.below hbxG BX.lt
    replace hP := hP.below hbxG
    replace hG := hG.below (fun g hg => oG.lt hg) hbxG
    replace oG := oG.below (fun g hg => oG.lt hg) hbxG
    replace K := K.up hbxG
    have z_hbxG := hbxG.size
    obtain ⟨p00, p01, p02, p03, p04⟩ := Blk.boxV BG
    obtain ⟨p10, p11, p12, p13, p14⟩ := Blk.boxV BW
    go_wp2_with fail
    clear p00 p01 p02 p03 p04 p10 p11 p12 p13 p14
    refine (l_eqVal R uG uW _ hG hW (fun g hg => oG.lt hg) (fun g hg => oW.lt hg)).mono ?_; rintro e w5 ⟨rfl, hb5⟩
    replace BV := BV.below hb5 BV.lt
    replace hW := hW.below (fun g hg => oW.lt hg) hb5
    replace oW := oW.below (fun g hg => oW.lt hg) hb5
    replace BW := BW.below hb5 BW.lt
    replace hX := hX.below (fun g hg => oX.lt hg) hb5
    replace oX := oX.below (fun g hg => oX.lt hg) hb5
    replace BX := BX.below hb5 BX.lt
    replace hP := hP.below hb5
    replace hG := hG.below (fun g hg => oG.lt hg) hb5
    replace oG := oG.below (fun g hg => oG.lt hg) hb5
    replace BG := BG.below hb5 BG.lt
    replace K := K.up hb5
    have z_hb5 := hb5.size
    have hS0 := fun (w' : World) (hb : Below w5.heap.size w5 w') => (show (BoxV w' wX.heap.size t uX ∧ BoxV w' w.heap.size t e) ∧ Below w5.heap.size w5 w' from ⟨⟨(BX.below hb BX.lt).boxV, (BV.below hb BV.lt).boxV⟩, hb⟩)
    have hS2 := fun (w' w'' : World) (h : (BoxV w' wX.heap.size t uX ∧ BoxV w' w.heap.size t e) ∧ Below w5.heap.size w5 w') (hb : Below w'.heap.size w' w'') => hS0 w'' (h.2.up hb)
    have hT := fun (w' : World) (h : (BoxV w' wX.heap.size t uX ∧ BoxV w' w.heap.size t e) ∧ Below w5.heap.size w5 w') => hto w' (K.up h.2)
    have hE := fun (w' : World) (h : (BoxV w' wX.heap.size t uX ∧ BoxV w' w.heap.size t e) ∧ Below w5.heap.size w5 w') (z : El) (h1 : LsAt w' t.l z) (h2 : Own w' 0 z.fp) => l_eqVal t uX z w' (hX.below (fun g hg => oX.lt hg) h.2) h1 (fun g hg => Nat.lt_of_lt_of_le (oX.lt hg) h.2.size) (fun g hg => h2.lt hg)
    go_wp2_with fail
    go_region_held3 (fun w' => (BoxV w' wX.heap.size t uX ∧ BoxV w' w.heap.size t e) ∧ Below w5.heap.size w5 w')
      (first | exact hS0 _ (Below.refl _ _).drew | (refine hS2 _ _ ?_ hbq; assumption) | (refine hS2 _ _ ?_ hbr; assumption))
      (first
        | (go_at_call 32; refine (hT _ (by assumption)).mono ?_; rintro e w2 ⟨z, rfl, hz1, hz2, hbq⟩)
        | (go_at_call 35; refine (hE _ (by assumption) _ hz1 (hz2.mono (Nat.zero_le _))).mono ?_; rintro e w3 ⟨rfl, hbr⟩))
    rename_i hHeld
    have kb6 := hHeld.2
    rename World => w6
    clear hS0 hS2 hT hE hHeld hbq hbr hz1 hz2
    replace BV := BV.below kb6 BV.lt
    replace hW := hW.below (fun g hg => oW.lt hg) kb6
    replace oW := oW.below (fun g hg => oW.lt hg) kb6
    replace BW := BW.below kb6 BW.lt
    replace hX := hX.below (fun g hg => oX.lt hg) kb6
    replace oX := oX.below (fun g hg => oX.lt hg) kb6
    replace BX := BX.below kb6 BX.lt
    replace hP := hP.below kb6
    replace hG := hG.below (fun g hg => oG.lt hg) kb6
    replace oG := oG.below (fun g hg => oG.lt hg) kb6
    replace BG := BG.below kb6 BG.lt
    replace K := K.up kb6
    have z_kb6 := kb6.size
    go_wp2_with fail
    refine (hst _ K).mono ?_; rintro e w7 ⟨A7, c7, rfl, h7, hb7⟩
    replace BV := BV.below hb7 BV.lt
    replace hW := hW.below (fun g hg => oW.lt hg) hb7
    replace oW := oW.below (fun g hg => oW.lt hg) hb7
    replace BW := BW.below hb7 BW.lt
    replace hX := hX.below (fun g hg => oX.lt hg) hb7
    replace oX := oX.below (fun g hg => oX.lt hg) hb7
    replace BX := BX.below hb7 BX.lt
    replace hP := hP.below hb7
    replace hG := hG.below (fun g hg => oG.lt hg) hb7
    replace oG := oG.below (fun g hg => oG.lt hg) hb7
    replace BG := BG.below hb7 BG.lt
    replace K := K.up hb7
    have z_hb7 := hb7.size
    have fr7 := fun g hg => (SS.lt h7 (g := g) hg).1
    have to7 := fun g hg => (SS.lt h7 (g := g) hg).2
    go_wp2_with fail
    refine (l_eqStepS ps _ _ _ _ _ _ _ hP.sl h7.sl).mono ?_; rintro e w8 ⟨rfl, hb8⟩
    replace BV := BV.below hb8 BV.lt
    replace hW := hW.below (fun g hg => oW.lt hg) hb8
    replace oW := oW.below (fun g hg => oW.lt hg) hb8
    replace BW := BW.below hb8 BW.lt
    replace hX := hX.below (fun g hg => oX.lt hg) hb8
    replace oX := oX.below (fun g hg => oX.lt hg) hb8
    replace BX := BX.below hb8 BX.lt
    replace hP := hP.below hb8
    replace hG := hG.below (fun g hg => oG.lt hg) hb8
    replace oG := oG.below (fun g hg => oG.lt hg) hb8
    replace BG := BG.below hb8 BG.lt
    replace h7 := h7.below hb8
    replace K := K.up hb8
    have z_hb8 := hb8.size
    clear h7
    obtain ⟨p00, p01, p02, p03, p04⟩ := Blk.boxV BX
    go_wp2_with fail
    clear p00 p01 p02 p03 p04
    refine (l_markVal t uX 1 _ _ hX oX (Nat.le_refl _) (by omega)).mono ?_; rintro e w9 ⟨rfl, hX9, oX9, hf9⟩
    have frF := frX
    have toF := toX
    have zz9 := hf9.size
    have kf9 := hf9.below (B := wW.heap.size) (fun g hg => by have := frX g hg; omega) (by omega)
    have zBV := BV.lt
    replace BV := Blk.fr_ BV hf9 (fun hg2 => by have := toF _ hg2; have := frF _ hg2; omega)
    replace hW := hW.fr hf9 (fun g hg => oW.lt hg) (fun g hg hg2 => by have := toW g hg; have := frW g hg; have := toF g hg2; have := frF g hg2; omega)
    replace oW := oW.fr hf9 (fun g hg hg2 => by have := toW g hg; have := frW g hg; have := toF g hg2; have := frF g hg2; omega)
    replace BW := Blk.fr_ BW hf9 (fun hg2 => by have := toF _ hg2; have := frF _ hg2; omega)
    replace BX := Blk.fr_ BX hf9 (fun hg2 => by have := toF _ hg2; have := frF _ hg2; omega)
    replace hP := hP.fr hf9 (fun g hg hg2 => by have := toP g hg; have := frP g hg; have := toF g hg2; have := frF g hg2; omega)
    replace hG := hG.fr hf9 (fun g hg => oG.lt hg) (fun g hg hg2 => by have := toG g hg; have := frG g hg; have := toF g hg2; have := frF g hg2; omega)
    replace oG := oG.fr hf9 (fun g hg hg2 => by have := toG g hg; have := frG g hg; have := toF g hg2; have := frF g hg2; omega)
    replace BG := Blk.fr_ BG hf9 (fun hg2 => by have := toF _ hg2; have := frF _ hg2; omega)
    replace K := K.trans (kf9.mono (by have := K.size; omega))
    clear hX9 oX9 hX oX frF toF
    clear BX
    go_wp2_with fail
    refine (l_markStepS _ _ _ _ (1 + cntL t.l) _ _ hP (by omega) (by omega)).mono ?_; rintro e w10 ⟨rfl, ⟨psm, hP10⟩, hf10⟩
    have frF := frP
    have toF := toP
    have zz10 := hf10.size
    have kf10 := hf10.below (B := wW.heap.size) (fun g hg => by have := frP g hg; omega) (by omega)
    replace BV := Blk.fr_ BV hf10 (fun hg2 => by have := toF _ hg2; have := frF _ hg2; omega)
    replace hW := hW.fr hf10 (fun g hg => oW.lt hg) (fun g hg hg2 => by have := toW g hg; have := frW g hg; have := toF g hg2; have := frF g hg2; omega)
    replace oW := oW.fr hf10 (fun g hg hg2 => by have := toW g hg; have := frW g hg; have := toF g hg2; have := frF g hg2; omega)
    replace BW := Blk.fr_ BW hf10 (fun hg2 => by have := toF _ hg2; have := frF _ hg2; omega)
    replace hG := hG.fr hf10 (fun g hg => oG.lt hg) (fun g hg hg2 => by have := toG g hg; have := frG g hg; have := toF g hg2; have := frF g hg2; omega)
    replace oG := oG.fr hf10 (fun g hg hg2 => by have := toG g hg; have := frG g hg; have := toF g hg2; have := frF g hg2; omega)
    replace BG := Blk.fr_ BG hf10 (fun hg2 => by have := toF _ hg2; have := frF _ hg2; omega)
    replace K := K.trans (kf10.mono (by omega))
    clear hP10 hP frF toF
    obtain ⟨p00, p01, p02, p03, p04⟩ := Blk.boxV BG
    obtain ⟨p10, p11, p12, p13, p14⟩ := Blk.boxV BW
    go_wp2_with fail
    clear p00 p01 p02 p03 p04 p10 p11 p12 p13 p14
    refine (l_eqVal R uG uW _ hG hW (fun g hg => oG.lt hg) (fun g hg => oW.lt hg)).mono ?_; rintro e w11 ⟨rfl, hb11⟩
    replace BV := BV.below hb11 BV.lt
    replace hW := hW.below (fun g hg => oW.lt hg) hb11
    replace oW := oW.below (fun g hg => oW.lt hg) hb11
    replace BW := BW.below hb11 BW.lt
    replace hG := hG.below (fun g hg => oG.lt hg) hb11
    replace oG := oG.below (fun g hg => oG.lt hg) hb11
    replace BG := BG.below hb11 BG.lt
    replace K := K.up hb11
    have z_hb11 := hb11.size
    obtain ⟨p00, p01, p02, p03, p04⟩ := Blk.boxV BG
    go_wp2_with fail
    clear p00 p01 p02 p03 p04
    refine (l_markVal R uG 1 _ _ hG oG (Nat.le_refl _) (by omega)).mono ?_; rintro e w12 ⟨rfl, hG12, oG12, hf12⟩
    have frF := frG
    have toF := toG
    have zz12 := hf12.size
    have kf12 := hf12.below (B := wW.heap.size) (fun g hg => by have := frG g hg; omega) (by omega)
    replace BV := Blk.fr_ BV hf12 (fun hg2 => by have := toF _ hg2; have := frF _ hg2; omega)
    replace hW := hW.fr hf12 (fun g hg => oW.lt hg) (fun g hg hg2 => by have := toW g hg; have := frW g hg; have := toF g hg2; have := frF g hg2; omega)
    replace oW := oW.fr hf12 (fun g hg hg2 => by have := toW g hg; have := frW g hg; have := toF g hg2; have := frF g hg2; omega)
    replace BW := Blk.fr_ BW hf12 (fun hg2 => by have := toF _ hg2; have := frF _ hg2; omega)
    replace BG := Blk.fr_ BG hf12 (fun hg2 => by have := toF _ hg2; have := frF _ hg2; omega)
    replace K := K.trans (kf12.mono (by omega))
    replace hG := hG12
    replace oG := oG12
    clear frF toF
    obtain ⟨p00, p01, p02, p03, p04⟩ := Blk.boxV BG
    go_wp2_with fail
    clear p00 p01 p02 p03 p04
    refine (l_heldVal R uG 1 _ hG (fun g hg => oG.lt hg) (Nat.le_refl _) (by omega)).mono ?_; rintro e w13 ⟨rfl, hb13⟩
    replace BV := BV.below hb13 BV.lt
    replace hW := hW.below (fun g hg => oW.lt hg) hb13
    replace oW := oW.below (fun g hg => oW.lt hg) hb13
    replace BW := BW.below hb13 BW.lt
    replace hG := hG.below (fun g hg => oG.lt hg) hb13
    replace oG := oG.below (fun g hg => oG.lt hg) hb13
    replace BG := BG.below hb13 BG.lt
    replace K := K.up hb13
    have z_hb13 := hb13.size
    obtain ⟨p00, p01, p02, p03, p04⟩ := Blk.boxV BV
    go_wp2_with fail
    clear p00 p01 p02 p03 p04
    refine (hto _ K).mono ?_; rintro e wc ⟨uc, rfl, hc, oc, hbc⟩
    replace BV := BV.below hbc BV.lt
    replace hW := hW.below (fun g hg => oW.lt hg) hbc
    replace oW := oW.below (fun g hg => oW.lt hg) hbc
    replace BW := BW.below hbc BW.lt
    replace hG := hG.below (fun g hg => oG.lt hg) hbc
    replace oG := oG.below (fun g hg => oG.lt hg) hbc
    replace BG := BG.below hbc BG.lt
    replace K := K.up hbc
    have z_hbc := hbc.size
    have frc := fun g hg => (oc.2 g hg).1
    have toc := fun g hg => oc.lt (g := g) hg
    go_wp2_with fail
    refine (hst _ K).mono ?_; rintro e wd ⟨Ad, cd, rfl, hd, hbd⟩
    replace BV := BV.below hbd BV.lt
    replace hW := hW.below (fun g hg => oW.lt hg) hbd
    replace oW := oW.below (fun g hg => oW.lt hg) hbd
    replace BW := BW.below hbd BW.lt
    replace hG := hG.below (fun g hg => oG.lt hg) hbd
    replace oG := oG.below (fun g hg => oG.lt hg) hbd
    replace BG := BG.below hbd BG.lt
    replace hc := hc.below (fun g hg => oc.lt hg) hbd
    replace oc := oc.below (fun g hg => oc.lt hg) hbd
    replace K := K.up hbd
    have z_hbd := hbd.size
    have frd := fun g hg => (SS.lt hd (g := g) hg).1
    have tod := fun g hg => (SS.lt hd (g := g) hg).2
    go_wp2_with fail
    refine (hIp _ _ _ _ _ hc (fun g hg => oc.lt hg) hd).mono ?_; rintro e wH ⟨uH, rfl, hH, oH, hbH⟩
    replace BV := BV.below hbH BV.lt
    replace hW := hW.below (fun g hg => oW.lt hg) hbH
    replace oW := oW.below (fun g hg => oW.lt hg) hbH
    replace BW := BW.below hbH BW.lt
    replace hG := hG.below (fun g hg => oG.lt hg) hbH
    replace oG := oG.below (fun g hg => oG.lt hg) hbH
    replace BG := BG.below hbH BG.lt
    replace hc := hc.below (fun g hg => oc.lt hg) hbH
    replace oc := oc.below (fun g hg => oc.lt hg) hbH
    replace hd := hd.below hbH
    replace K := K.up hbH
    have z_hbH := hbH.size
    have frH := fun g hg => (oH.2 g hg).1
    have toH := fun g hg => oH.lt (g := g) hg
    clear hc
    clear hd
    have BH : Blk (wH.alloc (.cells (valCells R uH) 46)) wH.heap.size 46 (valCells R uH) := Blk.new wH _ _
    have hbxH := Below.one wH (.cells (valCells R uH) 46)
    have zbxH : (wH.alloc (.cells (valCells R uH) 46)).heap.size = wH.heap.size + 1 := by simp
    replace BV := BV.below hbxH BV.lt
    replace hW := hW.below (fun g hg => oW.lt hg) hbxH
    replace oW := oW.below (fun g hg => oW.lt hg) hbxH
    replace BW := BW.below hbxH BW.lt
    replace hG := hG.below (fun g hg => oG.lt hg) hbxH
    replace oG := oG.below (fun g hg => oG.lt hg) hbxH
    replace BG := BG.below hbxH BG.lt
    replace hH := hH.below (fun g hg => oH.lt hg) hbxH
    replace oH := oH.below (fun g hg => oH.lt hg) hbxH
    replace K := K.up hbxH
    have z_hbxH := hbxH.size
    obtain ⟨p00, p01, p02, p03, p04⟩ := Blk.boxV BH
    obtain ⟨p10, p11, p12, p13, p14⟩ := Blk.boxV BW
    go_wp2_with fail
    clear p00 p01 p02 p03 p04 p10 p11 p12 p13 p14
    refine (l_eqVal R uH uW _ hH hW (fun g hg => oH.lt hg) (fun g hg => oW.lt hg)).mono ?_; rintro e w14 ⟨rfl, hb14⟩
    replace BV := BV.below hb14 BV.lt
    replace hW := hW.below (fun g hg => oW.lt hg) hb14
    replace oW := oW.below (fun g hg => oW.lt hg) hb14
    replace BW := BW.below hb14 BW.lt
    replace hG := hG.below (fun g hg => oG.lt hg) hb14
    replace oG := oG.below (fun g hg => oG.lt hg) hb14
    replace BG := BG.below hb14 BG.lt
    replace hH := hH.below (fun g hg => oH.lt hg) hb14
    replace oH := oH.below (fun g hg => oH.lt hg) hb14
    replace BH := BH.below hb14 BH.lt
    replace K := K.up hb14
    have z_hb14 := hb14.size
    obtain ⟨p00, p01, p02, p03, p04⟩ := Blk.boxV BG
    go_wp2_with fail
    clear p00 p01 p02 p03 p04
    refine (l_heldVal R uG 1 _ hG (fun g hg => oG.lt hg) (Nat.le_refl _) (by omega)).mono ?_; rintro e w15 ⟨rfl, hb15⟩
    replace BV := BV.below hb15 BV.lt
    replace hW := hW.below (fun g hg => oW.lt hg) hb15
    replace oW := oW.below (fun g hg => oW.lt hg) hb15
    replace BW := BW.below hb15 BW.lt
    replace hG := hG.below (fun g hg => oG.lt hg) hb15
    replace oG := oG.below (fun g hg => oG.lt hg) hb15
    replace BG := BG.below hb15 BG.lt
    replace hH := hH.below (fun g hg => oH.lt hg) hb15
    replace oH := oH.below (fun g hg => oH.lt hg) hb15
    replace BH := BH.below hb15 BH.lt
    replace K := K.up hb15
    have z_hb15 := hb15.size
    go_wp2_with fail
    go_ret
    exact ⟨rfl, K⟩
  · have hres : szRes 1048576 t.sz = -1 := by unfold szRes; rw [if_neg (by omega)]
    rw [hres] at hsz
    go_enter Try.func7, Try.ntmps7
    go_wp2_with (go_at_call 30; refine (hsz _ K).mono ?_; rintro r w1 ⟨rfl, hb1⟩)
    go_ret
    exact ⟨rfl, K.up hb1⟩
end Go.Proofs.Ytnfokfogmniehaa
