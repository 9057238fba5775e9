/- OnceEach, textNames, FitsText (impl). -/
import Derived.Test.YticejlknbfhndaaDoorNames
set_option linter.unusedVariables false
set_option maxRecDepth 100000
set_option linter.unusedSimpArgs false
namespace Go.Proofs.YticejlknbfhndaaDoor
open Go.RowKit

/-- None of a list is among those ahead of it; pre: those ahead of the list. -/
noncomputable def onceF (pre : List Tr) : List Tr → Bool
  | [] => true
  | x :: r => !pre.any (fun o => sameT o x) && onceF (pre ++ [x]) r
noncomputable def onceL (l : List Tr) : Bool := onceF [] l
theorem onceF_step {l : List Tr} {j : Nat} (h : j < l.length) : onceF (l.take j) (l.drop j) = (!(l.take j).any (fun o => sameT o l[j]) && onceF (l.take (j + 1)) (l.drop (j + 1))) := by
  rw [List.drop_eq_getElem_cons h, List.take_succ_eq_append_getElem h]
  rfl
theorem onceF_end {l : List Tr} {j : Nat} (h : l.length ≤ j) : onceF (l.take j) (l.drop j) = true := by
  rw [List.drop_eq_nil_of_le h]; rfl
/-- A list's beginning. -/
theorem LsAt.take_ {w : World} {l : List Tr} {e : El} (h : LsAt w l e) {j : Nat} (hj : j ≤ e.n) : ∃ fp, LsAt w (l.take j) ⟨e.A, j, e.c, fp⟩ ∧ ∀ g ∈ fp, g ∈ e.fp := by
  obtain ⟨h1, h2, h3, es, h4, h5, h6, h7⟩ := (lsAt_iff l e).1 h
  have tk : ∀ {α : Type} (m : List α) (i : Nat) (v : α), (m.take j)[i]? = some v → m[i]? = some v := fun m i v hv => by
    rw [List.getElem?_take] at hv
    split at hv
    · exact hv
    · cases hv
  rcases Nat.eq_zero_or_pos j with h0 | h0
  · subst h0
    exact ⟨[], (lsAt_iff _ _).2 ⟨by simp, by show 0 ≤ e.c; omega, h3, [], rfl, fun _ => rfl, fun h => absurd h (Nat.lt_irrefl 0), fun j t u h => by simp at h⟩, fun g hg => by cases hg⟩
  · obtain ⟨g, o, hA, hf, hc⟩ := h6 (by omega)
    refine ⟨g :: elFp (es.take j), (lsAt_iff _ _).2 ⟨by rw [List.length_take]; show _ = j; omega, by show j ≤ e.c; omega, h3, es.take j, by rw [List.length_take]; show _ = j; omega, fun h => absurd h (Nat.ne_of_gt h0), fun _ => ⟨g, o, hA, rfl, fun i t u a b => hc i t u (tk _ _ _ a) (tk _ _ _ b)⟩, fun i t u a b => h7 i t u (tk _ _ _ a) (tk _ _ _ b)⟩, fun x hx => ?_⟩
    rw [hf]
    rcases List.mem_cons.1 hx with rfl | hx
    · exact List.mem_cons_self
    · refine List.mem_cons_of_mem _ ?_
      obtain ⟨y, hy, hxy⟩ := List.mem_flatten.1 hx
      obtain ⟨u, hu, rfl⟩ := List.mem_map.1 hy
      exact List.mem_flatten.2 ⟨u.fp, List.mem_map.2 ⟨u, List.mem_of_mem_take hu, rfl⟩, hxy⟩
theorem enters_once1 : EntersF 95 := enters_of Tryd.func95 (by kernel_rfl) rfl
theorem i_once1 (u x : Tr) (e ex : El) (w : World) (hl : LsAt w u.l e) (hel : e.lt w.heap.size) (hlx : LsAt w x.l ex) (hex : ex.lt w.heap.size) (g : Nat) (hg : BoxV w g x ex) (hgl : g < w.heap.size) :
    Calls Tryd.prog 95 #[trV u e, .pointer (some ⟨g, 0, none⟩)] w fun r w' => r = .returned (.bool (sameT u x)) ∧ Below w.heap.size w w' := by
  have kb := Below.one w (.cells (valCells u e) 29)
  have hc := i_SameVal u x e ex _ (hl.below hel kb) (hlx.below hex kb) (hel.mono kb.size) (hex.mono kb.size)
  have hb2 : BoxV (w.alloc (.cells #[.int .i64 u.k, .int .i64 u.n, .int .i64 u.x, .string u.s, .slice e.A e.n e.c] 29)) g x ex := by
    obtain ⟨a, b, c, d, f⟩ := hg
    exact ⟨(kb.cell (p := ⟨g, _, none⟩) hgl).trans a, (kb.cell (p := ⟨g, _, none⟩) hgl).trans b, (kb.cell (p := ⟨g, _, none⟩) hgl).trans c, (kb.cell (p := ⟨g, _, none⟩) hgl).trans d, (kb.cell (p := ⟨g, _, none⟩) hgl).trans f⟩
  obtain ⟨a, b, c, d, f⟩ := hb2
  clear hg
  generalize sameT u x = R at hc
  go_enter Tryd.func95, Tryd.ntmps95
  go_wp2_with (go_at_call 96; refine hc.mono ?_; rintro r w1 ⟨rfl, hb⟩)
  go_ret
  exact ⟨rfl, kb.up hb⟩
set_option maxHeartbeats 2000000 in
theorem i_OnceEach (t : Tr) (e : El) (w : World) (hF : Fit t) (hl : LsAt w t.l e) (hel : e.lt w.heap.size) :
    Calls Tryd.prog 59 #[trV t e] w fun r w' => r = .returned (.bool (onceL (namesT t))) ∧ Below w.heap.size w w' := by
  have k1 := Below.one w (.cells (valCells t e) 29)
  have hnm := i_names t e _ hF (hl.below hel k1) (hel.mono k1.size)
  have hnl := names_len t
  have hln := hF.len
  obtain ⟨m, hm⟩ : ∃ m, namesT t = m := ⟨_, rfl⟩
  rw [hm] at hnm hnl ⊢
  have HV0 : Hid (onceL m = onceF (m.take 0) (m.drop 0)) := Lib.hid rfl
  clear hm
  go_enter Tryd.func59, Tryd.ntmps59
  go_wp2_with (go_at_call 64; refine hnm.mono ?_; rintro r w1 ⟨⟨A, n, c, fp⟩, rfl, h1, h2, hb1⟩)
  have hmn : m.length = n := h1.len
  have kb1 := k1.up hb1
  clear hnm
  go_loopg [4, 5, 10] n (fun f v4 v5 v10 wr => ∃ j : Nat, j + f = n ∧ v10 = .int .i64 j ∧ Hid (onceL m = onceF (m.take j) (m.drop j)) ∧ Below w1.heap.size w1 wr)
  case atStart => exact ⟨0, by omega, rfl, HV0, Below.refl _ _⟩
  case round =>
    obtain ⟨j, hjf, rfl, hH, hbr⟩ := hrel
    clear HV0
    by_cases hlt : j < n
    · obtain ⟨f, rfl⟩ : ∃ f, gk = f + 1 := ⟨gk - 1, by omega⟩
      obtain ⟨g, o, u, hj, hAe, hgm, ⟨c0, c1, c2, c3, c4⟩, hch, hsub⟩ := (h1.below h2 hbr).elem hlt
      have hAe : A = some ⟨g, o, none⟩ := hAe
      subst hAe
      obtain ⟨fpt, ht1, ht2⟩ := (h1.below h2 hbr).take_ (j := j) (by show j ≤ n; omega)
      have htl : (⟨some ⟨g, o, none⟩, j, c, fpt⟩ : El).lt wr.heap.size := fun y hy => Nat.lt_of_lt_of_le (h2 y (ht2 y hy)) hbr.size
      have hul : u.lt wr.heap.size := fun y hy => Nat.lt_of_lt_of_le (h2 y (hsub y hy)) hbr.size
      have kr := Below.one wr (.cells (valCells m[j] u) 29)
      have hBx := Blk.new wr 29 (valCells m[j] u)
      have hCF := g_ContainsFunc1 95 (.pointer (some ⟨wr.heap.size, 0, none⟩)) enters_once1 (fun o => sameT o m[j]) (m.take j) ⟨some ⟨g, o, none⟩, j, c, fpt⟩ (wr.alloc (.cells (valCells m[j] u) 29)) (ht1.below htl kr) (htl.mono kr.size)
        (fun y hy e1 w3 hb3 h31 h32 => i_once1 y m[j] e1 u w3 h31 h32 (hch.below hul (kr.up hb3)) (hul.mono (kr.up hb3).size) wr.heap.size (hBx.below hb3 hBx.lt).boxV (hBx.below hb3 hBx.lt).lt)
      have hh := hH.out
      rw [onceF_step hj] at hh
      have HH := Lib.hid hh
      have hcj : (j : Int) ≤ (c : Int) := by have := ((lsAt_iff _ _).1 h1).2.1; simp only at this; omega
      clear ht1 ht2 hh hH hch hBx
      generalize (m.take j).any (fun o => sameT o m[j]) = R at hCF HH
      cases R with
      | true =>
        go_wp2_with (go_at_call 80; refine hCF.mono ?_; rintro r w2 ⟨rfl, hb2⟩)
        go_ret
        exact ⟨ret_bool (by rw [HH.out]; rfl), (kb1.up hbr).up (kr.up hb2)⟩
      | false =>
        have HH2 : Hid (onceL m = onceF (m.take (j + 1)) (m.drop (j + 1))) := Lib.hid (by rw [HH.out]; rfl)
        clear HH
        go_wp2_with (go_at_call 80; refine hCF.mono ?_; rintro r w2 ⟨rfl, hb2⟩)
        go_roundg f
        case measure => omega
        case rel => exact ⟨j + 1, by omega, by go_num, HH2, hbr.up (kr.up hb2)⟩
    · have hh := hH.out
      rw [onceF_end (by omega)] at hh
      have HH := Lib.hid hh
      have hlt2 : ¬ ((j : Int) < (n : Int)) := by omega
      clear hh hH
      go_wp2_with fail
      go_ret
      exact ⟨ret_bool HH.out.symm, kb1.up hbr⟩
end Go.Proofs.YticejlknbfhndaaDoor
