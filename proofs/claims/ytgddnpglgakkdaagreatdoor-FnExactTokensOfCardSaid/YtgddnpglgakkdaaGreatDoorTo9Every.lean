/- slices.ContainsFunc over trees, every. Written by gen/every.py. -/
import Derived.Test.YtgddnpglgakkdaaGreatDoorTo9M32
import Derived.Laws.EntriesVeiled
import Derived.Shelf.Abstract
set_option linter.unusedVariables false
set_option maxRecDepth 100000
set_option linter.unusedSimpArgs false
namespace Go.Proofs.YtgddnpglgakkdaaGreatDoor
open Go.RowKit

/-- A call of f is a call of f. -/
def EntersF (f : Nat) : Prop := ∀ (args : Array Value) (w : World), (callFunc f args).run Tryz.prog w = .ok (.enter f args) w
def IxSays (b : Bool) (w w' : World) (r : Ending) : Prop := ∃ i : Int, r = .returned (.int .i64 i) ∧ decide (0 ≤ i) = b ∧ -1 ≤ i ∧ Below w.heap.size w w'
set_option maxHeartbeats 1000000 in
theorem g_IndexFunc1 (f : Nat) (cap : Value) (hcf : EntersF f) (q : Tr → Bool) (l : List Tr) (e : El) (w : World) (h : LsAt w l e) (hlt : e.lt w.heap.size)
    (hF : ∀ u ∈ l, ∀ (e1 : El) (w1 : World), Below w.heap.size w w1 → LsAt w1 u.l e1 → e1.lt w1.heap.size → Calls Tryz.prog f #[trV u e1, cap] w1 fun r w2 => r = .returned (.bool (q u)) ∧ Below w1.heap.size w1 w2) :
    Calls Tryz.prog 144 #[.slice e.A e.n e.c, .func (.func f) #[] #[cap]] w fun r w' => IxSays (l.any q) w w' r := by
  obtain ⟨A, n, c, fp⟩ := e
  have hn : l.length = n := h.len
  have hcf2 : ∀ args w, (callFunc f args).run Tryz.prog w = .ok (.enter f args) w := hcf
  have hc : n ≤ 9223372036854775807 := by have := ((lsAt_iff _ _).1 h).2.1; have := ((lsAt_iff _ _).1 h).2.2.1; unfold maxLen at *; simp at *; omega
  go_enter Tryz.func144, Tryz.ntmps144
  go_wp2_with fail
  go_loopg [5, 8] n (fun k v5 i wr => ∃ j : Nat, j + k = n ∧ i = .int .i64 j ∧ Below w.heap.size w wr ∧ Hid (l.any q = (l.drop j).any q))
  case atStart => exact ⟨0, by omega, rfl, Below.refl _ _, Lib.hid rfl⟩
  case round =>
    obtain ⟨j, hjk, rfl, hb, hH⟩ := hrel
    by_cases hlt2 : j < n
    · obtain ⟨k, rfl⟩ : ∃ k, gk = k + 1 := ⟨gk - 1, by omega⟩
      obtain ⟨g1, o1, u1, hl, hA1, hg1, ⟨c0, c1, c2, c3, c4⟩, hch1, hsub1⟩ := (h.below hlt hb).elem hlt2
      have hA12 : A = some ⟨g1, o1, none⟩ := hA1
      subst hA12
      have hU1 : u1.lt wr.heap.size := fun x hx => Nat.lt_of_lt_of_le (hlt x (hsub1 x hx)) hb.size
      have hcall := hF l[j] (List.getElem_mem hl) u1 wr hb hch1 hU1
      have hd : (l.drop j).any q = (q l[j] || (l.drop (j + 1)).any q) := by rw [List.drop_eq_getElem_cons hl]; rfl
      have HH : Hid (l.any q = (q l[j] || (l.drop (j + 1)).any q)) := Lib.hid (hH.out.trans hd)
      clear hF hd hH hch1 h
      cases hq : q l[j] with
      | true =>
        rw [hq] at hcall HH
        have hh : l.any q = true := by rw [HH.out]; rfl
        have H2 := Lib.hid hh
        clear hh HH hq
        go_wp2_with (refine hcall.mono ?_; rintro r w2 ⟨rfl, hb2⟩)
        go_ret
        exact ⟨j, rfl, by rw [H2.out]; simp, by omega, hb.up hb2⟩
      | false =>
        rw [hq] at hcall HH
        have HH2 : Hid (l.any q = (l.drop (j + 1)).any q) := Lib.hid (by rw [HH.out]; rfl)
        clear HH hq
        go_wp2_with (refine hcall.mono ?_; rintro r w2 ⟨rfl, hb2⟩)
        go_roundg k
        case measure => omega
        case rel => exact ⟨j + 1, by omega, by go_num, hb.up hb2, HH2⟩
    · have hh : l.any q = false := by rw [hH.out, List.drop_eq_nil_of_le (by omega)]; rfl
      have H2 := Lib.hid hh
      clear hh hH
      go_wp2_with fail
      go_ret
      exact ⟨-1, rfl, by rw [H2.out]; decide, by decide, hb⟩
theorem g_ContainsFunc1 (f : Nat) (cap : Value) (hcf : EntersF f) (q : Tr → Bool) (l : List Tr) (e : El) (w : World) (h : LsAt w l e) (hlt : e.lt w.heap.size)
    (hF : ∀ u ∈ l, ∀ (e1 : El) (w1 : World), Below w.heap.size w w1 → LsAt w1 u.l e1 → e1.lt w1.heap.size → Calls Tryz.prog f #[trV u e1, cap] w1 fun r w2 => r = .returned (.bool (q u)) ∧ Below w1.heap.size w1 w2) :
    Calls Tryz.prog 111 #[.slice e.A e.n e.c, .func (.func f) #[] #[cap]] w fun r w' => r = .returned (.bool (l.any q)) ∧ Below w.heap.size w w' := by
  have hx := g_IndexFunc1 f cap hcf q l e w h hlt hF
  clear hF
  clear hcf
  generalize l.any q = R at hx
  go_enter Tryz.func111, Tryz.ntmps111
  go_wp2_with (go_at_call 144; refine hx.mono ?_; rintro r w1 ⟨i, rfl, hi, hi2, hb⟩)
  all_goals (go_ret; exact ⟨ret_bool (by rw [← hi]; try simp), hb⟩)
set_option maxHeartbeats 1000000 in
theorem g_IndexFunc0 (f : Nat) (hcf : EntersF f) (q : Tr → Bool) (l : List Tr) (e : El) (w : World) (h : LsAt w l e) (hlt : e.lt w.heap.size)
    (hF : ∀ u ∈ l, ∀ (e1 : El) (w1 : World), Below w.heap.size w w1 → LsAt w1 u.l e1 → e1.lt w1.heap.size → Calls Tryz.prog f #[trV u e1] w1 fun r w2 => r = .returned (.bool (q u)) ∧ Below w1.heap.size w1 w2) :
    Calls Tryz.prog 144 #[.slice e.A e.n e.c, .func (.func f) #[] #[]] w fun r w' => IxSays (l.any q) w w' r := by
  obtain ⟨A, n, c, fp⟩ := e
  have hn : l.length = n := h.len
  have hcf2 : ∀ args w, (callFunc f args).run Tryz.prog w = .ok (.enter f args) w := hcf
  have hc : n ≤ 9223372036854775807 := by have := ((lsAt_iff _ _).1 h).2.1; have := ((lsAt_iff _ _).1 h).2.2.1; unfold maxLen at *; simp at *; omega
  go_enter Tryz.func144, Tryz.ntmps144
  go_wp2_with fail
  go_loopg [5, 8] n (fun k v5 i wr => ∃ j : Nat, j + k = n ∧ i = .int .i64 j ∧ Below w.heap.size w wr ∧ Hid (l.any q = (l.drop j).any q))
  case atStart => exact ⟨0, by omega, rfl, Below.refl _ _, Lib.hid rfl⟩
  case round =>
    obtain ⟨j, hjk, rfl, hb, hH⟩ := hrel
    by_cases hlt2 : j < n
    · obtain ⟨k, rfl⟩ : ∃ k, gk = k + 1 := ⟨gk - 1, by omega⟩
      obtain ⟨g1, o1, u1, hl, hA1, hg1, ⟨c0, c1, c2, c3, c4⟩, hch1, hsub1⟩ := (h.below hlt hb).elem hlt2
      have hA12 : A = some ⟨g1, o1, none⟩ := hA1
      subst hA12
      have hU1 : u1.lt wr.heap.size := fun x hx => Nat.lt_of_lt_of_le (hlt x (hsub1 x hx)) hb.size
      have hcall := hF l[j] (List.getElem_mem hl) u1 wr hb hch1 hU1
      have hd : (l.drop j).any q = (q l[j] || (l.drop (j + 1)).any q) := by rw [List.drop_eq_getElem_cons hl]; rfl
      have HH : Hid (l.any q = (q l[j] || (l.drop (j + 1)).any q)) := Lib.hid (hH.out.trans hd)
      clear hF hd hH hch1 h
      cases hq : q l[j] with
      | true =>
        rw [hq] at hcall HH
        have hh : l.any q = true := by rw [HH.out]; rfl
        have H2 := Lib.hid hh
        clear hh HH hq
        go_wp2_with (refine hcall.mono ?_; rintro r w2 ⟨rfl, hb2⟩)
        go_ret
        exact ⟨j, rfl, by rw [H2.out]; simp, by omega, hb.up hb2⟩
      | false =>
        rw [hq] at hcall HH
        have HH2 : Hid (l.any q = (l.drop (j + 1)).any q) := Lib.hid (by rw [HH.out]; rfl)
        clear HH hq
        go_wp2_with (refine hcall.mono ?_; rintro r w2 ⟨rfl, hb2⟩)
        go_roundg k
        case measure => omega
        case rel => exact ⟨j + 1, by omega, by go_num, hb.up hb2, HH2⟩
    · have hh : l.any q = false := by rw [hH.out, List.drop_eq_nil_of_le (by omega)]; rfl
      have H2 := Lib.hid hh
      clear hh hH
      go_wp2_with fail
      go_ret
      exact ⟨-1, rfl, by rw [H2.out]; decide, by decide, hb⟩
theorem g_ContainsFunc0 (f : Nat) (hcf : EntersF f) (q : Tr → Bool) (l : List Tr) (e : El) (w : World) (h : LsAt w l e) (hlt : e.lt w.heap.size)
    (hF : ∀ u ∈ l, ∀ (e1 : El) (w1 : World), Below w.heap.size w w1 → LsAt w1 u.l e1 → e1.lt w1.heap.size → Calls Tryz.prog f #[trV u e1] w1 fun r w2 => r = .returned (.bool (q u)) ∧ Below w1.heap.size w1 w2) :
    Calls Tryz.prog 111 #[.slice e.A e.n e.c, .func (.func f) #[] #[]] w fun r w' => r = .returned (.bool (l.any q)) ∧ Below w.heap.size w w' := by
  have hx := g_IndexFunc0 f hcf q l e w h hlt hF
  clear hF
  clear hcf
  generalize l.any q = R at hx
  go_enter Tryz.func111, Tryz.ntmps111
  go_wp2_with (go_at_call 144; refine hx.mono ?_; rintro r w1 ⟨i, rfl, hi, hi2, hb⟩)
  all_goals (go_ret; exact ⟨ret_bool (by rw [← hi]; try simp), hb⟩)
/-- Every tree of a tree fulfils something. -/
noncomputable def allT (p : Tr → Bool) : Tr → Bool := Tr.fold fun k n x s l ih => p ⟨k, n, x, s, l⟩ && ih.all id
theorem allT_eq (p : Tr → Bool) (t : Tr) : allT p t = (p t && t.l.all (allT p)) := by
  obtain ⟨k, n, x, s, l⟩ := t
  show Tr.fold _ _ = _
  rw [Tr.fold_mk]
  congr 1
  rw [List.all_map]
  rfl
theorem any_not (l : List Tr) (p : Tr → Bool) : l.any (fun u => !p u) = !l.all p := by
  induction l with
  | nil => rfl
  | cons a l ih => simp only [List.any_cons, List.all_cons, ih, Bool.not_and]
/-- What every says of a tree. -/
def EvSays (f : Nat) (p : Tr → Bool) (P : Tr → Prop) (Tab : World → Prop) (t : Tr) : Prop := P t → ∀ (e : El) (w : World), LsAt w t.l e → e.lt w.heap.size → Tab w →
  Calls Tryz.prog 79 #[trV t e, .func (.func f) #[] #[]] w fun r w' => r = .returned (.bool (allT p t)) ∧ Below w.heap.size w w'
theorem i_every1 (f : Nat) (p : Tr → Bool) (P : Tr → Prop) (Tab : World → Prop) (hTab : ∀ w w', Tab w → Below w.heap.size w w' → Tab w') (u : Tr) (hu : EvSays f p P Tab u) (hPu : P u) (e : El) (w : World) (hl : LsAt w u.l e) (hel : e.lt w.heap.size) (hT : Tab w)
    (g : Nat) (hg : w.cell? ⟨g, 0, none⟩ = some (.func (.func f) #[] #[])) (hgl : g < w.heap.size) :
    Calls Tryz.prog 112 #[trV u e, .pointer (some ⟨g, 0, none⟩)] w fun r w' => r = .returned (.bool (!allT p u)) ∧ Below w.heap.size w w' := by
  have kb := Below.one w (.cells (valCells u e) 33)
  have hc := hu hPu e (w.alloc (.cells (valCells u e) 33)) (hl.below hel kb) (hel.mono kb.size) (hTab _ _ hT kb)
  have hg2 : (w.alloc (.cells #[.int .i64 u.k, .int .i64 u.n, .int .i64 u.x, .string u.s, .slice e.A e.n e.c] 33)).cell? ⟨g, 0, none⟩ = some (.func (.func f) #[] #[]) := (kb.cell (p := ⟨g, 0, none⟩) hgl).trans hg
  clear hg hu
  generalize allT p u = R at hc
  go_enter Tryz.func112, Tryz.ntmps112
  go_wp2_with (go_at_call 79; refine hc.mono ?_; rintro r w1 ⟨rfl, hb⟩)
  go_ret
  exact ⟨rfl, kb.up hb⟩
set_option maxHeartbeats 1000000 in
theorem i_every (f : Nat) (hcf : EntersF f) (hc1 : EntersF 112) (p : Tr → Bool) (P : Tr → Prop) (Tab : World → Prop) (hTab : ∀ w w', Tab w → Below w.heap.size w w' → Tab w') (hP : ∀ t u : Tr, P t → u ∈ t.l → P u)
    (hf : ∀ (u : Tr) (e : El) (w : World), P u → LsAt w u.l e → e.lt w.heap.size → Tab w → Calls Tryz.prog f #[trV u e] w fun r w' => r = .returned (.bool (p u)) ∧ Below w.heap.size w w') (t : Tr) : EvSays f p P Tab t := by
  refine Tr.ind (P := EvSays f p P Tab) (fun t ih => ?_) t
  intro hPt e w hl hel hT
  have k2 := Below.two w (.cells (valCells t e) 33) (.cells #[.func (.func f) #[] #[]] 65)
  have hF := hf t e _ hPt (hl.below hel k2) (hel.mono k2.size) (hTab _ _ hT k2)
  rw [allT_eq]
  have hCF := fun (w2 : World) (hb : Below (w.heap.size + 2) ((w.alloc (.cells (valCells t e) 33)).alloc (.cells #[.func (.func f) #[] #[]] 65)) w2) =>
    g_ContainsFunc1 112 (.pointer (some ⟨w.heap.size + 1, 0, none⟩)) hc1 (fun u => !allT p u) t.l e w2 (hl.below hel (k2.trans (hb.mono (by omega)))) (hel.mono (k2.trans (hb.mono (by omega))).size)
      (fun u hu e1 w3 hb3 h31 h32 => by
        have hz : w.heap.size + 2 ≤ w2.heap.size := by have := hb.size; simp at this; omega
        have hb4 := hb.trans (hb3.mono hz)
        refine i_every1 f p P Tab hTab u (ih u hu) (hP t u hPt hu) e1 w3 h31 h32 (hTab _ _ hT (k2.trans (hb4.mono (by omega)))) (w.heap.size + 1) ?_ (by have := hb3.size; omega)
        rw [hb4.cell (p := ⟨w.heap.size + 1, 0, none⟩) (by show w.heap.size + 1 < w.heap.size + 2; omega)]
        simp)
  have hcf2 : ∀ args w, (callFunc f args).run Tryz.prog w = .ok (.enter f args) w := hcf
  rw [any_not] at hCF
  generalize t.l.all (allT p) = R at hCF
  clear ih hf hcf hc1
  cases hp : p t with
  | false =>
    rw [hp] at hF
    go_enter Tryz.func79, Tryz.ntmps79
    go_wp2_with (refine hF.mono ?_; rintro r w1 ⟨rfl, hb⟩)
    go_ret
    exact ⟨by simp, k2.up hb⟩
  | true =>
    rw [hp] at hF
    go_enter Tryz.func79, Tryz.ntmps79
    go_wp2_with (first
      | (go_at_call 111; refine (hCF _ (by simpa using hb)).mono ?_; rintro r w2 ⟨rfl, hb2⟩)
      | (refine hF.mono ?_; rintro r w1 ⟨rfl, hb⟩; obtain ⟨hc1, hf1⟩ := bcell hb))
    go_ret
    exact ⟨by simp, (k2.up hb).up hb2⟩
end Go.Proofs.YtgddnpglgakkdaaGreatDoor
