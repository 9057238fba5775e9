/- slices.ContainsFunc over trees, every. Written by gen/every.py. impl.Skip and spec.Skip: the first offset without a blank. EscapeOf. Quote, Bare. NumText: a number in decimal. Decimal numbers: Digits, DecOk on both sides. ValOk: ownOk and every (impl). Written by gen/own.py. Copies of trees: copyVal and the reference's l6Copy. -/
import Derived.Test.YtmelnaidjgpclaaGreatDoorRowVal
import Derived.Laws.EntriesVeiled
import Derived.Shelf.Abstract
import Derived.Test.YtmelnaidjgpclaaGreatDoorMem
import Derived.Test.YtmelnaidjgpclaaGreatDoorShelf
import Derived.Test.YtmelnaidjgpclaaGreatDoorRunes
import Derived.Test.YtmelnaidjgpclaaGreatDoorTextOk
import Derived.Lib.OthersKept
import Derived.Lib.TrimUEq
import Derived.WalkSmall
import Derived.Shelf.Unicode.DecodeSlow
import Derived.Laws.RangeAny
import Derived.Lib.ItoaLen
import Derived.Lib.ItoaMem
import Derived.Lib.AppendIntMem
import Derived.Test.YtmelnaidjgpclaaGreatDoorFlt
import Derived.Deep.LoopGhost
set_option linter.unusedVariables false
set_option maxRecDepth 100000
set_option linter.unusedSimpArgs false
namespace Go.Proofs.YtmelnaidjgpclaaGreatDoor
open Go.RowKit

/-- A call of f is a call of f. -/
def EntersF (f : Nat) : Prop := ∀ (args : Array Value) (w : World), (callFunc f args).run Tryz.prog w = .ok (.enter f args) w
def IxSays (b : Bool) (w w' : World) (r : Ending) : Prop := ∃ i : Int, r = .returned (.int .i64 i) ∧ decide (0 ≤ i) = b ∧ -1 ≤ i ∧ Below w.heap.size w w'
set_option maxHeartbeats 1000000 in
theorem g_IndexFunc1 (f : Nat) (cap : Value) (hcf : EntersF f) (q : Tr → Bool) (l : List Tr) (e : El) (w : World) (h : LsAt w l e) (hlt : e.lt w.heap.size)
    (hF : ∀ u ∈ l, ∀ (e1 : El) (w1 : World), Below w.heap.size w w1 → LsAt w1 u.l e1 → e1.lt w1.heap.size → Calls Tryz.prog f #[trV u e1, cap] w1 fun r w2 => r = .returned (.bool (q u)) ∧ Below w1.heap.size w1 w2) :
    Calls Tryz.prog 116 #[.slice e.A e.n e.c, .func (.func f) #[] #[cap]] w fun r w' => IxSays (l.any q) w w' r := by
  obtain ⟨A, n, c, fp⟩ := e
  have hn : l.length = n := h.len
  have hcf2 : ∀ args w, (callFunc f args).run Tryz.prog w = .ok (.enter f args) w := hcf
  have hc : n ≤ 9223372036854775807 := by have := ((lsAt_iff _ _).1 h).2.1; have := ((lsAt_iff _ _).1 h).2.2.1; unfold maxLen at *; simp at *; omega
  go_enter Tryz.func116, Tryz.ntmps116
  go_wp2_with fail
  go_loopg [5, 8] n (fun k v5 i wr => ∃ j : Nat, j + k = n ∧ i = .int .i64 j ∧ Below w.heap.size w wr ∧ Hid (l.any q = (l.drop j).any q))
  case atStart => exact ⟨0, by omega, rfl, Below.refl _ _, Lib.hid rfl⟩
  case round =>
    obtain ⟨j, hjk, rfl, hb, hH⟩ := hrel
    by_cases hlt2 : j < n
    · obtain ⟨k, rfl⟩ : ∃ k, gk = k + 1 := ⟨gk - 1, by omega⟩
      obtain ⟨g1, o1, u1, hl, hA1, hg1, ⟨c0, c1, c2, c3, c4⟩, hch1, hsub1⟩ := (h.below hlt hb).elem hlt2
      have hA12 : A = some ⟨g1, o1, none⟩ := hA1
      subst hA12
      have hU1 : u1.lt wr.heap.size := fun x hx => Nat.lt_of_lt_of_le (hlt x (hsub1 x hx)) hb.size
      have hcall := hF l[j] (List.getElem_mem hl) u1 wr hb hch1 hU1
      have hd : (l.drop j).any q = (q l[j] || (l.drop (j + 1)).any q) := by rw [List.drop_eq_getElem_cons hl]; rfl
      have HH : Hid (l.any q = (q l[j] || (l.drop (j + 1)).any q)) := Lib.hid (hH.out.trans hd)
      clear hF hd hH hch1 h
      cases hq : q l[j] with
      | true =>
        rw [hq] at hcall HH
        have hh : l.any q = true := by rw [HH.out]; rfl
        have H2 := Lib.hid hh
        clear hh HH hq
        go_wp2_with (refine hcall.mono ?_; rintro r w2 ⟨rfl, hb2⟩)
        go_ret
        exact ⟨j, rfl, by rw [H2.out]; simp, by omega, hb.up hb2⟩
      | false =>
        rw [hq] at hcall HH
        have HH2 : Hid (l.any q = (l.drop (j + 1)).any q) := Lib.hid (by rw [HH.out]; rfl)
        clear HH hq
        go_wp2_with (refine hcall.mono ?_; rintro r w2 ⟨rfl, hb2⟩)
        go_roundg k
        case measure => omega
        case rel => exact ⟨j + 1, by omega, by go_num, hb.up hb2, HH2⟩
    · have hh : l.any q = false := by rw [hH.out, List.drop_eq_nil_of_le (by omega)]; rfl
      have H2 := Lib.hid hh
      clear hh hH
      go_wp2_with fail
      go_ret
      exact ⟨-1, rfl, by rw [H2.out]; decide, by decide, hb⟩
theorem g_ContainsFunc1 (f : Nat) (cap : Value) (hcf : EntersF f) (q : Tr → Bool) (l : List Tr) (e : El) (w : World) (h : LsAt w l e) (hlt : e.lt w.heap.size)
    (hF : ∀ u ∈ l, ∀ (e1 : El) (w1 : World), Below w.heap.size w w1 → LsAt w1 u.l e1 → e1.lt w1.heap.size → Calls Tryz.prog f #[trV u e1, cap] w1 fun r w2 => r = .returned (.bool (q u)) ∧ Below w1.heap.size w1 w2) :
    Calls Tryz.prog 82 #[.slice e.A e.n e.c, .func (.func f) #[] #[cap]] w fun r w' => r = .returned (.bool (l.any q)) ∧ Below w.heap.size w w' := by
  have hx := g_IndexFunc1 f cap hcf q l e w h hlt hF
  clear hF
  clear hcf
  generalize l.any q = R at hx
  go_enter Tryz.func82, Tryz.ntmps82
  go_wp2_with (go_at_call 116; refine hx.mono ?_; rintro r w1 ⟨i, rfl, hi, hi2, hb⟩)
  all_goals (go_ret; exact ⟨ret_bool (by rw [← hi]; try simp), hb⟩)
set_option maxHeartbeats 1000000 in
theorem g_IndexFunc0 (f : Nat) (hcf : EntersF f) (q : Tr → Bool) (l : List Tr) (e : El) (w : World) (h : LsAt w l e) (hlt : e.lt w.heap.size)
    (hF : ∀ u ∈ l, ∀ (e1 : El) (w1 : World), Below w.heap.size w w1 → LsAt w1 u.l e1 → e1.lt w1.heap.size → Calls Tryz.prog f #[trV u e1] w1 fun r w2 => r = .returned (.bool (q u)) ∧ Below w1.heap.size w1 w2) :
    Calls Tryz.prog 116 #[.slice e.A e.n e.c, .func (.func f) #[] #[]] w fun r w' => IxSays (l.any q) w w' r := by
  obtain ⟨A, n, c, fp⟩ := e
  have hn : l.length = n := h.len
  have hcf2 : ∀ args w, (callFunc f args).run Tryz.prog w = .ok (.enter f args) w := hcf
  have hc : n ≤ 9223372036854775807 := by have := ((lsAt_iff _ _).1 h).2.1; have := ((lsAt_iff _ _).1 h).2.2.1; unfold maxLen at *; simp at *; omega
  go_enter Tryz.func116, Tryz.ntmps116
  go_wp2_with fail
  go_loopg [5, 8] n (fun k v5 i wr => ∃ j : Nat, j + k = n ∧ i = .int .i64 j ∧ Below w.heap.size w wr ∧ Hid (l.any q = (l.drop j).any q))
  case atStart => exact ⟨0, by omega, rfl, Below.refl _ _, Lib.hid rfl⟩
  case round =>
    obtain ⟨j, hjk, rfl, hb, hH⟩ := hrel
    by_cases hlt2 : j < n
    · obtain ⟨k, rfl⟩ : ∃ k, gk = k + 1 := ⟨gk - 1, by omega⟩
      obtain ⟨g1, o1, u1, hl, hA1, hg1, ⟨c0, c1, c2, c3, c4⟩, hch1, hsub1⟩ := (h.below hlt hb).elem hlt2
      have hA12 : A = some ⟨g1, o1, none⟩ := hA1
      subst hA12
      have hU1 : u1.lt wr.heap.size := fun x hx => Nat.lt_of_lt_of_le (hlt x (hsub1 x hx)) hb.size
      have hcall := hF l[j] (List.getElem_mem hl) u1 wr hb hch1 hU1
      have hd : (l.drop j).any q = (q l[j] || (l.drop (j + 1)).any q) := by rw [List.drop_eq_getElem_cons hl]; rfl
      have HH : Hid (l.any q = (q l[j] || (l.drop (j + 1)).any q)) := Lib.hid (hH.out.trans hd)
      clear hF hd hH hch1 h
      cases hq : q l[j] with
      | true =>
        rw [hq] at hcall HH
        have hh : l.any q = true := by rw [HH.out]; rfl
        have H2 := Lib.hid hh
        clear hh HH hq
        go_wp2_with (refine hcall.mono ?_; rintro r w2 ⟨rfl, hb2⟩)
        go_ret
        exact ⟨j, rfl, by rw [H2.out]; simp, by omega, hb.up hb2⟩
      | false =>
        rw [hq] at hcall HH
        have HH2 : Hid (l.any q = (l.drop (j + 1)).any q) := Lib.hid (by rw [HH.out]; rfl)
        clear HH hq
        go_wp2_with (refine hcall.mono ?_; rintro r w2 ⟨rfl, hb2⟩)
        go_roundg k
        case measure => omega
        case rel => exact ⟨j + 1, by omega, by go_num, hb.up hb2, HH2⟩
    · have hh : l.any q = false := by rw [hH.out, List.drop_eq_nil_of_le (by omega)]; rfl
      have H2 := Lib.hid hh
      clear hh hH
      go_wp2_with fail
      go_ret
      exact ⟨-1, rfl, by rw [H2.out]; decide, by decide, hb⟩
theorem g_ContainsFunc0 (f : Nat) (hcf : EntersF f) (q : Tr → Bool) (l : List Tr) (e : El) (w : World) (h : LsAt w l e) (hlt : e.lt w.heap.size)
    (hF : ∀ u ∈ l, ∀ (e1 : El) (w1 : World), Below w.heap.size w w1 → LsAt w1 u.l e1 → e1.lt w1.heap.size → Calls Tryz.prog f #[trV u e1] w1 fun r w2 => r = .returned (.bool (q u)) ∧ Below w1.heap.size w1 w2) :
    Calls Tryz.prog 82 #[.slice e.A e.n e.c, .func (.func f) #[] #[]] w fun r w' => r = .returned (.bool (l.any q)) ∧ Below w.heap.size w w' := by
  have hx := g_IndexFunc0 f hcf q l e w h hlt hF
  clear hF
  clear hcf
  generalize l.any q = R at hx
  go_enter Tryz.func82, Tryz.ntmps82
  go_wp2_with (go_at_call 116; refine hx.mono ?_; rintro r w1 ⟨i, rfl, hi, hi2, hb⟩)
  all_goals (go_ret; exact ⟨ret_bool (by rw [← hi]; try simp), hb⟩)
/-- Every tree of a tree fulfils something. -/
noncomputable def allT (p : Tr → Bool) : Tr → Bool := Tr.fold fun k n x s l ih => p ⟨k, n, x, s, l⟩ && ih.all id
theorem allT_eq (p : Tr → Bool) (t : Tr) : allT p t = (p t && t.l.all (allT p)) := by
  obtain ⟨k, n, x, s, l⟩ := t
  show Tr.fold _ _ = _
  rw [Tr.fold_mk]
  congr 1
  rw [List.all_map]
  rfl
theorem any_not (l : List Tr) (p : Tr → Bool) : l.any (fun u => !p u) = !l.all p := by
  induction l with
  | nil => rfl
  | cons a l ih => simp only [List.any_cons, List.all_cons, ih, Bool.not_and]
/-- What every says of a tree. -/
def EvSays (f : Nat) (p : Tr → Bool) (P : Tr → Prop) (Tab : World → Prop) (t : Tr) : Prop := P t → ∀ (e : El) (w : World), LsAt w t.l e → e.lt w.heap.size → Tab w →
  Calls Tryz.prog 46 #[trV t e, .func (.func f) #[] #[]] w fun r w' => r = .returned (.bool (allT p t)) ∧ Below w.heap.size w w'
theorem i_every1 (f : Nat) (p : Tr → Bool) (P : Tr → Prop) (Tab : World → Prop) (hTab : ∀ w w', Tab w → Below w.heap.size w w' → Tab w') (u : Tr) (hu : EvSays f p P Tab u) (hPu : P u) (e : El) (w : World) (hl : LsAt w u.l e) (hel : e.lt w.heap.size) (hT : Tab w)
    (g : Nat) (hg : w.cell? ⟨g, 0, none⟩ = some (.func (.func f) #[] #[])) (hgl : g < w.heap.size) :
    Calls Tryz.prog 83 #[trV u e, .pointer (some ⟨g, 0, none⟩)] w fun r w' => r = .returned (.bool (!allT p u)) ∧ Below w.heap.size w w' := by
  have kb := Below.one w (.cells (valCells u e) 28)
  have hc := hu hPu e (w.alloc (.cells (valCells u e) 28)) (hl.below hel kb) (hel.mono kb.size) (hTab _ _ hT kb)
  have hg2 : (w.alloc (.cells #[.int .i64 u.k, .int .i64 u.n, .int .i64 u.x, .string u.s, .slice e.A e.n e.c] 28)).cell? ⟨g, 0, none⟩ = some (.func (.func f) #[] #[]) := (kb.cell (p := ⟨g, 0, none⟩) hgl).trans hg
  clear hg hu
  generalize allT p u = R at hc
  go_enter Tryz.func83, Tryz.ntmps83
  go_wp2_with (go_at_call 46; refine hc.mono ?_; rintro r w1 ⟨rfl, hb⟩)
  go_ret
  exact ⟨rfl, kb.up hb⟩
set_option maxHeartbeats 1000000 in
theorem i_every (f : Nat) (hcf : EntersF f) (hc1 : EntersF 83) (p : Tr → Bool) (P : Tr → Prop) (Tab : World → Prop) (hTab : ∀ w w', Tab w → Below w.heap.size w w' → Tab w') (hP : ∀ t u : Tr, P t → u ∈ t.l → P u)
    (hf : ∀ (u : Tr) (e : El) (w : World), P u → LsAt w u.l e → e.lt w.heap.size → Tab w → Calls Tryz.prog f #[trV u e] w fun r w' => r = .returned (.bool (p u)) ∧ Below w.heap.size w w') (t : Tr) : EvSays f p P Tab t := by
  refine Tr.ind (P := EvSays f p P Tab) (fun t ih => ?_) t
  intro hPt e w hl hel hT
  have k2 := Below.two w (.cells (valCells t e) 28) (.cells #[.func (.func f) #[] #[]] 34)
  have hF := hf t e _ hPt (hl.below hel k2) (hel.mono k2.size) (hTab _ _ hT k2)
  rw [allT_eq]
  have hCF := fun (w2 : World) (hb : Below (w.heap.size + 2) ((w.alloc (.cells (valCells t e) 28)).alloc (.cells #[.func (.func f) #[] #[]] 34)) w2) =>
    g_ContainsFunc1 83 (.pointer (some ⟨w.heap.size + 1, 0, none⟩)) hc1 (fun u => !allT p u) t.l e w2 (hl.below hel (k2.trans (hb.mono (by omega)))) (hel.mono (k2.trans (hb.mono (by omega))).size)
      (fun u hu e1 w3 hb3 h31 h32 => by
        have hz : w.heap.size + 2 ≤ w2.heap.size := by have := hb.size; simp at this; omega
        have hb4 := hb.trans (hb3.mono hz)
        refine i_every1 f p P Tab hTab u (ih u hu) (hP t u hPt hu) e1 w3 h31 h32 (hTab _ _ hT (k2.trans (hb4.mono (by omega)))) (w.heap.size + 1) ?_ (by have := hb3.size; omega)
        rw [hb4.cell (p := ⟨w.heap.size + 1, 0, none⟩) (by show w.heap.size + 1 < w.heap.size + 2; omega)]
        simp)
  have hcf2 : ∀ args w, (callFunc f args).run Tryz.prog w = .ok (.enter f args) w := hcf
  rw [any_not] at hCF
  generalize t.l.all (allT p) = R at hCF
  clear ih hf hcf hc1
  cases hp : p t with
  | false =>
    rw [hp] at hF
    go_enter Tryz.func46, Tryz.ntmps46
    go_wp2_with (refine hF.mono ?_; rintro r w1 ⟨rfl, hb⟩)
    go_ret
    exact ⟨by simp, k2.up hb⟩
  | true =>
    rw [hp] at hF
    go_enter Tryz.func46, Tryz.ntmps46
    go_wp2_with (first
      | (go_at_call 82; refine (hCF _ (by simpa using hb)).mono ?_; rintro r w2 ⟨rfl, hb2⟩)
      | (refine hF.mono ?_; rintro r w1 ⟨rfl, hb⟩; obtain ⟨hc1, hf1⟩ := bcell hb))
    go_ret
    exact ⟨by simp, (k2.up hb).up hb2⟩
end Go.Proofs.YtmelnaidjgpclaaGreatDoor

namespace Go.Proofs.YtmelnaidjgpclaaGreatDoor
open Go.RowKit

def isBlank (c : UInt8) : Bool := c == 9 || c == 10 || c == 13 || c == 32
/-- How many blanks stand at the head. -/
def lead : List UInt8 → Nat
  | [] => 0
  | c :: l => if isBlank c then lead l + 1 else 0
def skipN (l : List UInt8) (k : Nat) : Nat := k + lead (l.drop k)
theorem skipN_out {l : List UInt8} {k : Nat} (h : l.length ≤ k) : skipN l k = k := by
  simp [skipN, List.drop_eq_nil_of_le h, lead]
theorem skipN_in {l : List UInt8} {k : Nat} (h : k < l.length) : skipN l k = if isBlank l[k] then skipN l (k + 1) else k := by
  unfold skipN
  rw [List.drop_eq_getElem_cons h, lead]
  split <;> omega
theorem lead_le (l : List UInt8) : lead l ≤ l.length := by
  induction l with
  | nil => simp [lead]
  | cons c l ih => simp only [lead, List.length_cons]; split <;> omega
theorem skipN_le {l : List UInt8} {k : Nat} (h : k ≤ l.length) : skipN l k ≤ l.length := by
  have := lead_le (l.drop k); unfold skipN; simp at this; omega
def skipI (l : List UInt8) (at_ : Int) : Int := if at_ < 0 then at_ else skipN l at_.toNat

theorem isBlank_iff (c : UInt8) : isBlank c = true ↔ (c.toNat : Int) = 9 ∨ (c.toNat : Int) = 10 ∨ (c.toNat : Int) = 13 ∨ (c.toNat : Int) = 32 := by
  simp only [isBlank, Bool.or_eq_true, beq_iff_eq, ← UInt8.toNat_inj]; simp; omega
theorem getElem_data (s : ByteArray) (k : Nat) (h : k < s.size) (h' : k < s.data.toList.length) : s.data.toList[k] = s[k] := by simp; rfl
theorem skip_yes {s : ByteArray} {k : Nat} (h : k < s.size) (hb : isBlank s[k] = true) : skipN s.data.toList k = skipN s.data.toList (k + 1) := by
  rw [skipN_in (by simpa using h), getElem_data s k h, if_pos hb]
theorem skip_no {s : ByteArray} {k : Nat} (h : k < s.size) (hb : ¬ isBlank s[k] = true) : skipN s.data.toList k = k := by
  rw [skipN_in (by simpa using h), getElem_data s k h, if_neg hb]


end Go.Proofs.YtmelnaidjgpclaaGreatDoor

namespace Go.Proofs.YtmelnaidjgpclaaGreatDoor
open Go.RowKit

theorem wrap32_as (n : Int) (h : -2147483648 ≤ n ∧ n ≤ 2147483647) : wrap32 n = n := by unfold wrap32; omega
def escL (n : Int) : List UInt8 :=
  if runeOk n = true then
    if n = 34 then [92, 34] else if n = 92 then [92, 92] else if n = 8 then [92, 98] else if n = 9 then [92, 116] else if n = 10 then [92, 110]
    else if n = 12 then [92, 102] else if n = 13 then [92, 114] else if n < 32 then 92 :: 117 :: 48 :: 48 :: hexOf [UInt8.ofNat n.toNat] else encL n.toNat
  else []
theorem escL_not {n : Int} (h : runeOk n = false) : escL n = [] := by simp [escL, h]
theorem escL_low {n : Int} (h : 0 ≤ n) (h2 : n < 32) (h3 : n ≠ 8 ∧ n ≠ 9 ∧ n ≠ 10 ∧ n ≠ 12 ∧ n ≠ 13) : escL n = 92 :: 117 :: 48 :: 48 :: hexOf [UInt8.ofNat n.toNat] := by
  have h4 : runeOk n = true := runeOk_yes h (by omega) (by omega)
  obtain ⟨a, b, c, d, e⟩ := h3
  have f : n ≠ 34 := by omega
  have g : n ≠ 92 := by omega
  simp only [escL, h4, a, b, c, d, e, f, g, h2, if_true, if_false]
theorem escL_high {n : Int} (h : runeOk n = true) (h2 : 32 ≤ n) (h3 : n ≠ 34 ∧ n ≠ 92) : escL n = encL n.toNat := by
  obtain ⟨a, b⟩ := h3
  have : ¬ n < 32 := by omega
  have c : n ≠ 8 := by omega
  have d : n ≠ 9 := by omega
  have e : n ≠ 10 := by omega
  have f : n ≠ 12 := by omega
  have g : n ≠ 13 := by omega
  simp only [escL, h, a, b, c, d, e, f, g, this, if_true, if_false]
theorem escL_len (n : Int) : (escL n).length ≤ 8 := by
  unfold escL
  have := encL_len n.toNat
  have h2 := hexOf_len [UInt8.ofNat n.toNat]
  (repeat' split) <;> simp at h2 ⊢ <;> omega
theorem u8_low {n : Int} (h : 0 ≤ n) (h2 : n < 256) : [Value.int .u8 n] = u8s [UInt8.ofNat n.toNat] := by
  simp [u8s]; omega
theorem hexOf_size (b : List UInt8) : (⟨(hexOf b).toArray⟩ : ByteArray).size = 2 * b.length := by
  show (hexOf b).toArray.size = _
  simp [hexOf_len]
theorem utf8_one {n : Int} (h : 0 ≤ n) (h2 : n < 128) : Utf8.encode n = ⟨[UInt8.ofNat n.toNat].toArray⟩ := by
  rw [encode_ok (runeOk_yes h (by omega) (by omega)), encL, if_pos (by omega)]
end Go.Proofs.YtmelnaidjgpclaaGreatDoor

namespace Go.Proofs.YtmelnaidjgpclaaGreatDoor
open Go.RowKit

def escs (l : List Int) : List UInt8 := l.flatMap escL
theorem escs_len (l : List Int) : (escs l).length ≤ 8 * l.length := by
  induction l with
  | nil => simp [escs]
  | cons a l ih => have := escL_len a; simp only [escs, List.flatMap_cons, List.length_append, List.length_cons] at ih ⊢; omega
theorem escs_snoc (l : List Int) (x : Int) : escs (l ++ [x]) = escs l ++ escL x := by simp [escs, List.flatMap_append]
/-- A text in quotes; no text: nothing. -/
def quoteL (l : List UInt8) : List UInt8 := if Lib.validD l = true then 34 :: (escs (runesL l) ++ [34]) else []
theorem quoteL_no {l : List UInt8} (h : Lib.validD l = false) : quoteL l = [] := by simp [quoteL, h]
theorem quoteL_yes {l : List UInt8} (h : Lib.validD l = true) : quoteL l = 34 :: (escs (runesL l) ++ [34]) := by simp [quoteL, h]
theorem quoteL_len (l : List UInt8) : (quoteL l).length ≤ 8 * l.length + 2 := by
  have h1 := escs_len (runesL l)
  have h2 := runesL_len l
  unfold quoteL
  split <;> simp <;> omega
theorem ba_add (a b : List UInt8) : (⟨a.toArray⟩ : ByteArray) ++ (⟨b.toArray⟩ : ByteArray) = ⟨(a ++ b).toArray⟩ := by
  apply ByteArray.ext
  simp
theorem ba_sz (a : List UInt8) : (⟨a.toArray⟩ : ByteArray).size = a.length := by show a.toArray.size = _; simp
theorem quoted_eq (s : ByteArray) : ({ data := #[34] } ++ s ++ { data := #[34] } : ByteArray).toList = 34 :: (s.data.toList ++ [34]) := by rw [ByteArray.toList_eq]; simp
/-- Nothing is escaped. -/
def bareL (l : List UInt8) : Bool := Lib.validD l && (quoteL l == 34 :: (l ++ [34]))
end Go.Proofs.YtmelnaidjgpclaaGreatDoor

namespace Go.Proofs.YtmelnaidjgpclaaGreatDoor
open Go.RowKit

def numL (n : Int) : List UInt8 := Lib.itoa n
theorem numL_len {n : Int} (h : -9223372036854775808 ≤ n ∧ n ≤ 9223372036854775807) : (numL n).length ≤ 21 := Lib.itoa_length_le n h.1 h.2
theorem numL_zero : numL 0 = [48] := by unfold numL Lib.itoa; rw [if_neg (by decide)]; exact Lib.decDigits_one (by decide)
theorem numL_pos {n : Int} (h : 0 ≤ n) : numL n = Lib.decDigits n.natAbs := by unfold numL Lib.itoa; rw [if_neg (by omega)]; congr 1; omega
theorem numL_neg {n : Int} (h : n < 0) : numL n = 45 :: Lib.decDigits n.natAbs := by unfold numL Lib.itoa; rw [if_pos h]
def digs0 (u : Nat) : List UInt8 := if u = 0 then [] else Lib.decDigits u
theorem digs0_step {u : Nat} (h : u ≠ 0) : digs0 u = digs0 (u / 10) ++ [UInt8.ofNat (48 + u % 10)] := by
  unfold digs0
  rw [if_neg h]
  by_cases h2 : u < 10
  · rw [if_pos (by omega), Lib.decDigits_one h2, Nat.mod_eq_of_lt h2]; rfl
  · rw [if_neg (by omega), Lib.decDigits, dif_neg h2]
theorem digs0_len {u : Nat} (h : u ≤ 9223372036854775808) : (digs0 u).length ≤ 21 := by
  unfold digs0
  split
  · simp
  · by_cases h2 : u ≤ 9223372036854775807
    · have := Lib.itoa_length_le (u : Int) (by omega) (by omega); rw [Lib.itoa_nonneg] at this; exact this
    · have := Lib.itoa_length_le (-(u : Int)) (by omega) (by omega); rw [Lib.itoa_neg u (by omega), List.length_cons] at this; omega
theorem tab_below {n : String} {g : Nat} {k : IntKind} {zs : List Int} {w w' : World} (hg : Tryz.prog.globalNamed n = some g) (h : Lib.TabIs Tryz.prog w n k zs) (hb : Below w.heap.size w w') : Lib.TabIs Tryz.prog w' n k zs := by
  unfold Lib.TabIs World.var? at h ⊢
  rw [hg] at h ⊢
  simp only [Option.bind_some] at h ⊢
  have hlt : g < w.heap.size := by
    rcases Nat.lt_or_ge g w.heap.size with h' | h'
    · exact h'
    · rw [Array.getElem?_eq_none h'] at h; cases h
  rw [hb.block g hlt]
  exact h
/-- The powers of ten stand in their table. -/
def PowT (w : World) : Prop := Lib.TabIs Tryz.prog w "internal/strconv.uint64pow10" .u64 Lib.pow10Tab
theorem PowT.below {w w' : World} (h : PowT w) (hb : Below w.heap.size w w') : PowT w' := tab_below (g := 3) (by kernel_rfl) h hb
theorem i_NumText (n : Int) (w : World) (hn : -9223372036854775808 ≤ n ∧ n ≤ 9223372036854775807) (hP : PowT w) :
    Calls Tryz.prog 148 #[.int .i64 n] w fun e w' => e = .returned (.string ⟨(numL n).toArray⟩) ∧ Below w.heap.size w w' := by
  have h := Tryz.strconv_Itoa n hn.1 hn.2 w hP
  obtain ⟨R, hR⟩ : ∃ R, Lib.itoa n = R := ⟨_, rfl⟩
  unfold numL
  rw [hR] at h ⊢
  clear hR
  go_enter Tryz.func148, Tryz.ntmps148
  go_wp2_with (go_at_call 151; refine h.mono ?_; rintro e w1 ⟨rfl, hw⟩; have hb : Below w.heap.size w w1 := (by obtain ⟨kk, os, rfl⟩ := hw; exact Lib.below_grow _ _ (Nat.le_refl _) _ _); clear hw)
  go_ret
  exact ⟨rfl, hb⟩
end Go.Proofs.YtmelnaidjgpclaaGreatDoor

namespace Go.Proofs.YtmelnaidjgpclaaGreatDoor
open Go.RowKit

/-- The number of decimal digits. -/
def digN (n : Int) : Nat := (Lib.decDigits n.natAbs).length
theorem decDigits_len_step {u : Nat} (h : ¬ u < 10) : (Lib.decDigits u).length = (Lib.decDigits (u / 10)).length + 1 := by
  rw [Lib.decDigits, dif_neg h]; simp
theorem decDigits_len_one {u : Nat} (h : u < 10) : (Lib.decDigits u).length = 1 := by rw [Lib.decDigits_one h]; rfl
theorem decDigits_len_pos (u : Nat) : 1 ≤ (Lib.decDigits u).length := by
  by_cases h : u < 10
  · rw [decDigits_len_one h]; exact Nat.le_refl _
  · rw [decDigits_len_step h]; omega
theorem digN_pos (n : Int) : 1 ≤ digN n := by
  unfold digN
  by_cases h : n.natAbs < 10
  · rw [decDigits_len_one h]; exact Nat.le_refl _
  · rw [decDigits_len_step h]; omega
theorem digN_le {n : Int} (h : -9223372036854775808 ≤ n ∧ n ≤ 9223372036854775807) : digN n ≤ 21 := by
  have h1 := numL_len h
  unfold digN
  by_cases h0 : 0 ≤ n
  · rw [numL_pos h0] at h1; exact h1
  · rw [numL_neg (by omega), List.length_cons] at h1; omega
def decOk (n x : Int) : Bool := if x = 0 then inR n (-1000000000000000) 1000000000000000 else inR x (-16) (-1) && (decide (digN n ≤ 17) && !(n.tmod 10 == 0))
theorem decOk_zero (n : Int) : decOk n 0 = inR n (-1000000000000000) 1000000000000000 := by simp [decOk]
def digR (x : Int) : Nat := if x = 0 then 0 else (Lib.decDigits x.natAbs).length
theorem digR_zero : digR 0 = 0 := by simp [digR]
theorem digR_step {x : Int} (h : x ≠ 0) : digR x = digR (x.tdiv 10) + 1 := by
  unfold digR
  rw [if_neg h]
  have e : (x.tdiv 10).natAbs = x.natAbs / 10 := by rw [Int.natAbs_tdiv]; rfl
  by_cases h2 : x.natAbs < 10
  · rw [if_pos (by omega), decDigits_len_one h2]
  · rw [if_neg (by omega), e, decDigits_len_step h2]
theorem digN_eq (n : Int) : digN n = digR (n.tdiv 10) + 1 := by
  unfold digN digR
  have e : (n.tdiv 10).natAbs = n.natAbs / 10 := by rw [Int.natAbs_tdiv]; rfl
  by_cases h2 : n.natAbs < 10
  · rw [if_pos (by omega), decDigits_len_one h2]
  · rw [if_neg (by omega), e, decDigits_len_step h2]
theorem tdiv10_bd {x : Int} (h : -9223372036854775808 ≤ x ∧ x ≤ 9223372036854775807) : -922337203685477580 ≤ x.tdiv 10 ∧ x.tdiv 10 ≤ 922337203685477580 := by
  have e : (x.tdiv 10).natAbs = x.natAbs / 10 := by rw [Int.natAbs_tdiv]; rfl
  omega
set_option maxHeartbeats 1000000 in
theorem s_Digits (n : Int) (w : World) (hn : -9223372036854775808 ≤ n ∧ n ≤ 9223372036854775807) :
    Calls Tryz.prog 109 #[.int .i64 n] w fun e w' => e = .returned (.int .i64 (digN n)) ∧ w = w' := by
  obtain ⟨R, hR⟩ : ∃ R : Nat, digN n = R := ⟨_, rfl⟩
  have hR2 : R ≤ 21 := by rw [← hR]; exact digN_le hn
  rw [hR]
  have hb0 := tdiv10_bd hn
  have HR : Hid (1 + digR (n.tdiv 10) = R) := Lib.hid (by rw [← hR, digN_eq]; omega)
  clear hR
  go_enter Tryz.func109, Tryz.ntmps109
  go_wp2_with fail
  go_loop [3, 4] (fun v3 v4 => ∃ (x : Int) (k : Nat), v3 = .int .i64 k ∧ v4 = .int .i64 x ∧ k ≤ R ∧ (-922337203685477580 ≤ x ∧ x ≤ 922337203685477580) ∧ Hid (k + digR x = R)) (fun _ v4 => (intOf v4).natAbs)
  case atStart => exact ⟨n.tdiv 10, 1, rfl, rfl, by have := HR.out; omega, hb0, HR⟩
  case round =>
    obtain ⟨x, k, rfl, rfl, hk, hx, hH⟩ := hrel
    clear HR hb0
    by_cases h0 : x = 0
    · subst h0
      have hh := hH.out
      rw [digR_zero, Nat.add_zero] at hh
      subst hh
      clear hH
      go_wp2_with fail
      go_ret
      exact ⟨rfl, rfl⟩
    · have hz : (x == 0) = false := by simpa using h0
      have hz2 : (x != 0) = true := by simpa using h0
      have hh := hH.out
      rw [digR_step h0] at hh
      have HH : Hid (k + 1 + digR (x.tdiv 10) = R) := Lib.hid (by omega)
      have hbx := tdiv10_bd (x := x) (by omega)
      have hab : (x.tdiv 10).natAbs = x.natAbs / 10 := by rw [Int.natAbs_tdiv]; rfl
      have Hab := Lib.hid hab
      clear hh hH hab
      go_wp2_with fail
      go_round
      case rel => exact ⟨x.tdiv 10, k + 1, by go_num, rfl, by have := HH.out; omega, hbx, HH⟩
      case measure => show (x.tdiv 10).natAbs < x.natAbs; rw [Hab.out]; omega
theorem decDigits_head (u : Nat) : ∀ a, (Lib.decDigits u).head? = some a → 48 ≤ a.toNat ∧ a.toNat ≤ 57 := by
  induction u using Nat.strongRecOn with
  | ind u ih =>
    by_cases h : u < 10
    · rw [Lib.decDigits_one h]
      intro a ha
      simp only [List.head?_cons, Option.some.injEq] at ha
      subst ha
      rw [UInt8.toNat_ofNat_of_lt' (by show 48 + u < 256; omega)]
      omega
    · rw [Lib.decDigits, dif_neg h]
      intro a ha
      refine ih (u / 10) (by omega) a ?_
      cases hd : Lib.decDigits (u / 10) with
      | nil =>
        have := decDigits_len_pos (u / 10)
        rw [hd] at this; simp at this
      | cons b l => rw [hd] at ha; simpa using ha
theorem trimMinus (n : Int) : (Lib.trimPrefix (numL n) [45]).length = digN n := by
  unfold digN Lib.trimPrefix
  by_cases h : 0 ≤ n
  · rw [numL_pos h]
    have h2 : Lib.hasPrefix (Lib.decDigits n.natAbs) [45] = false := by
      have hm := decDigits_head n.natAbs
      unfold Lib.hasPrefix
      cases hd : Lib.decDigits n.natAbs with
      | nil => rfl
      | cons a l =>
        rw [hd] at hm
        have ha := hm a rfl
        have : ¬ (45 : UInt8) = a := fun e => by subst e; revert ha; decide
        simp [List.isPrefixOf, this]
    simp [h2]
  · rw [numL_neg (by omega)]
    simp [Lib.hasPrefix]
theorem i_Digits (n : Int) (w : World) (hn : -9223372036854775808 ≤ n ∧ n ≤ 9223372036854775807) (hP : PowT w) :
    Calls Tryz.prog 137 #[.int .i64 n] w fun e w' => e = .returned (.int .i64 (digN n)) ∧ Below w.heap.size w w' := by
  have ht := trimMinus n
  have hnt := i_NumText n w hn hP
  have hl := numL_len hn
  obtain ⟨R, hR⟩ : ∃ R, numL n = R := ⟨_, rfl⟩
  rw [hR] at ht hnt hl
  have hT := fun w1 => Tryz.strings_TrimPrefix ⟨R.toArray⟩ ⟨#[45]⟩ w1
  have e1 : (⟨R.toArray⟩ : ByteArray).data.toList = R := by simp
  have e2 : (⟨#[45]⟩ : ByteArray).data.toList = [45] := rfl
  rw [e1, e2] at hT
  obtain ⟨T, hTT⟩ : ∃ T, Lib.trimPrefix R [45] = T := ⟨_, rfl⟩
  rw [hTT] at hT ht
  have hts : (⟨T.toArray⟩ : ByteArray).size = digN n := by rw [← ht]; exact ba_sz T
  generalize (⟨T.toArray⟩ : ByteArray) = TB at hT hts
  rw [← hts]
  clear e1 e2 hR hTT ht hts
  go_enter Tryz.func137, Tryz.ntmps137
  go_wp2_with (first
    | (go_at_call 148; refine hnt.mono ?_; rintro e w1 ⟨rfl, hb1⟩)
    | (go_at_call 147; refine (hT _).mono ?_; rintro e w2 ⟨rfl, rfl⟩))
  go_ret
  exact ⟨rfl, hb1⟩
theorem decOk_nz {n x : Int} (h : x ≠ 0) : decOk n x = (inR x (-16) (-1) && (decide (digN n ≤ 17) && !(n.tmod 10 == 0))) := by unfold decOk; rw [if_neg h]
set_option maxHeartbeats 1000000 in
theorem s_DecOk (n x : Int) (w : World) (hn : -9223372036854775808 ≤ n ∧ n ≤ 9223372036854775807) (hx : -9223372036854775808 ≤ x ∧ x ≤ 9223372036854775807) :
    Calls Tryz.prog 71 #[.agg #[.int .i64 n, .int .i64 x]] w fun e w' => e = .returned (.bool (decOk n x)) ∧ Below w.heap.size w w' := by
  have hdl := digN_le hn
  have hbb : ∀ w2, Below (w.alloc (.cells #[.int .i64 n, .int .i64 x] 85)).heap.size (w.alloc (.cells #[.int .i64 n, .int .i64 x] 85)) w2 → Below w.heap.size w w2 := fun w2 h => h.boxed
  by_cases h0 : x = 0
  · subst h0
    rw [decOk_zero]
    go_enter Tryz.func71, Tryz.ntmps71
    go_wp2_with (go_at_call 40; refine (s_l1In _ _ _ _).mono ?_; rintro e w1 ⟨rfl, rfl⟩)
    go_ret
    exact ⟨rfl, Below.one _ _⟩
  · have hz : (x == 0) = false := by simpa using h0
    have hd := fun w1 => s_Digits n w1 hn
    rw [decOk_nz h0]
    obtain ⟨r, hr⟩ : ∃ r, inR x (-16) (-1) = r := ⟨_, rfl⟩
    have hin := fun w1 => s_l1In x (-16) (-1) w1
    rw [hr] at hin
    rw [hr]
    clear hr
    generalize digN n = D at hd hdl
    cases r with
    | false =>
      go_enter Tryz.func71, Tryz.ntmps71
      go_wp2_with (go_at_call 40; refine (hin _).mono ?_; rintro e w1 ⟨rfl, rfl⟩)
      go_ret
      exact ⟨by simp, Below.one _ _⟩
    | true =>
      by_cases h1 : n.tmod 10 = 0
      · have hm1 : (n.tmod 10 == 0) = true := by simpa using h1
        by_cases h2 : D ≤ 17
        all_goals
          go_enter Tryz.func71, Tryz.ntmps71
          go_wp2_with (first
            | (go_at_call 40; refine (hin _).mono ?_; rintro e w1 ⟨rfl, rfl⟩)
            | (go_at_call 109; refine (hd _).mono ?_; rintro e w2 ⟨rfl, rfl⟩))
          go_ret
          exact ⟨by first | (simp [h1, h2]; done) | (simp [h1, h2, bne]; done) | (simp [h1, h2, bne]; omega), by first | exact Below.one _ _ | exact hb2.boxed⟩
      · have hm1 : (n.tmod 10 == 0) = false := by simpa using h1
        by_cases h2 : D ≤ 17
        all_goals
          go_enter Tryz.func71, Tryz.ntmps71
          go_wp2_with (first
            | (go_at_call 40; refine (hin _).mono ?_; rintro e w1 ⟨rfl, rfl⟩)
            | (go_at_call 109; refine (hd _).mono ?_; rintro e w2 ⟨rfl, rfl⟩))
          go_ret
          exact ⟨by first | (simp [h1, h2]; done) | (simp [h1, h2, bne]; done) | (simp [h1, h2, bne]; omega), by first | exact Below.one _ _ | exact hb2.boxed⟩
set_option maxHeartbeats 1000000 in
theorem i_DecOk (n x : Int) (w : World) (hn : -9223372036854775808 ≤ n ∧ n ≤ 9223372036854775807) (hx : -9223372036854775808 ≤ x ∧ x ≤ 9223372036854775807) (hP : PowT w) :
    Calls Tryz.prog 115 #[.agg #[.int .i64 n, .int .i64 x]] w fun e w' => e = .returned (.bool (decOk n x)) ∧ Below w.heap.size w w' := by
  have hdl := digN_le hn
  have hbb : ∀ w2, Below (w.alloc (.cells #[.int .i64 n, .int .i64 x] 85)).heap.size (w.alloc (.cells #[.int .i64 n, .int .i64 x] 85)) w2 → Below w.heap.size w w2 := fun w2 h => h.boxed
  by_cases h0 : x = 0
  · subst h0
    rw [decOk_zero]
    go_enter Tryz.func115, Tryz.ntmps115
    go_wp2_with (go_at_call 85; refine (i_within _ _ _ _).mono ?_; rintro e w1 ⟨rfl, rfl⟩)
    go_ret
    exact ⟨rfl, Below.one _ _⟩
  · have hz : (x == 0) = false := by simpa using h0
    have hd := fun w1 (hb : Below w.heap.size w w1) => i_Digits n w1 hn (hP.below hb)
    rw [decOk_nz h0]
    obtain ⟨r, hr⟩ : ∃ r, inR x (-16) (-1) = r := ⟨_, rfl⟩
    have hin := fun w1 => i_within x (-16) (-1) w1
    rw [hr] at hin
    rw [hr]
    clear hr
    generalize digN n = D at hd hdl
    cases r with
    | false =>
      go_enter Tryz.func115, Tryz.ntmps115
      go_wp2_with (go_at_call 85; refine (hin _).mono ?_; rintro e w1 ⟨rfl, rfl⟩)
      go_ret
      exact ⟨by simp, Below.one _ _⟩
    | true =>
      by_cases h1 : n.tmod 10 = 0
      · have hm1 : (n.tmod 10 == 0) = true := by simpa using h1
        by_cases h2 : D ≤ 17
        all_goals
          go_enter Tryz.func115, Tryz.ntmps115
          go_wp2_with (first
            | (go_at_call 85; refine (hin _).mono ?_; rintro e w1 ⟨rfl, rfl⟩)
            | (go_at_call 137; refine (hd _ (Below.one w _)).mono ?_; rintro e w2 ⟨rfl, hb2⟩; obtain ⟨hc1, hf1⟩ := bcell hb2))
          go_ret
          exact ⟨by first | (simp [h1, h2]; done) | (simp [h1, h2, bne]; done) | (simp [h1, h2, bne]; omega), by first | exact Below.one _ _ | exact hb2.boxed⟩
      · have hm1 : (n.tmod 10 == 0) = false := by simpa using h1
        by_cases h2 : D ≤ 17
        all_goals
          go_enter Tryz.func115, Tryz.ntmps115
          go_wp2_with (first
            | (go_at_call 85; refine (hin _).mono ?_; rintro e w1 ⟨rfl, rfl⟩)
            | (go_at_call 137; refine (hd _ (Below.one w _)).mono ?_; rintro e w2 ⟨rfl, hb2⟩; obtain ⟨hc1, hf1⟩ := bcell hb2))
          go_ret
          exact ⟨by first | (simp [h1, h2]; done) | (simp [h1, h2, bne]; done) | (simp [h1, h2, bne]; omega), by first | exact Below.one _ _ | exact hb2.boxed⟩
end Go.Proofs.YtmelnaidjgpclaaGreatDoor

namespace Go.Proofs.YtmelnaidjgpclaaGreatDoor
open Go.RowKit

/-- The fields of a value, but for its elements, are right for its kind. -/
def ownB (k n x : Int) (s : ByteArray) (m : Nat) : Bool :=
  if k = 1 then (n == 0) && ((x == 0) && (s.toList.isEmpty && (m == 0)))
  else if k = 2 then inR n 0 1 && ((x == 0) && (s.toList.isEmpty && (m == 0)))
  else if k = 3 then inR n (-1000000000000000) 1000000000000000 && ((x == 0) && (s.toList.isEmpty && (m == 0)))
  else if k = 4 then fltOk n x && (s.toList.isEmpty && (m == 0))
  else if k = 5 then inR n 0 2 && ((x == 0) && (s.toList.isEmpty && (m == 0)))
  else if k = 6 then decOk n x && (decide (x < 0) && (s.toList.isEmpty && (m == 0)))
  else if k = 7 then (n == 0) && ((x == 0) && (Lib.validD s.data.toList && (m == 0)))
  else if k = 8 then (n == 0) && ((x == 0) && (m == 0))
  else if k = 9 then (n == 0) && ((x == 0) && s.toList.isEmpty)
  else if k = 10 then (n == 0) && ((x == 0) && (s.toList.isEmpty && (m % 2 == 0)))
  else if k = 11 then inR n 0 1000000000000000 && ((x == 0) && (s.toList.isEmpty && (m == 1)))
  else false
def ownT (t : Tr) : Bool := ownB t.k t.n t.x t.s t.l.length
noncomputable def valOk (t : Tr) : Bool := allT ownT t
/-- The tables that texts and numbers lean on. -/
def TabUP (w : World) : Prop := Lib.Utf8Tabs 0 1 w ∧ PowT w
theorem TabUP.below {w w' : World} (h : TabUP w) (hb : Below w.heap.size w w') : TabUP w' := ⟨Utf8Tabs_below h.1 hb, h.2.below hb⟩
theorem sz_kid {t u : Tr} (hu : u ∈ t.l) : u.sz < t.sz := by
  obtain ⟨j, hj, rfl⟩ := List.mem_iff_getElem.1 hu
  have h1 := szT_succ hj
  have h2 := szT_le t.l (j + 1)
  have h3 := t.sz_eq
  omega
/-- A tree that can be walked. -/
def Fit (t : Tr) : Prop := t.wf ∧ t.sz ≤ 1048576
theorem Fit.kid {t u : Tr} (h : Fit t) (hu : u ∈ t.l) : Fit u := ⟨((Tr.wf_iff t).1 h.1).2.2.2.2 u hu, by have := sz_kid hu; have := h.2; omega⟩
theorem Fit.len {t : Tr} (h : Fit t) : t.l.length ≤ 1048576 := by have := h.2; have := t.sz_eq; have := szT_le t.l 0; omega
theorem Fit.size {t : Tr} (h : Fit t) : t.s.size ≤ 1048576 := by have := h.2; have := t.sz_eq; omega
set_option maxHeartbeats 1000000 in
theorem i_ownOk_1 (n x : Int) (s : ByteArray) (A : Option Addr) (m c : Nat) (w : World) (hn : -9223372036854775808 ≤ n ∧ n ≤ 9223372036854775807) (hx : -9223372036854775808 ≤ x ∧ x ≤ 9223372036854775807) (hs : s.size ≤ 1048576) (hm : m ≤ 1048576) (hT : Lib.Utf8Tabs 0 1 w) (hP : PowT w) :
    Calls Tryz.prog 81 #[.agg #[.int .i64 1, .int .i64 n, .int .i64 x, .string s, .slice A m c]] w fun r w' => r = .returned (.bool (ownB 1 n x s m)) ∧ Below w.heap.size w w' := by
  go_enter Tryz.func81, Tryz.ntmps81
  go_wp2_with fail
  all_goals (go_ret; refine ⟨ret_bool ?_, by first | exact Below.one _ _ | exact hb.boxed⟩)
  all_goals first | (simp [ownB, *]; done) | (simp [ownB, *]; omega) | (simp only [ownB]; rw [Bool.eq_iff_iff]; simp [*]; done) | (simp only [ownB]; rw [Bool.eq_iff_iff]; simp [*]; omega) | (simp [ownB, inR, *]; done) | (simp [ownB, inR, *]; omega) | (simp only [ownB, inR]; rw [Bool.eq_iff_iff]; simp [*]; omega)
set_option maxHeartbeats 1000000 in
theorem i_ownOk_2 (n x : Int) (s : ByteArray) (A : Option Addr) (m c : Nat) (w : World) (hn : -9223372036854775808 ≤ n ∧ n ≤ 9223372036854775807) (hx : -9223372036854775808 ≤ x ∧ x ≤ 9223372036854775807) (hs : s.size ≤ 1048576) (hm : m ≤ 1048576) (hT : Lib.Utf8Tabs 0 1 w) (hP : PowT w) :
    Calls Tryz.prog 81 #[.agg #[.int .i64 2, .int .i64 n, .int .i64 x, .string s, .slice A m c]] w fun r w' => r = .returned (.bool (ownB 2 n x s m)) ∧ Below w.heap.size w w' := by
  go_enter Tryz.func81, Tryz.ntmps81
  go_wp2_with fail
  all_goals (go_ret; refine ⟨ret_bool ?_, by first | exact Below.one _ _ | exact hb.boxed⟩)
  all_goals first | (simp [ownB, *]; done) | (simp [ownB, *]; omega) | (simp only [ownB]; rw [Bool.eq_iff_iff]; simp [*]; done) | (simp only [ownB]; rw [Bool.eq_iff_iff]; simp [*]; omega) | (simp [ownB, inR, *]; done) | (simp [ownB, inR, *]; omega) | (simp only [ownB, inR]; rw [Bool.eq_iff_iff]; simp [*]; omega)
set_option maxHeartbeats 1000000 in
theorem i_ownOk_3 (n x : Int) (s : ByteArray) (A : Option Addr) (m c : Nat) (w : World) (hn : -9223372036854775808 ≤ n ∧ n ≤ 9223372036854775807) (hx : -9223372036854775808 ≤ x ∧ x ≤ 9223372036854775807) (hs : s.size ≤ 1048576) (hm : m ≤ 1048576) (hT : Lib.Utf8Tabs 0 1 w) (hP : PowT w) :
    Calls Tryz.prog 81 #[.agg #[.int .i64 3, .int .i64 n, .int .i64 x, .string s, .slice A m c]] w fun r w' => r = .returned (.bool (ownB 3 n x s m)) ∧ Below w.heap.size w w' := by
  go_enter Tryz.func81, Tryz.ntmps81
  go_wp2_with (go_at_call 85; refine (i_within _ _ _ _).mono ?_; rintro e w1 ⟨rfl, rfl⟩)
  all_goals (go_ret; refine ⟨ret_bool ?_, by first | exact Below.one _ _ | exact hb.boxed⟩)
  all_goals first | (simp [ownB, *]; done) | (simp [ownB, *]; omega) | (simp only [ownB]; rw [Bool.eq_iff_iff]; simp [*]; done) | (simp only [ownB]; rw [Bool.eq_iff_iff]; simp [*]; omega) | (simp [ownB, inR, *]; done) | (simp [ownB, inR, *]; omega) | (simp only [ownB, inR]; rw [Bool.eq_iff_iff]; simp [*]; omega)
set_option maxHeartbeats 1000000 in
theorem i_ownOk_4 (n x : Int) (s : ByteArray) (A : Option Addr) (m c : Nat) (w : World) (hn : -9223372036854775808 ≤ n ∧ n ≤ 9223372036854775807) (hx : -9223372036854775808 ≤ x ∧ x ≤ 9223372036854775807) (hs : s.size ≤ 1048576) (hm : m ≤ 1048576) (hT : Lib.Utf8Tabs 0 1 w) (hP : PowT w) :
    Calls Tryz.prog 81 #[.agg #[.int .i64 4, .int .i64 n, .int .i64 x, .string s, .slice A m c]] w fun r w' => r = .returned (.bool (ownB 4 n x s m)) ∧ Below w.heap.size w w' := by
  go_enter Tryz.func81, Tryz.ntmps81
  go_wp2_with (go_at_call 114; refine (i_FltOk n x _ hx.2).mono ?_; rintro e w1 ⟨rfl, hb⟩)
  all_goals (go_ret; refine ⟨ret_bool ?_, by first | exact Below.one _ _ | exact hb.boxed⟩)
  all_goals first | (simp [ownB, *]; done) | (simp [ownB, *]; omega) | (simp only [ownB]; rw [Bool.eq_iff_iff]; simp [*]; done) | (simp only [ownB]; rw [Bool.eq_iff_iff]; simp [*]; omega) | (simp [ownB, inR, *]; done) | (simp [ownB, inR, *]; omega) | (simp only [ownB, inR]; rw [Bool.eq_iff_iff]; simp [*]; omega)
set_option maxHeartbeats 1000000 in
theorem i_ownOk_5 (n x : Int) (s : ByteArray) (A : Option Addr) (m c : Nat) (w : World) (hn : -9223372036854775808 ≤ n ∧ n ≤ 9223372036854775807) (hx : -9223372036854775808 ≤ x ∧ x ≤ 9223372036854775807) (hs : s.size ≤ 1048576) (hm : m ≤ 1048576) (hT : Lib.Utf8Tabs 0 1 w) (hP : PowT w) :
    Calls Tryz.prog 81 #[.agg #[.int .i64 5, .int .i64 n, .int .i64 x, .string s, .slice A m c]] w fun r w' => r = .returned (.bool (ownB 5 n x s m)) ∧ Below w.heap.size w w' := by
  go_enter Tryz.func81, Tryz.ntmps81
  go_wp2_with (go_at_call 85; refine (i_within _ _ _ _).mono ?_; rintro e w1 ⟨rfl, rfl⟩)
  all_goals (go_ret; refine ⟨ret_bool ?_, by first | exact Below.one _ _ | exact hb.boxed⟩)
  all_goals first | (simp [ownB, *]; done) | (simp [ownB, *]; omega) | (simp only [ownB]; rw [Bool.eq_iff_iff]; simp [*]; done) | (simp only [ownB]; rw [Bool.eq_iff_iff]; simp [*]; omega) | (simp [ownB, inR, *]; done) | (simp [ownB, inR, *]; omega) | (simp only [ownB, inR]; rw [Bool.eq_iff_iff]; simp [*]; omega)
set_option maxHeartbeats 1000000 in
theorem i_ownOk_6 (n x : Int) (s : ByteArray) (A : Option Addr) (m c : Nat) (w : World) (hn : -9223372036854775808 ≤ n ∧ n ≤ 9223372036854775807) (hx : -9223372036854775808 ≤ x ∧ x ≤ 9223372036854775807) (hs : s.size ≤ 1048576) (hm : m ≤ 1048576) (hT : Lib.Utf8Tabs 0 1 w) (hP : PowT w) :
    Calls Tryz.prog 81 #[.agg #[.int .i64 6, .int .i64 n, .int .i64 x, .string s, .slice A m c]] w fun r w' => r = .returned (.bool (ownB 6 n x s m)) ∧ Below w.heap.size w w' := by
  go_enter Tryz.func81, Tryz.ntmps81
  go_wp2_with (go_at_call 115; refine (i_DecOk n x _ hn hx (hP.below (Below.one w _))).mono ?_; rintro e w1 ⟨rfl, hb⟩)
  all_goals (go_ret; refine ⟨ret_bool ?_, by first | exact Below.one _ _ | exact hb.boxed⟩)
  all_goals first | (simp [ownB, *]; done) | (simp [ownB, *]; omega) | (simp only [ownB]; rw [Bool.eq_iff_iff]; simp [*]; done) | (simp only [ownB]; rw [Bool.eq_iff_iff]; simp [*]; omega) | (simp [ownB, inR, *]; done) | (simp [ownB, inR, *]; omega) | (simp only [ownB, inR]; rw [Bool.eq_iff_iff]; simp [*]; omega)
set_option maxHeartbeats 1000000 in
theorem i_ownOk_7 (n x : Int) (s : ByteArray) (A : Option Addr) (m c : Nat) (w : World) (hn : -9223372036854775808 ≤ n ∧ n ≤ 9223372036854775807) (hx : -9223372036854775808 ≤ x ∧ x ≤ 9223372036854775807) (hs : s.size ≤ 1048576) (hm : m ≤ 1048576) (hT : Lib.Utf8Tabs 0 1 w) (hP : PowT w) :
    Calls Tryz.prog 81 #[.agg #[.int .i64 7, .int .i64 n, .int .i64 x, .string s, .slice A m c]] w fun r w' => r = .returned (.bool (ownB 7 n x s m)) ∧ Below w.heap.size w w' := by
  go_enter Tryz.func81, Tryz.ntmps81
  go_wp2_with (go_at_call 104; refine (i_TextOk s _ (by omega) (Utf8Tabs_below hT (Below.one w _))).mono ?_; rintro e w1 ⟨rfl, hb⟩)
  all_goals (go_ret; refine ⟨ret_bool ?_, by first | exact Below.one _ _ | exact hb.boxed⟩)
  all_goals first | (simp [ownB, *]; done) | (simp [ownB, *]; omega) | (simp only [ownB]; rw [Bool.eq_iff_iff]; simp [*]; done) | (simp only [ownB]; rw [Bool.eq_iff_iff]; simp [*]; omega) | (simp [ownB, inR, *]; done) | (simp [ownB, inR, *]; omega) | (simp only [ownB, inR]; rw [Bool.eq_iff_iff]; simp [*]; omega)
set_option maxHeartbeats 1000000 in
theorem i_ownOk_8 (n x : Int) (s : ByteArray) (A : Option Addr) (m c : Nat) (w : World) (hn : -9223372036854775808 ≤ n ∧ n ≤ 9223372036854775807) (hx : -9223372036854775808 ≤ x ∧ x ≤ 9223372036854775807) (hs : s.size ≤ 1048576) (hm : m ≤ 1048576) (hT : Lib.Utf8Tabs 0 1 w) (hP : PowT w) :
    Calls Tryz.prog 81 #[.agg #[.int .i64 8, .int .i64 n, .int .i64 x, .string s, .slice A m c]] w fun r w' => r = .returned (.bool (ownB 8 n x s m)) ∧ Below w.heap.size w w' := by
  go_enter Tryz.func81, Tryz.ntmps81
  go_wp2_with fail
  all_goals (go_ret; refine ⟨ret_bool ?_, by first | exact Below.one _ _ | exact hb.boxed⟩)
  all_goals first | (simp [ownB, *]; done) | (simp [ownB, *]; omega) | (simp only [ownB]; rw [Bool.eq_iff_iff]; simp [*]; done) | (simp only [ownB]; rw [Bool.eq_iff_iff]; simp [*]; omega) | (simp [ownB, inR, *]; done) | (simp [ownB, inR, *]; omega) | (simp only [ownB, inR]; rw [Bool.eq_iff_iff]; simp [*]; omega)
set_option maxHeartbeats 1000000 in
theorem i_ownOk_9 (n x : Int) (s : ByteArray) (A : Option Addr) (m c : Nat) (w : World) (hn : -9223372036854775808 ≤ n ∧ n ≤ 9223372036854775807) (hx : -9223372036854775808 ≤ x ∧ x ≤ 9223372036854775807) (hs : s.size ≤ 1048576) (hm : m ≤ 1048576) (hT : Lib.Utf8Tabs 0 1 w) (hP : PowT w) :
    Calls Tryz.prog 81 #[.agg #[.int .i64 9, .int .i64 n, .int .i64 x, .string s, .slice A m c]] w fun r w' => r = .returned (.bool (ownB 9 n x s m)) ∧ Below w.heap.size w w' := by
  go_enter Tryz.func81, Tryz.ntmps81
  go_wp2_with fail
  all_goals (go_ret; refine ⟨ret_bool ?_, by first | exact Below.one _ _ | exact hb.boxed⟩)
  all_goals first | (simp [ownB, *]; done) | (simp [ownB, *]; omega) | (simp only [ownB]; rw [Bool.eq_iff_iff]; simp [*]; done) | (simp only [ownB]; rw [Bool.eq_iff_iff]; simp [*]; omega) | (simp [ownB, inR, *]; done) | (simp [ownB, inR, *]; omega) | (simp only [ownB, inR]; rw [Bool.eq_iff_iff]; simp [*]; omega)
set_option maxHeartbeats 1000000 in
theorem i_ownOk_10 (n x : Int) (s : ByteArray) (A : Option Addr) (m c : Nat) (w : World) (hn : -9223372036854775808 ≤ n ∧ n ≤ 9223372036854775807) (hx : -9223372036854775808 ≤ x ∧ x ≤ 9223372036854775807) (hs : s.size ≤ 1048576) (hm : m ≤ 1048576) (hT : Lib.Utf8Tabs 0 1 w) (hP : PowT w) :
    Calls Tryz.prog 81 #[.agg #[.int .i64 10, .int .i64 n, .int .i64 x, .string s, .slice A m c]] w fun r w' => r = .returned (.bool (ownB 10 n x s m)) ∧ Below w.heap.size w w' := by
  go_enter Tryz.func81, Tryz.ntmps81
  go_wp2_with fail
  all_goals (go_ret; refine ⟨ret_bool ?_, by first | exact Below.one _ _ | exact hb.boxed⟩)
  all_goals first | (simp [ownB, *]; done) | (simp [ownB, *]; omega) | (simp only [ownB]; rw [Bool.eq_iff_iff]; simp [*]; done) | (simp only [ownB]; rw [Bool.eq_iff_iff]; simp [*]; omega) | (simp [ownB, inR, *]; done) | (simp [ownB, inR, *]; omega) | (simp only [ownB, inR]; rw [Bool.eq_iff_iff]; simp [*]; omega)
set_option maxHeartbeats 1000000 in
theorem i_ownOk_11 (n x : Int) (s : ByteArray) (A : Option Addr) (m c : Nat) (w : World) (hn : -9223372036854775808 ≤ n ∧ n ≤ 9223372036854775807) (hx : -9223372036854775808 ≤ x ∧ x ≤ 9223372036854775807) (hs : s.size ≤ 1048576) (hm : m ≤ 1048576) (hT : Lib.Utf8Tabs 0 1 w) (hP : PowT w) :
    Calls Tryz.prog 81 #[.agg #[.int .i64 11, .int .i64 n, .int .i64 x, .string s, .slice A m c]] w fun r w' => r = .returned (.bool (ownB 11 n x s m)) ∧ Below w.heap.size w w' := by
  go_enter Tryz.func81, Tryz.ntmps81
  go_wp2_with (go_at_call 85; refine (i_within _ _ _ _).mono ?_; rintro e w1 ⟨rfl, rfl⟩)
  all_goals (go_ret; refine ⟨ret_bool ?_, by first | exact Below.one _ _ | exact hb.boxed⟩)
  all_goals first | (simp [ownB, *]; done) | (simp [ownB, *]; omega) | (simp only [ownB]; rw [Bool.eq_iff_iff]; simp [*]; done) | (simp only [ownB]; rw [Bool.eq_iff_iff]; simp [*]; omega) | (simp [ownB, inR, *]; done) | (simp [ownB, inR, *]; omega) | (simp only [ownB, inR]; rw [Bool.eq_iff_iff]; simp [*]; omega)
set_option maxHeartbeats 1000000 in
theorem i_ownOk_no (k n x : Int) (s : ByteArray) (A : Option Addr) (m c : Nat) (w : World) (hm : m ≤ 1048576) (hk : k < 1 ∨ 11 < k) :
    Calls Tryz.prog 81 #[.agg #[.int .i64 k, .int .i64 n, .int .i64 x, .string s, .slice A m c]] w fun r w' => r = .returned (.bool (ownB k n x s m)) ∧ Below w.heap.size w w' := by
  have q1 : (k == 1) = false := by simp; omega
  have q2 : (k == 2) = false := by simp; omega
  have q3 : (k == 3) = false := by simp; omega
  have q4 : (k == 4) = false := by simp; omega
  have q5 : (k == 5) = false := by simp; omega
  have q6 : (k == 6) = false := by simp; omega
  have q7 : (k == 7) = false := by simp; omega
  have q8 : (k == 8) = false := by simp; omega
  have q9 : (k == 9) = false := by simp; omega
  have q10 : (k == 10) = false := by simp; omega
  have q11 : (k == 11) = false := by simp; omega
  have p4 : (k != 4) = true := by simp; omega
  have p6 : (k != 6) = true := by simp; omega
  have e : ownB k n x s m = false := by
    unfold ownB
    rw [if_neg (by omega), if_neg (by omega), if_neg (by omega), if_neg (by omega), if_neg (by omega), if_neg (by omega), if_neg (by omega), if_neg (by omega), if_neg (by omega), if_neg (by omega), if_neg (by omega)]
  rw [e]
  clear e hk
  go_enter Tryz.func81, Tryz.ntmps81
  go_wp2_with fail
  all_goals (go_ret; exact ⟨rfl, Below.one _ _⟩)
theorem i_ownOk (t : Tr) (e : El) (w : World) (hF : Fit t) (hl : LsAt w t.l e) (hel : e.lt w.heap.size) (hT : TabUP w) :
    Calls Tryz.prog 81 #[trV t e] w fun r w' => r = .returned (.bool (ownT t)) ∧ Below w.heap.size w w' := by
  have h1 := (Tr.wf_iff t).1 hF.1
  have h2 := hF.len
  have h3 := hF.size
  have hen := hl.len
  unfold ownT
  rw [hen] at h2 ⊢
  obtain ⟨k, n, x, s, l⟩ := t
  obtain ⟨A, m, c, fp⟩ := e
  obtain ⟨hk, hn, hx, _, _⟩ := h1
  by_cases hr : k < 1 ∨ 11 < k
  · exact i_ownOk_no k n x s A m c w h2 hr
  have hc : k = 1 ∨ k = 2 ∨ k = 3 ∨ k = 4 ∨ k = 5 ∨ k = 6 ∨ k = 7 ∨ k = 8 ∨ k = 9 ∨ k = 10 ∨ k = 11 := by omega
  rcases hc with rfl | rfl | rfl | rfl | rfl | rfl | rfl | rfl | rfl | rfl | rfl
  · exact i_ownOk_1 n x s A m c w hn hx h3 h2 hT.1 hT.2
  · exact i_ownOk_2 n x s A m c w hn hx h3 h2 hT.1 hT.2
  · exact i_ownOk_3 n x s A m c w hn hx h3 h2 hT.1 hT.2
  · exact i_ownOk_4 n x s A m c w hn hx h3 h2 hT.1 hT.2
  · exact i_ownOk_5 n x s A m c w hn hx h3 h2 hT.1 hT.2
  · exact i_ownOk_6 n x s A m c w hn hx h3 h2 hT.1 hT.2
  · exact i_ownOk_7 n x s A m c w hn hx h3 h2 hT.1 hT.2
  · exact i_ownOk_8 n x s A m c w hn hx h3 h2 hT.1 hT.2
  · exact i_ownOk_9 n x s A m c w hn hx h3 h2 hT.1 hT.2
  · exact i_ownOk_10 n x s A m c w hn hx h3 h2 hT.1 hT.2
  · exact i_ownOk_11 n x s A m c w hn hx h3 h2 hT.1 hT.2
theorem enters_ownOk : EntersF 81 := enters_of Tryz.func81 (by kernel_rfl) rfl
theorem enters_every1 : EntersF 83 := enters_of Tryz.func83 (by kernel_rfl) rfl
theorem i_ValOk (t : Tr) (e : El) (w : World) (hF : Fit t) (hl : LsAt w t.l e) (hel : e.lt w.heap.size) (hT : TabUP w) :
    Calls Tryz.prog 45 #[trV t e] w fun r w' => r = .returned (.bool (valOk t)) ∧ Below w.heap.size w w' := by
  have kb := Below.one w (.cells (valCells t e) 28)
  have h := i_every 81 enters_ownOk enters_every1 ownT Fit TabUP (fun _ _ h hb => h.below hb) (fun _ _ h hu => h.kid hu) (fun u e w hu hl hel hT => i_ownOk u e w hu hl hel hT) t hF e _ (hl.below hel kb) (hel.mono kb.size) (hT.below kb)
  unfold valOk
  generalize allT ownT t = R at h
  go_enter Tryz.func45, Tryz.ntmps45
  go_wp2_with (go_at_call 46; refine h.mono ?_; rintro r w1 ⟨rfl, hb⟩)
  go_ret
  exact ⟨rfl, kb.up hb⟩
end Go.Proofs.YtmelnaidjgpclaaGreatDoor

namespace Go.Proofs.YtmelnaidjgpclaaGreatDoor
open Go.RowKit

theorem take_all_len {l : List Tr} {j n : Nat} (h : l.length = n) (hj : n ≤ j) : l.take j = l := List.take_of_length_le (by omega)
theorem bcell_ {B : Nat} {w w1 : World} (h : Below B w w1) (hB : w.heap.size = B) : (∀ b o, b < B → w1.cell? ⟨b, o, none⟩ = w.cell? ⟨b, o, none⟩) ∧ (∀ b o, b < B → w1.frozen? ⟨b, o, none⟩ = w.frozen? ⟨b, o, none⟩) := by
  subst hB; exact bcell h
/-- What a copy says of a tree: its list lies in new memory. -/
def CopyOf (w w' : World) (r : Ending) (t : Tr) : Prop := ∃ u : El, r = .returned (trV t u) ∧ LsAt w' t.l u ∧ Own w' w.heap.size u.fp ∧ Below w.heap.size w w'
def CqSays (t : Tr) : Prop := ∀ (e : El) (w : World), LsAt w t.l e → e.lt w.heap.size → t.sz ≤ 1099511627776 → Calls Tryz.prog 144 #[trV t e] w fun r w' => CopyOf w w' r t
set_option maxHeartbeats 1600000 in
theorem s_l6Copy (t : Tr) : CqSays t := by
  refine Tr.ind (P := CqSays) (fun t ih => ?_) t
  intro e w hl hel hm
  have hsz := t.sz_eq
  obtain ⟨k, n, x, s, l⟩ := t
  obtain ⟨eA, en, ec, efp⟩ := e
  simp only at hsz ih hl
  have hen : l.length = en := hl.len
  have hszl := szT_le l 0
  have hec : en ≤ ec ∧ ec ≤ maxLen := ⟨((lsAt_iff _ _).1 hl).2.1, ((lsAt_iff _ _).1 hl).2.2.1⟩
  have k2 := Below.two w (.cells #[.int .i64 k, .int .i64 n, .int .i64 x, .string s, .slice eA en ec] 28) (.cells #[.int .i64 0, .int .i64 0, .int .i64 0, .string ⟨#[]⟩, .slice none 0 0] 28)
  go_enter Tryz.func144, Tryz.ntmps144
  go_wp2_with fail
  go_loopg [4] en (fun f z wr => ∃ (j c' : Nat) (A' : Option Addr) (es : List El), j + f = en ∧ z = .int .i64 j ∧ RV wr (w.heap.size + 3) A' j c' (l.take j) es ∧ Blk wr (w.heap.size + 2) 28 #[.int .i64 k, .int .i64 n, .int .i64 x, .string s, .slice A' j c'] ∧ Below (w.heap.size + 2) ((w.alloc (.cells #[.int .i64 k, .int .i64 n, .int .i64 x, .string s, .slice eA en ec] 28)).alloc (.cells #[.int .i64 0, .int .i64 0, .int .i64 0, .string ⟨#[]⟩, .slice none 0 0] 28)) wr)
  case atStart =>
    refine ⟨0, 0, some ⟨w.heap.size + 3, 0, none⟩, [], by omega, rfl, ?_, ?_, ?_⟩
    · exact RV.new _ (w.heap.size + 3) (by simp)
    · exact Blk.alloc (by simpa using Blk.new ((w.alloc (.cells #[.int .i64 k, .int .i64 n, .int .i64 x, .string s, .slice eA en ec] 28)).alloc (.cells #[.int .i64 0, .int .i64 0, .int .i64 0, .string ⟨#[]⟩, .slice none 0 0] 28)) 28 #[.int .i64 k, .int .i64 n, .int .i64 x, .string s, .slice (some ⟨w.heap.size + 3, 0, none⟩) 0 0]) _
    · exact (Below.two _ _ _).mono (by simp)
  case round =>
    obtain ⟨j, c', A', es, hjf, rfl, hR, hB, hb⟩ := hrel
    have hk : Below w.heap.size w wr := k2.trans (hb.mono (by omega))
    have hz : w.heap.size + 3 ≤ wr.heap.size := hB.lt
    obtain ⟨hc1, hf1⟩ := bcell_ hb (by simp)
    have p4 := hB.cell 4
    have q4 := hB.frozen 4
    by_cases hlt : j < en
    · obtain ⟨f, rfl⟩ : ∃ f, gk = f + 1 := ⟨gk - 1, by omega⟩
      obtain ⟨g, o, u, hj, hAe, hgm, ⟨c0, c1, c2, c3, c4⟩, hch, hsub⟩ := (hl.below hel hk).elem hlt
      have hAe : eA = some ⟨g, o, none⟩ := hAe
      subst hAe
      have hul : u.lt w.heap.size := fun x hx => hel x (hsub x hx)
      have hz1 := szT_succ hj
      have hz2 := szT_le l (j + 1)
      have hih := ih l[j] (List.getElem_mem hj) u wr hch (hul.mono hk.size) (by omega)
      clear ih hch
      go_wp2_with (first
        | (go_at_call 144; refine hih.mono ?_; rintro r w5 ⟨v, rfl, hv1, hv2, hb5⟩; have hb5b := hb5.up (Below.one w5 (.cells #[.int .i64 l[j].k, .int .i64 l[j].n, .int .i64 l[j].x, .string l[j].s, .slice v.A v.n v.c] 28)); have hR5 := hR.below hb5b; have hv3 := hv1.below (fun g hg => hv2.lt hg) (Below.one w5 (.cells #[.int .i64 l[j].k, .int .i64 l[j].n, .int .i64 l[j].x, .string l[j].s, .slice v.A v.n v.c] 28)); have hv4 := hv2.below (fun g hg => hv2.lt hg) (Below.one w5 (.cells #[.int .i64 l[j].k, .int .i64 l[j].n, .int .i64 l[j].x, .string l[j].s, .slice v.A v.n v.c] 28)); have hB5 := hB.below hb5b hB.lt; have p5 := hB5.cell 4; have z5 := hb5b.size; have hd : ∀ g ∈ v.fp, g ∉ blkOf A' ∧ g ∉ elFp es := (fun g hg => ⟨fun h2 => by have := (row_lt hR.row h2).2; have := (hv2.2 g hg).1; omega, fun h2 => by have := hR.own.lt h2; have := (hv2.2 g hg).1; omega⟩))
        | (at_builtin; refine app_val rfl _ _ rfl hR5 rfl (by first | rfl | simp) rfl hv3 (hv4.mono (by omega)) hd (by omega) (by omega) ?_; intro A6 c6 w6 h6 hb6 hg6; have hB6 := hB5.below hb6 (Nat.lt_succ_self _); have p6 := hB6.cell 4; have q6 := hB6.frozen 4))
      have hf7 := (Fr.refl [w.heap.size + 2] w6).setCell (p := ⟨w.heap.size + 2, 4, none⟩) (by simp) (.slice A6 (j + 1) c6)
      have hR7 := h6.fr hf7 (fun g hg hg2 => by rw [List.mem_singleton] at hg2; have := (row_lt h6.row hg).1; omega) (fun g hg hg2 => by rw [List.mem_singleton] at hg2; have := (h6.own.2 g hg).1; omega)
      have hB7 : Blk (w6.setCell ⟨w.heap.size + 2, 4, none⟩ (.slice A6 (j + 1) c6)) (w.heap.size + 2) 28 #[.int .i64 k, .int .i64 n, .int .i64 x, .string s, .slice A6 (j + 1) c6] := by simpa using hB6.set_ 4 (.slice A6 (j + 1) c6)
      have hb7 := ((hb.trans (hb5b.mono (by omega))).trans (hb6.mono (by omega))).setCell (p := ⟨w.heap.size + 2, 4, none⟩) (Nat.le_refl _) (.slice A6 (j + 1) c6)
      clear hR hR5 hd hv1 hv2 hv3 hv4 hb5 hb5b hg6 hb6 h6 hB hB5 hB6 p4 q4 p5 p6 q6 hc1 hf1 hih
      go_roundg f
      case measure => omega
      case rel => exact ⟨j + 1, c6, A6, _, by omega, by go_num, by rw [List.take_succ_eq_append_getElem hj]; exact hR7, hB7, hb7⟩
    · obtain rfl : j = en := by omega
      rw [List.take_of_length_le (by omega)] at hR
      have p0 := hB.cell 0
      have p1 := hB.cell 1
      have p2 := hB.cell 2
      have p3 := hB.cell 3
      clear ih
      go_wp2_with fail
      obtain ⟨fp, f1, f2, f3⟩ := hR.list hR.cap.1 hR.cap.2
      have hn2 : w.heap.size + 1 ∉ fp := fun hx => by have := (f2.2 _ hx).1; omega
      have hblk : Blk (set5 wr (w.heap.size + 1) 0 ⟨k, n, x, s, l⟩ ⟨A', j, c', fp⟩) (w.heap.size + 1) 28 _ :=
        Blk.five_ (Blk.below (by simpa using Blk.new (w.alloc (.cells #[.int .i64 k, .int .i64 n, .int .i64 x, .string s, .slice eA j ec] 28)) 28 #[.int .i64 0, .int .i64 0, .int .i64 0, .string ⟨#[]⟩, .slice none 0 0]) hb (by omega)) ⟨k, n, x, s, l⟩ ⟨A', j, c', fp⟩
      have r1 : LsAt (set5 wr (w.heap.size + 1) 0 ⟨k, n, x, s, l⟩ ⟨A', j, c', fp⟩) l ⟨A', j, c', fp⟩ := f1.set5_ hn2
      have r2 : Own (set5 wr (w.heap.size + 1) 0 ⟨k, n, x, s, l⟩ ⟨A', j, c', fp⟩) w.heap.size fp := Own.mono (f2.set5_ hn2) (by omega)
      have r3 : Below w.heap.size w (set5 wr (w.heap.size + 1) 0 ⟨k, n, x, s, l⟩ ⟨A', j, c', fp⟩) := below_set5 hk (by omega)
      exact bodyPost_ret (results_blk Tryz.results144 Tryz.isAgg28 (by exact Tryz.sizeOf28) rfl hblk) rfl ⟨⟨A', j, c', fp⟩, rfl, r1, r2, r3⟩
end Go.Proofs.YtmelnaidjgpclaaGreatDoor
