/- The program's reader of tokens: fail, is, take, name. -/
import Derived.Test.YticejlknbfhndaaDoorParse
import Derived.Test.YticejlknbfhndaaDoorSame
import Derived.Deep.QuietTactic
import Derived.BigQuiet
import Derived.StillTailTactics
set_option linter.unusedVariables false
set_option maxRecDepth 100000
set_option linter.unusedSimpArgs false
namespace Go.Proofs.YticejlknbfhndaaDoor
open Go.RowKit

def zeroT : Tr := leafTr 0 0 0 ⟨#[]⟩
theorem signB_none {l : List Tk} {p : Nat} {c : ByteArray} (h : l.length ≤ p) : signB l p c = false := by
  unfold signB
  rw [decide_eq_false_iff_not]
  rintro ⟨t, h1, _⟩
  rw [List.getElem?_eq_none h] at h1
  cases h1
theorem signB_at {l : List Tk} {p : Nat} {c : ByteArray} (h : p < l.length) : signB l p c = ((l[p].k == 1) && decide (l[p].s = c)) := by
  unfold signB signAt
  rw [Bool.eq_iff_iff]
  simp only [decide_eq_true_eq, Bool.and_eq_true, beq_iff_eq]
  rw [List.getElem?_eq_getElem h]
  constructor
  · rintro ⟨t, h1, h2, h3⟩
    obtain rfl := Option.some.inj h1
    exact ⟨h2, h3⟩
  · rintro ⟨h2, h3⟩
    exact ⟨_, rfl, h2, h3⟩
/-- The reader in block g: its tokens, its place, its code. -/
structure TR (w : World) (g : Nat) (A : Option Addr) (n c : Nat) (l : List Tk) (p : Nat) (code : Int) : Prop where
  blk : Blk w g 90 #[.slice A n c, .int .i64 p, .int .i64 code, .func (.func 52) #[] #[]]
  sl : Sl w g 4 A n c (tkC l)
  bd : n ≤ 1048576
theorem TR.len {w : World} {g n c p : Nat} {A : Option Addr} {l : List Tk} {code : Int} (h : TR w g A n c l p code) : l.length = n := h.sl.tklen
theorem TR.drewN {w : World} {g n c p : Nat} {A : Option Addr} {l : List Tk} {code : Int} (h : TR w g A n c l p code) (k : Nat) : TR (w.drewN k) g A n c l p code := ⟨h.blk, h.sl.drewN k, h.bd⟩
theorem TR.below {w w' : World} {g n c p : Nat} {A : Option Addr} {l : List Tk} {code : Int} (h : TR w g A n c l p code) (hb : Below w.heap.size w w') : TR w' g A n c l p code :=
  ⟨h.blk.below hb h.blk.lt, h.sl.below (hb.mono (Nat.le_of_lt h.blk.lt)), h.bd⟩
theorem TR.setAt {w : World} {g n c p : Nat} {A : Option Addr} {l : List Tk} {code : Int} (h : TR w g A n c l p code) (q : Nat) : TR (w.setCell ⟨g, 1, none⟩ (.int .i64 q)) g A n c l q code :=
  ⟨by simpa using h.blk.set_ 1 (.int .i64 q), h.sl.setCell (Nat.le_refl _) _, h.bd⟩
theorem TR.setCode {w : World} {g n c p : Nat} {A : Option Addr} {l : List Tk} {code : Int} (h : TR w g A n c l p code) (k : Int) : TR (w.setCell ⟨g, 2, none⟩ (.int .i64 k)) g A n c l p k :=
  ⟨by simpa using h.blk.set_ 2 (.int .i64 k), h.sl.setCell (Nat.le_refl _) _, h.bd⟩
theorem TR.cells {w : World} {g n c p : Nat} {A : Option Addr} {l : List Tk} {code : Int} (h : TR w g A n c l p code) :
    w.cell? ⟨g, 0, none⟩ = some (.slice A n c) ∧ w.cell? ⟨g, 1, none⟩ = some (.int .i64 p) ∧ w.cell? ⟨g, 2, none⟩ = some (.int .i64 code) ∧ w.cell? ⟨g, 3, none⟩ = some (.func (.func 52) #[] #[]) :=
  ⟨h.blk.cell 0, h.blk.cell 1, h.blk.cell 2, h.blk.cell 3⟩
theorem fr_new {fp : List Nat} {w w' : World} (h : Fr fp w w') {q : Addr} (hq : w.heap.size ≤ q.block) (u : Value) : Fr fp w (w'.setCell q u) :=
  ⟨h.os, h.tape, h.output, by rw [size_setCell]; exact h.size, fun k hk hn => (Below.heap_setCell _ _ _ _ (by omega)).trans (h.block k hk hn)⟩
theorem fr_new5 {fp : List Nat} {w w' : World} {g0 o : Nat} {t : Tr} {e : El} (h : Fr fp w w') (hg : w.heap.size ≤ g0) : Fr fp w (set5 w' g0 o t e) :=
  fr_new (q := ⟨g0, o + 4, none⟩) (fr_new (q := ⟨g0, o + 3, none⟩) (fr_new (q := ⟨g0, o + 2, none⟩) (fr_new (q := ⟨g0, o + 1, none⟩) (fr_new (q := ⟨g0, o, none⟩) h hg _) hg _) hg _) hg _) hg _
theorem TR.set5_ {w : World} {g n c p : Nat} {A : Option Addr} {l : List Tk} {code : Int} {g2 o : Nat} {t : Tr} {e : El} (h : TR w g A n c l p code) (hg : g < g2) : TR (set5 w g2 o t e) g A n c l p code :=
  ⟨h.blk.far5 (by omega), ((((h.sl.setCell (p := ⟨g2, o, none⟩) (Nat.le_of_lt hg) _).setCell (p := ⟨g2, o + 1, none⟩) (Nat.le_of_lt hg) _).setCell (p := ⟨g2, o + 2, none⟩) (Nat.le_of_lt hg) _).setCell (p := ⟨g2, o + 3, none⟩) (Nat.le_of_lt hg) _).setCell (p := ⟨g2, o + 4, none⟩) (Nat.le_of_lt hg) _, h.bd⟩
/-- What a failure says. -/
def FailAt (w w' : World) (g : Nat) (A : Option Addr) (n c : Nat) (l : List Tk) (p : Nat) (k : Int) (r : Ending) : Prop := r = .returned (trV zeroT ⟨none, 0, 0, []⟩) ∧ TR w' g A n c l p k ∧ Fr [g] w w'
theorem i_fail (g : Nat) (A : Option Addr) (n c : Nat) (l : List Tk) (p : Nat) (code k : Int) (w : World) (h : TR w g A n c l p code) :
    Calls Tryd.prog 127 #[.pointer (some ⟨g, 0, none⟩), .int .i64 k] w fun r w' => FailAt w w' g A n c l p (if code = 0 then k else code) r := by
  have k1 := Below.one w (.cells #[.int .i64 0, .int .i64 0, .int .i64 0, .string ⟨#[]⟩, .slice none 0 0] 29)
  have h1 := h.below k1
  obtain ⟨c0, c1, c2, c3⟩ := h1.cells
  have f2 := h1.blk.frozen 2
  have hgl := h.blk.lt
  have hZ := Blk.new w 29 #[.int .i64 0, .int .i64 0, .int .i64 0, .string ⟨#[]⟩, .slice none 0 0]
  by_cases hc : code = 0
  · subst hc
    rw [if_pos rfl]
    have h2 := (h.setCode k).below (Below.one _ (.cells #[.int .i64 0, .int .i64 0, .int .i64 0, .string ⟨#[]⟩, .slice none 0 0] 29))
    have hZ2 : Blk ((w.setCell ⟨g, 2, none⟩ (.int .i64 k)).alloc (.cells #[.int .i64 0, .int .i64 0, .int .i64 0, .string ⟨#[]⟩, .slice none 0 0] 29)) w.heap.size 29 #[.int .i64 0, .int .i64 0, .int .i64 0, .string ⟨#[]⟩, .slice none 0 0] := by
      have := Blk.new (w.setCell ⟨g, 2, none⟩ (.int .i64 k)) 29 #[.int .i64 0, .int .i64 0, .int .i64 0, .string ⟨#[]⟩, .slice none 0 0]
      rwa [size_setCell] at this
    have hfr : Fr [g] w ((w.setCell ⟨g, 2, none⟩ (.int .i64 k)).alloc (.cells #[.int .i64 0, .int .i64 0, .int .i64 0, .string ⟨#[]⟩, .slice none 0 0] 29)) := ((Fr.refl _ _).setCell (by simp) _).trans (Fr.of_below (Below.one _ _))
    go_enter Tryd.func127, Tryd.ntmps127
    go_wp2_with fail
    exact bodyPost_ret (results_blk Tryd.results127 Tryd.isAgg29 (by exact Tryd.sizeOf29) rfl hZ2) rfl ⟨rfl, h2, hfr⟩
  · have hq : (code == 0) = false := by simpa using hc
    rw [if_neg hc]
    go_enter Tryd.func127, Tryd.ntmps127
    go_wp2_with fail
    exact bodyPost_ret (results_blk Tryd.results127 Tryd.isAgg29 (by exact Tryd.sizeOf29) rfl hZ) rfl ⟨rfl, h1, Fr.of_below k1⟩
/-- A computation that draws only. -/
def IsAt (w w' : World) (b : Bool) (r : Ending) : Prop := r = .returned (.bool b) ∧ Drawn w w'
set_option maxHeartbeats 2000000 in
theorem i_is (g : Nat) (A : Option Addr) (n c : Nat) (l : List Tk) (p : Nat) (code : Int) (sg : ByteArray) (w : World) (h : TR w g A n c l p code) :
    Calls Tryd.prog 128 #[.pointer (some ⟨g, 0, none⟩), .string sg] w fun r w' => IsAt w w' ((code == 0) && signB l p sg) r := by
  obtain ⟨c0, c1, c2, c3⟩ := h.cells
  have hl := h.len
  have hbd := h.bd
  by_cases hc : code = 0
  rotate_left
  · have hq : (code == 0) = false := by simpa using hc
    rw [hq]
    go_enter Tryd.func128, Tryd.ntmps128
    go_wp2_with fail
    go_quiet (fail)
    go_wp2_with fail
    go_ret
    exact ⟨rfl, _, rfl⟩
  subst hc
  by_cases hp : p < n
  rotate_left
  · rw [signB_none (by omega)]
    have hpn : ¬ (p : Int) < (n : Int) := by omega
    have hpd : decide ((p : Int) < (n : Int)) = false := by simpa using hpn
    have hpd2 : decide (p < n) = false := by simpa using hp
    go_enter Tryd.func128, Tryd.ntmps128
    go_wp2_with fail
    go_quiet (fail)
    go_wp2_with fail
    go_ret
    exact ⟨rfl, _, rfl⟩
  obtain ⟨g2, o, hj, rfl, hg2, q0, q1, q2, q3⟩ := h.sl.tok hp
  rw [signB_at hj]
  have hpn : (p : Int) < (n : Int) := by omega
  have hpd : decide ((p : Int) < (n : Int)) = true := by simpa using hpn
  have hpd2 : decide (p < n) = true := by simpa using hp
  generalize l[p] = t at q0 q1 q2 q3
  clear h
  by_cases hk : t.k = 1
  rotate_left
  · have hq : (t.k == 1) = false := by simpa using hk
    rw [hq]
    clear hk
    go_enter Tryd.func128, Tryd.ntmps128
    go_wp2_with fail
    go_quiet (fail)
    go_wp2_with fail
    go_ret
    exact ⟨rfl, _, rfl⟩
  have hq : (t.k == 1) = true := by simpa using hk
  rw [hq]
  clear hk
  by_cases hs : t.s = sg
  · have hd : decide (t.s = sg) = true := by simpa using hs
    have he : (t.s.toList == sg.toList) = true := by rw [hs]; simp
    rw [hd]
    clear hd hs
    go_enter Tryd.func128, Tryd.ntmps128
    go_wp2_with fail
    go_quiet (fail)
    go_wp2_with fail
    go_ret
    exact ⟨rfl, _, rfl⟩
  · have hd : decide (t.s = sg) = false := by simpa using hs
    have he : (t.s.toList == sg.toList) = false := by rw [beq_eq_false_iff_ne]; exact fun e => hs (toList_inj e)
    rw [hd]
    clear hd hs
    go_enter Tryd.func128, Tryd.ntmps128
    go_wp2_with fail
    go_quiet (fail)
    go_wp2_with fail
    go_ret
    exact ⟨rfl, _, rfl⟩
def TakeAt (w w' : World) (g : Nat) (A : Option Addr) (n c : Nat) (l : List Tk) (p : Nat) (k : Int) (r : Ending) : Prop := r = .returned (.tuple #[]) ∧ TR w' g A n c l p k ∧ Fr [g] w w'
theorem i_take_yes (g : Nat) (A : Option Addr) (n c : Nat) (l : List Tk) (p : Nat) (sg : ByteArray) (w : World) (h : TR w g A n c l p 0) (hs : signB l p sg = true) :
    Calls Tryd.prog 160 #[.pointer (some ⟨g, 0, none⟩), .string sg] w fun r w' => TakeAt w w' g A n c l (p + 1) 0 r := by
  have his := i_is g A n c l p 0 sg w h
  rw [hs] at his
  have hp : p < n := by
    rcases Nat.lt_or_ge p n with h1 | h1
    · exact h1
    · rw [signB_none (by rw [h.len]; exact h1)] at hs; cases hs
  have hbd := h.bd
  clear hs
  go_enter Tryd.func160, Tryd.ntmps160
  go_wp2_with (go_at_call 128; refine his.mono ?_; rintro r w1 ⟨rfl, d, rfl⟩; obtain ⟨c0, c1, c2, c3⟩ := (h.drewN d).cells; have f1 := (h.drewN d).blk.frozen 1)
  exact bodyPost_end (results_none Tryd.results160 _ _ _) rfl ⟨rfl, (h.drewN d).setAt (p + 1), ((Fr.refl _ _).drewN d).setCell (by simp) _⟩
theorem i_take_no (g : Nat) (A : Option Addr) (n c : Nat) (l : List Tk) (p : Nat) (code : Int) (sg : ByteArray) (w : World) (h : TR w g A n c l p code) (hs : ((code == 0) && signB l p sg) = false) :
    Calls Tryd.prog 160 #[.pointer (some ⟨g, 0, none⟩), .string sg] w fun r w' => TakeAt w w' g A n c l p (if code = 0 then 1 else code) r := by
  have his := i_is g A n c l p code sg w h
  rw [hs] at his
  have hfl := fun d => i_fail g A n c l p code 1 (w.drewN d) (h.drewN d)
  generalize (if code = 0 then 1 else code) = k at hfl
  clear hs
  go_enter Tryd.func160, Tryd.ntmps160
  go_wp2_with (first
    | (go_at_call 128; refine his.mono ?_; rintro r w1 ⟨rfl, d, rfl⟩)
    | (go_at_call 127; refine (hfl d).mono ?_; rintro r w2 ⟨rfl, h2, hf2⟩))
  exact bodyPost_end (results_none Tryd.results160 _ _ _) rfl ⟨rfl, h2, ((Fr.refl _ _).drewN d).trans hf2⟩
/-- What a reading of a tree that has no list says. -/
def LeafAt (w w' : World) (g : Nat) (A : Option Addr) (n c : Nat) (l : List Tk) (p : Nat) (k : Int) (t : Tr) (r : Ending) : Prop := r = .returned (trV t ⟨none, 0, 0, []⟩) ∧ TR w' g A n c l p k ∧ Fr [g] w w'
set_option maxHeartbeats 2000000 in
theorem i_name_yes (g : Nat) (A : Option Addr) (n c : Nat) (l : List Tk) (p : Nat) (w : World) (h : TR w g A n c l p 0) (hj : p < l.length) (hk : l[p].k = 2) :
    Calls Tryd.prog 159 #[.pointer (some ⟨g, 0, none⟩)] w fun r w' => LeafAt w w' g A n c l (p + 1) 0 (leafTr 7 0 0 l[p].s) r := by
  have hl := h.len
  have hbd := h.bd
  have hp : p < n := by omega
  have k1 := Below.one w (.cells #[.int .i64 0, .int .i64 0, .int .i64 0, .string ⟨#[]⟩, .slice none 0 0] 29)
  have h1 := h.below k1
  have hZ := Blk.new w 29 #[.int .i64 0, .int .i64 0, .int .i64 0, .string ⟨#[]⟩, .slice none 0 0]
  obtain ⟨c0, c1, c2, c3⟩ := h1.cells
  have f1 := h1.blk.frozen 1
  obtain ⟨g2, o, hj', rfl, hg2, q0, q1, q2, q3⟩ := h1.sl.tok hp
  have hgl := h.blk.lt
  have hpd : decide ((p : Int) < (n : Int)) = true := by simpa using hp
  have hpd2 : decide (p < n) = true := by simpa using hp
  have hkq : (l[p].k == 2) = true := by simpa using hk
  have hkq2 : (l[p].k != 2) = false := by simp [hk]
  generalize l[p] = t at q0 q1 q2 q3 hkq hkq2
  have hne : ¬ g2 = g := by omega
  go_enter Tryd.func159, Tryd.ntmps159
  go_wp2_with fail
  go_quiet (fail)
  go_wp2_with fail
  have hTR := (h1.drewN nq).setAt (p + 1)
  have hZa := (hZ.drewN nq).far (p := ⟨g, 1, none⟩) (by show w.heap.size ≠ g; omega) (.int .i64 ((p + 1 : Nat) : Int))
  have hfr : Fr [g] w (((w.alloc (.cells #[.int .i64 0, .int .i64 0, .int .i64 0, .string ⟨#[]⟩, .slice none 0 0] 29)).drewN nq).setCell ⟨g, 1, none⟩ (.int .i64 ((p + 1 : Nat) : Int))) := ((Fr.of_below k1).drewN nq).setCell (by simp) _
  have q1' : (((w.alloc (.cells #[.int .i64 0, .int .i64 0, .int .i64 0, .string ⟨#[]⟩, .slice none 0 0] 29)).drewN nq).setCell ⟨g, 1, none⟩ (.int .i64 ((p + 1 : Nat) : Int))).cell? ⟨g2, o + p * 4 + 1, none⟩ = some (.string t.s) := by
    rw [World.cell?_setCell_other _ _ _ _ (by first | (simp; done) | (simp; omega))]; exact q1
  rw [show ((p : Int) + 1) = ((p + 1 : Nat) : Int) by omega]
  generalize ((w.alloc (.cells #[.int .i64 0, .int .i64 0, .int .i64 0, .string ⟨#[]⟩, .slice none 0 0] 29)).drewN nq).setCell ⟨g, 1, none⟩ (.int .i64 ((p + 1 : Nat) : Int)) = wa at hTR hZa hfr q1' ⊢
  obtain ⟨d0, d1, d2, d3⟩ := hTR.cells
  clear q0 q1 q2 q3 c0 c1 c2 c3 f1 hZ h1
  have hwrp : IntKind.i64.wrap (p : Int) = (p : Int) := by rw [IntKind.wrap_i64]; omega
  have hp0 : (0 : Int) ≤ (p : Int) := by omega
  have hpn : (p : Int) < (n : Int) := by omega
  have hTR2 : TR wa.drew g (some ⟨g2, o, none⟩) n c l (p + 1) 0 := ⟨hTR.blk, hTR.sl.drew, hTR.bd⟩
  have hZ2 := hZa.drew
  have hfr2 := hfr.drew
  go_still_tail 12, (by kernel_rfl)
  change wpList _ _ _ _ _ wa.drew
  generalize wa.drew = wb at hTR2 hZ2 hfr2 ⊢
  clear hTR hZa hfr q1' d0 d1 d2 d3
  have htv := fun w1 => i_TextVal t.s w1
  obtain ⟨u, hu⟩ : ∃ u, leafTr 7 0 0 t.s = u := ⟨_, rfl⟩
  rw [hu] at htv
  have HU := Lib.hid hu
  clear hu
  go_wp2_with (go_at_call 130; refine (htv _).mono ?_; rintro r w2 ⟨rfl, hb2⟩; have BZ := hZ2.below hb2 hZ2.lt; obtain ⟨x0, x1, x2, x3, x4, ⟨s0, t0⟩, ⟨s1, t1⟩, ⟨s2, t2⟩, ⟨s3, t3⟩, s4, t4⟩ := BZ.five (o := 0) (by simp) (.int .i64 u.k) (.int .i64 u.n) (.int .i64 u.x) (.string u.s))
  have hblk : Blk (set5 w2 w.heap.size 0 u ⟨none, 0, 0, []⟩) w.heap.size 29 _ := Blk.five_ BZ u ⟨none, 0, 0, []⟩
  have hTR3 := (hTR2.below hb2).set5_ (g2 := w.heap.size) (o := 0) (t := u) (e := ⟨none, 0, 0, []⟩) hgl
  have hfr3 : Fr [g] w (set5 w2 w.heap.size 0 u ⟨none, 0, 0, []⟩) := fr_new5 (hfr2.trans (Fr.of_below hb2)) (Nat.le_refl _)
  have hres := fun (tm : Array Value) (hp : tm.getD 2 undef = .pointer (some ⟨w.heap.size, 0, none⟩)) => results_blk (P := Tryd.prog) (tmps := tm) Tryd.results159 Tryd.isAgg29 (by exact Tryd.sizeOf29) hp hblk
  refine bodyPost_ret (hres _ rfl) rfl ?_
  exact ⟨by rw [HU.out], hTR3, hfr3⟩
set_option maxHeartbeats 4000000 in
theorem i_name_no (g : Nat) (A : Option Addr) (n c : Nat) (l : List Tk) (p : Nat) (code : Int) (w : World) (h : TR w g A n c l p code) (hbad : code ≠ 0 ∨ l.length ≤ p ∨ ∃ hj : p < l.length, l[p].k ≠ 2) :
    Calls Tryd.prog 159 #[.pointer (some ⟨g, 0, none⟩)] w fun r w' => FailAt w w' g A n c l p (if code = 0 then 1 else code) r := by
  have hl := h.len
  have hbd := h.bd
  have k1 := Below.one w (.cells #[.int .i64 0, .int .i64 0, .int .i64 0, .string ⟨#[]⟩, .slice none 0 0] 29)
  have h1 := h.below k1
  have hZ := Blk.new w 29 #[.int .i64 0, .int .i64 0, .int .i64 0, .string ⟨#[]⟩, .slice none 0 0]
  obtain ⟨c0, c1, c2, c3⟩ := h1.cells
  have hgl := h.blk.lt
  by_cases hc : code = 0
  rotate_left
  · have hq : (code == 0) = false := by simpa using hc
    have hq2 : (code != 0) = true := by simpa using hc
    rw [if_neg hc]
    clear hbad
    go_enter Tryd.func159, Tryd.ntmps159
    go_wp2_with fail
    go_quiet (fail)
    have hTR := h1.drewN nq
    have hZa := hZ.drewN nq
    have hfr : Fr [g] w ((w.alloc (.cells #[.int .i64 0, .int .i64 0, .int .i64 0, .string ⟨#[]⟩, .slice none 0 0] 29)).drewN nq) := (Fr.of_below k1).drewN nq
    have hfl := i_fail g _ n c l p code 1 _ hTR
    rw [if_neg hc] at hfl
    have hTz : w.heap.size < ((w.alloc (.cells #[.int .i64 0, .int .i64 0, .int .i64 0, .string ⟨#[]⟩, .slice none 0 0] 29)).drewN nq).heap.size := hZa.lt
    generalize (w.alloc (.cells #[.int .i64 0, .int .i64 0, .int .i64 0, .string ⟨#[]⟩, .slice none 0 0] 29)).drewN nq = wa at hTR hZa hfr hfl hTz ⊢
    obtain ⟨u, hu⟩ : ∃ u, zeroT = u := ⟨_, rfl⟩
    unfold FailAt at hfl
    rw [hu] at hfl
    have HU := Lib.hid hu
    clear hu hc
    go_wp2_with (go_at_call 127; refine hfl.mono ?_; rintro r w2 ⟨rfl, h2, hf2⟩; have BZ : Blk w2 w.heap.size 29 _ := (hf2.block w.heap.size hTz (by simp; omega)).trans hZa; obtain ⟨x0, x1, x2, x3, x4, ⟨s0, t0⟩, ⟨s1, t1⟩, ⟨s2, t2⟩, ⟨s3, t3⟩, s4, t4⟩ := BZ.five (o := 0) (by simp) (.int .i64 u.k) (.int .i64 u.n) (.int .i64 u.x) (.string u.s))
    have hblk : Blk (set5 w2 w.heap.size 0 u ⟨none, 0, 0, []⟩) w.heap.size 29 _ := Blk.five_ BZ u ⟨none, 0, 0, []⟩
    have hTR3 := h2.set5_ (g2 := w.heap.size) (o := 0) (t := u) (e := ⟨none, 0, 0, []⟩) hgl
    have hfr3 : Fr [g] w (set5 w2 w.heap.size 0 u ⟨none, 0, 0, []⟩) := fr_new5 (hfr.trans hf2) (Nat.le_refl _)
    have hres := fun (tm : Array Value) (hp : tm.getD 2 undef = .pointer (some ⟨w.heap.size, 0, none⟩)) => results_blk (P := Tryd.prog) (tmps := tm) Tryd.results159 Tryd.isAgg29 (by exact Tryd.sizeOf29) hp hblk
    refine bodyPost_ret (hres _ rfl) rfl ?_
    exact ⟨by rw [HU.out], hTR3, hfr3⟩
  subst hc
  rw [if_pos rfl]
  by_cases hp : p < n
  rotate_left
  · have hpd : decide ((p : Int) < (n : Int)) = false := by simp; omega
    have hpd2 : decide (n ≤ p) = true := by simp; omega
    have hpd3 : decide ((n : Int) ≤ (p : Int)) = true := by simp; omega
    clear hbad
    go_enter Tryd.func159, Tryd.ntmps159
    go_wp2_with fail
    go_quiet (fail)
    have hTR := h1.drewN nq
    have hZa := hZ.drewN nq
    have hfr : Fr [g] w ((w.alloc (.cells #[.int .i64 0, .int .i64 0, .int .i64 0, .string ⟨#[]⟩, .slice none 0 0] 29)).drewN nq) := (Fr.of_below k1).drewN nq
    have hfl := i_fail g _ n c l p 0 1 _ hTR
    rw [if_pos rfl] at hfl
    have hTz : w.heap.size < ((w.alloc (.cells #[.int .i64 0, .int .i64 0, .int .i64 0, .string ⟨#[]⟩, .slice none 0 0] 29)).drewN nq).heap.size := hZa.lt
    generalize (w.alloc (.cells #[.int .i64 0, .int .i64 0, .int .i64 0, .string ⟨#[]⟩, .slice none 0 0] 29)).drewN nq = wa at hTR hZa hfr hfl hTz ⊢
    obtain ⟨u, hu⟩ : ∃ u, zeroT = u := ⟨_, rfl⟩
    unfold FailAt at hfl
    rw [hu] at hfl
    have HU := Lib.hid hu
    clear hu
    go_wp2_with (go_at_call 127; refine hfl.mono ?_; rintro r w2 ⟨rfl, h2, hf2⟩; have BZ : Blk w2 w.heap.size 29 _ := (hf2.block w.heap.size hTz (by simp; omega)).trans hZa; obtain ⟨x0, x1, x2, x3, x4, ⟨s0, t0⟩, ⟨s1, t1⟩, ⟨s2, t2⟩, ⟨s3, t3⟩, s4, t4⟩ := BZ.five (o := 0) (by simp) (.int .i64 u.k) (.int .i64 u.n) (.int .i64 u.x) (.string u.s))
    have hblk : Blk (set5 w2 w.heap.size 0 u ⟨none, 0, 0, []⟩) w.heap.size 29 _ := Blk.five_ BZ u ⟨none, 0, 0, []⟩
    have hTR3 := h2.set5_ (g2 := w.heap.size) (o := 0) (t := u) (e := ⟨none, 0, 0, []⟩) hgl
    have hfr3 : Fr [g] w (set5 w2 w.heap.size 0 u ⟨none, 0, 0, []⟩) := fr_new5 (hfr.trans hf2) (Nat.le_refl _)
    have hres := fun (tm : Array Value) (hp : tm.getD 2 undef = .pointer (some ⟨w.heap.size, 0, none⟩)) => results_blk (P := Tryd.prog) (tmps := tm) Tryd.results159 Tryd.isAgg29 (by exact Tryd.sizeOf29) hp hblk
    refine bodyPost_ret (hres _ rfl) rfl ?_
    exact ⟨by rw [HU.out], hTR3, hfr3⟩
  have hj : p < l.length := by omega
  have hk : l[p].k ≠ 2 := by
    rcases hbad with h2 | h2 | ⟨_, h2⟩
    · exact absurd rfl h2
    · omega
    · exact h2
  obtain ⟨g2, o, hj', rfl, hg2, q0, q1, q2, q3⟩ := h1.sl.tok hp
  have hpd : decide ((p : Int) < (n : Int)) = true := by simpa using hp
  have hpd2 : decide (n ≤ p) = false := by simp; omega
  have hkq : (l[p].k == 2) = false := by simpa using hk
  have hkq2 : (l[p].k != 2) = true := by simpa using hk
  have hne : ¬ g2 = g := by omega
  generalize l[p] = t at q0 q1 q2 q3 hkq hkq2
  clear hbad hk
  · skip
    go_enter Tryd.func159, Tryd.ntmps159
    go_wp2_with fail
    go_quiet (fail)
    have hTR := h1.drewN nq
    have hZa := hZ.drewN nq
    have hfr : Fr [g] w ((w.alloc (.cells #[.int .i64 0, .int .i64 0, .int .i64 0, .string ⟨#[]⟩, .slice none 0 0] 29)).drewN nq) := (Fr.of_below k1).drewN nq
    have hfl := i_fail g _ n c l p 0 1 _ hTR
    rw [if_pos rfl] at hfl
    have hTz : w.heap.size < ((w.alloc (.cells #[.int .i64 0, .int .i64 0, .int .i64 0, .string ⟨#[]⟩, .slice none 0 0] 29)).drewN nq).heap.size := hZa.lt
    generalize (w.alloc (.cells #[.int .i64 0, .int .i64 0, .int .i64 0, .string ⟨#[]⟩, .slice none 0 0] 29)).drewN nq = wa at hTR hZa hfr hfl hTz ⊢
    obtain ⟨u, hu⟩ : ∃ u, zeroT = u := ⟨_, rfl⟩
    unfold FailAt at hfl
    rw [hu] at hfl
    have HU := Lib.hid hu
    clear hu
    go_wp2_with (go_at_call 127; refine hfl.mono ?_; rintro r w2 ⟨rfl, h2, hf2⟩; have BZ : Blk w2 w.heap.size 29 _ := (hf2.block w.heap.size hTz (by simp; omega)).trans hZa; obtain ⟨x0, x1, x2, x3, x4, ⟨s0, t0⟩, ⟨s1, t1⟩, ⟨s2, t2⟩, ⟨s3, t3⟩, s4, t4⟩ := BZ.five (o := 0) (by simp) (.int .i64 u.k) (.int .i64 u.n) (.int .i64 u.x) (.string u.s))
    have hblk : Blk (set5 w2 w.heap.size 0 u ⟨none, 0, 0, []⟩) w.heap.size 29 _ := Blk.five_ BZ u ⟨none, 0, 0, []⟩
    have hTR3 := h2.set5_ (g2 := w.heap.size) (o := 0) (t := u) (e := ⟨none, 0, 0, []⟩) hgl
    have hfr3 : Fr [g] w (set5 w2 w.heap.size 0 u ⟨none, 0, 0, []⟩) := fr_new5 (hfr.trans hf2) (Nat.le_refl _)
    have hres := fun (tm : Array Value) (hp : tm.getD 2 undef = .pointer (some ⟨w.heap.size, 0, none⟩)) => results_blk (P := Tryd.prog) (tmps := tm) Tryd.results159 Tryd.isAgg29 (by exact Tryd.sizeOf29) hp hblk
    refine bodyPost_ret (hres _ rfl) rfl ?_
    exact ⟨by rw [HU.out], hTR3, hfr3⟩
end Go.Proofs.YticejlknbfhndaaDoor
