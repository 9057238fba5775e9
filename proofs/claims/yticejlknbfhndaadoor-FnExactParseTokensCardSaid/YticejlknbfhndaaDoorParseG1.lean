/- The reference's reader of tokens: l11Fail, l11Is, l11Peek, l11Next. The reference's reader of tokens: l11Peek, l11Next. append(row, tree) inside a region that draws its order: app_val's step. What is read of tokens goes on; its codes are 1 and 2. The program's reader: value, where it reads nothing. The elements of a tree that is read from tokens: one round, plain. The program's reader: elements. -/
import Derived.Test.YticejlknbfhndaaDoorReader
import Derived.Test.YticejlknbfhndaaDoorRowVal
import Derived.Test.YticejlknbfhndaaDoorParse
import Derived.Deep.Cut
import Derived.Deep.DeepCutAuto
set_option linter.unusedVariables false
set_option maxRecDepth 100000
set_option linter.unusedSimpArgs false
namespace Go.Proofs.YticejlknbfhndaaDoor
open Go.RowKit

/-- The parser in block g: its tokens, its place, its depth, its code. -/
structure TP (w : World) (g : Nat) (A : Option Addr) (n c : Nat) (l : List Tk) (p : Nat) (dp : Int) (code : Int) : Prop where
  blk : Blk w g 58 #[.slice A n c, .int .i64 p, .int .i64 dp, .int .i64 code]
  sl : Sl w g 4 A n c (tkC l)
  bd : n ≤ 1048576
theorem TP.len {w : World} {g n c p : Nat} {A : Option Addr} {l : List Tk} {dp code : Int} (h : TP w g A n c l p dp code) : l.length = n := h.sl.tklen
theorem TP.drewN {w : World} {g n c p : Nat} {A : Option Addr} {l : List Tk} {dp code : Int} (h : TP w g A n c l p dp code) (k : Nat) : TP (w.drewN k) g A n c l p dp code := ⟨h.blk, h.sl.drewN k, h.bd⟩
theorem TP.below {w w' : World} {g n c p : Nat} {A : Option Addr} {l : List Tk} {dp code : Int} (h : TP w g A n c l p dp code) (hb : Below w.heap.size w w') : TP w' g A n c l p dp code :=
  ⟨h.blk.below hb h.blk.lt, h.sl.below (hb.mono (Nat.le_of_lt h.blk.lt)), h.bd⟩
theorem TP.setAt {w : World} {g n c p : Nat} {A : Option Addr} {l : List Tk} {dp code : Int} (h : TP w g A n c l p dp code) (q : Nat) : TP (w.setCell ⟨g, 1, none⟩ (.int .i64 q)) g A n c l q dp code :=
  ⟨by simpa using h.blk.set_ 1 (.int .i64 q), h.sl.setCell (Nat.le_refl _) _, h.bd⟩
theorem TP.setCode {w : World} {g n c p : Nat} {A : Option Addr} {l : List Tk} {dp code : Int} (h : TP w g A n c l p dp code) (k : Int) : TP (w.setCell ⟨g, 3, none⟩ (.int .i64 k)) g A n c l p dp k :=
  ⟨by simpa using h.blk.set_ 3 (.int .i64 k), h.sl.setCell (Nat.le_refl _) _, h.bd⟩
theorem TP.cells {w : World} {g n c p : Nat} {A : Option Addr} {l : List Tk} {dp code : Int} (h : TP w g A n c l p dp code) :
    w.cell? ⟨g, 0, none⟩ = some (.slice A n c) ∧ w.cell? ⟨g, 1, none⟩ = some (.int .i64 p) ∧ w.cell? ⟨g, 2, none⟩ = some (.int .i64 dp) ∧ w.cell? ⟨g, 3, none⟩ = some (.int .i64 code) :=
  ⟨h.blk.cell 0, h.blk.cell 1, h.blk.cell 2, h.blk.cell 3⟩
def FailS (w w' : World) (g : Nat) (A : Option Addr) (n c : Nat) (l : List Tk) (p : Nat) (dp k : Int) (r : Ending) : Prop := r = .returned (trV zeroT ⟨none, 0, 0, []⟩) ∧ TP w' g A n c l p dp k ∧ Fr [g] w w'
theorem s_l11Fail (g : Nat) (A : Option Addr) (n c : Nat) (l : List Tk) (p : Nat) (dp code k : Int) (w : World) (h : TP w g A n c l p dp code) :
    Calls Tryd.prog 83 #[.pointer (some ⟨g, 0, none⟩), .int .i64 k] w fun r w' => FailS w w' g A n c l p dp (if code = 0 then k else code) r := by
  have k1 := Below.one w (.cells #[.int .i64 0, .int .i64 0, .int .i64 0, .string ⟨#[]⟩, .slice none 0 0] 29)
  have h1 := h.below k1
  obtain ⟨c0, c1, c2, c3⟩ := h1.cells
  have f2 := h1.blk.frozen 3
  have hgl := h.blk.lt
  have hZ := Blk.new w 29 #[.int .i64 0, .int .i64 0, .int .i64 0, .string ⟨#[]⟩, .slice none 0 0]
  by_cases hc : code = 0
  · subst hc
    rw [if_pos rfl]
    have h2 := (h.setCode k).below (Below.one _ (.cells #[.int .i64 0, .int .i64 0, .int .i64 0, .string ⟨#[]⟩, .slice none 0 0] 29))
    have hZ2 : Blk ((w.setCell ⟨g, 3, none⟩ (.int .i64 k)).alloc (.cells #[.int .i64 0, .int .i64 0, .int .i64 0, .string ⟨#[]⟩, .slice none 0 0] 29)) w.heap.size 29 #[.int .i64 0, .int .i64 0, .int .i64 0, .string ⟨#[]⟩, .slice none 0 0] := by
      have := Blk.new (w.setCell ⟨g, 3, none⟩ (.int .i64 k)) 29 #[.int .i64 0, .int .i64 0, .int .i64 0, .string ⟨#[]⟩, .slice none 0 0]
      rwa [size_setCell] at this
    have hfr : Fr [g] w ((w.setCell ⟨g, 3, none⟩ (.int .i64 k)).alloc (.cells #[.int .i64 0, .int .i64 0, .int .i64 0, .string ⟨#[]⟩, .slice none 0 0] 29)) := ((Fr.refl _ _).setCell (by simp) _).trans (Fr.of_below (Below.one _ _))
    go_enter Tryd.func83, Tryd.ntmps83
    go_wp2_with fail
    exact bodyPost_ret (results_blk Tryd.results83 Tryd.isAgg29 (by exact Tryd.sizeOf29) rfl hZ2) rfl ⟨rfl, h2, hfr⟩
  · have hq : (code == 0) = false := by simpa using hc
    rw [if_neg hc]
    go_enter Tryd.func83, Tryd.ntmps83
    go_wp2_with fail
    exact bodyPost_ret (results_blk Tryd.results83 Tryd.isAgg29 (by exact Tryd.sizeOf29) rfl hZ) rfl ⟨rfl, h1, Fr.of_below k1⟩
theorem s_l11Is (t : Tk) (sg : ByteArray) (w : World) :
    Calls Tryd.prog 126 #[.agg #[.int .i64 t.k, .string t.s, .int .i64 t.n, .int .i64 t.x], .string sg] w fun r w' => r = .returned (.bool ((t.k == 1) && decide (t.s = sg))) ∧ Below w.heap.size w w' := by
  have kb := Below.one w (.cells #[.int .i64 t.k, .string t.s, .int .i64 t.n, .int .i64 t.x] 60)
  by_cases hk : t.k = 1
  rotate_left
  · have hq : (t.k == 1) = false := by simpa using hk
    rw [hq]
    clear hk
    go_enter Tryd.func126, Tryd.ntmps126
    go_wp2_with fail
    go_ret
    exact ⟨rfl, kb⟩
  have hq : (t.k == 1) = true := by simpa using hk
  rw [hq]
  clear hk
  by_cases hs : t.s = sg
  · have hd : decide (t.s = sg) = true := by simpa using hs
    have he : (t.s.toList == sg.toList) = true := by rw [hs]; simp
    rw [hd]
    clear hd hs
    go_enter Tryd.func126, Tryd.ntmps126
    go_wp2_with fail
    go_ret
    exact ⟨by simp [he], kb⟩
  · have hd : decide (t.s = sg) = false := by simpa using hs
    have he : (t.s.toList == sg.toList) = false := by rw [beq_eq_false_iff_ne]; exact fun e => hs (toList_inj e)
    rw [hd]
    clear hd hs
    go_enter Tryd.func126, Tryd.ntmps126
    go_wp2_with fail
    go_ret
    exact ⟨by simp [he], kb⟩
end Go.Proofs.YticejlknbfhndaaDoor

namespace Go.Proofs.YticejlknbfhndaaDoor
open Go.RowKit

theorem Blk.tok4 {w : World} {g : Nat} {T : TypeId} {a b c d : Value} (h : Blk w g T #[a, b, c, d]) (a' b' c' d' : Value) :
    Blk ((((w.setCell ⟨g, 0, none⟩ a').setCell ⟨g, 1, none⟩ b').setCell ⟨g, 2, none⟩ c').setCell ⟨g, 3, none⟩ d') g T #[a', b', c', d'] := by
  simpa using (((h.set_ 0 a').set_ 1 b').set_ 2 c').set_ 3 d'
theorem Blk.tokFour {w : World} {g o : Nat} {T : TypeId} {cs : Array Value} (h : Blk w g T cs) (hs : o + 4 ≤ cs.size) (a b c : Value) :
    ∃ x0 x1 x2 x3, (w.cell? ⟨g, o, none⟩ = some x0 ∧ w.frozen? ⟨g, o, none⟩ = false) ∧
      ((w.setCell ⟨g, o, none⟩ a).cell? ⟨g, o + 1, none⟩ = some x1 ∧ (w.setCell ⟨g, o, none⟩ a).frozen? ⟨g, o + 1, none⟩ = false) ∧
      (((w.setCell ⟨g, o, none⟩ a).setCell ⟨g, o + 1, none⟩ b).cell? ⟨g, o + 2, none⟩ = some x2 ∧ ((w.setCell ⟨g, o, none⟩ a).setCell ⟨g, o + 1, none⟩ b).frozen? ⟨g, o + 2, none⟩ = false) ∧
      ((((w.setCell ⟨g, o, none⟩ a).setCell ⟨g, o + 1, none⟩ b).setCell ⟨g, o + 2, none⟩ c).cell? ⟨g, o + 3, none⟩ = some x3 ∧ (((w.setCell ⟨g, o, none⟩ a).setCell ⟨g, o + 1, none⟩ b).setCell ⟨g, o + 2, none⟩ c).frozen? ⟨g, o + 3, none⟩ = false) := by
  have h1 := h.set_ o a
  have h2 := h1.set_ (o + 1) b
  have h3 := h2.set_ (o + 2) c
  have g0 : ∀ (k : Nat), k < cs.size → ∃ v, cs[k]? = some v := fun k hk => ⟨_, Array.getElem?_eq_getElem hk⟩
  exact ⟨_, _, _, _, ⟨(h.cell o).trans (Array.getElem?_eq_getElem (by omega)), h.frozen o⟩, ⟨(h1.cell (o + 1)).trans (Array.getElem?_eq_getElem (by simp; omega)), h1.frozen _⟩,
    ⟨(h2.cell (o + 2)).trans (Array.getElem?_eq_getElem (by simp; omega)), h2.frozen _⟩, ⟨(h3.cell (o + 3)).trans (Array.getElem?_eq_getElem (by simp; omega)), h3.frozen _⟩⟩
set_option maxHeartbeats 2000000 in
theorem s_l11Peek (g : Nat) (A : Option Addr) (n c : Nat) (l : List Tk) (p : Nat) (dp code : Int) (sg : ByteArray) (w : World) (h : TP w g A n c l p dp code) :
    Calls Tryd.prog 125 #[.pointer (some ⟨g, 0, none⟩), .string sg] w fun r w' => r = .returned (.bool (signB l p sg)) ∧ Below w.heap.size w w' := by
  obtain ⟨c0, c1, c2, c3⟩ := h.cells
  have hl := h.len
  have hbd := h.bd
  by_cases hp : p < n
  rotate_left
  · rw [signB_none (by omega)]
    have hpn : ¬ (p : Int) < (n : Int) := by omega
    have hpd : decide ((p : Int) < (n : Int)) = false := by simpa using hpn
    have hpd2 : decide (p < n) = false := by simpa using hp
    go_enter Tryd.func125, Tryd.ntmps125
    go_wp2_with fail
    go_quiet (fail)
    go_wp2_with fail
    go_ret
    exact ⟨rfl, ⟨rfl, rfl, rfl, Nat.le_refl _, fun _ _ => rfl⟩⟩
  obtain ⟨g2, o, hj, rfl, hg2, q0, q1, q2, q3⟩ := h.sl.tok hp
  rw [signB_at hj]
  have his := fun w1 => s_l11Is l[p] sg w1
  have hpn : (p : Int) < (n : Int) := by omega
  have hpd : decide ((p : Int) < (n : Int)) = true := by simpa using hpn
  have hpd2 : decide (p < n) = true := by simpa using hp
  generalize ((l[p].k == 1) && decide (l[p].s = sg)) = bb at his ⊢
  generalize l[p] = t at q0 q1 q2 q3 his
  have hwrp : IntKind.i64.wrap (p : Int) = (p : Int) := by rw [IntKind.wrap_i64]; omega
  have hp0 : (0 : Int) ≤ (p : Int) := by omega
  clear h
  go_enter Tryd.func125, Tryd.ntmps125
  go_wp2_with fail
  go_still_tail 22, (by kernel_rfl)
  change wpList _ _ _ _ _ w.drew
  have hD : Below w.heap.size w w.drew := ⟨rfl, rfl, rfl, Nat.le_refl _, fun _ _ => rfl⟩
  generalize w.drew = wb at hD ⊢
  clear q0 q1 q2 q3 c0 c1 c2 c3
  go_wp2_with (go_at_call 126; refine (his _).mono ?_; rintro r w1 ⟨rfl, hb1⟩)
  go_ret
  exact ⟨rfl, hD.up hb1⟩
theorem TP.four {w : World} {g n c p : Nat} {A : Option Addr} {l : List Tk} {dp code : Int} (h : TP w g A n c l p dp code) {z : Nat} (hz : g < z) (a' b' c' d' : Value) :
    TP ((((w.setCell ⟨z, 0, none⟩ a').setCell ⟨z, 1, none⟩ b').setCell ⟨z, 2, none⟩ c').setCell ⟨z, 3, none⟩ d') g A n c l p dp code :=
  ⟨(((h.blk.far (p := ⟨z, 0, none⟩) (by show g ≠ z; omega) _).far (p := ⟨z, 1, none⟩) (by show g ≠ z; omega) _).far (p := ⟨z, 2, none⟩) (by show g ≠ z; omega) _).far (p := ⟨z, 3, none⟩) (by show g ≠ z; omega) _,
   (((h.sl.setCell (p := ⟨z, 0, none⟩) (Nat.le_of_lt hz) _).setCell (p := ⟨z, 1, none⟩) (Nat.le_of_lt hz) _).setCell (p := ⟨z, 2, none⟩) (Nat.le_of_lt hz) _).setCell (p := ⟨z, 3, none⟩) (Nat.le_of_lt hz) _, h.bd⟩
theorem fr_four {fp : List Nat} {w w' : World} (h : Fr fp w w') {z : Nat} (hz : w.heap.size ≤ z) (a' b' c' d' : Value) :
    Fr fp w ((((w'.setCell ⟨z, 0, none⟩ a').setCell ⟨z, 1, none⟩ b').setCell ⟨z, 2, none⟩ c').setCell ⟨z, 3, none⟩ d') :=
  fr_new (q := ⟨z, 3, none⟩) (fr_new (q := ⟨z, 2, none⟩) (fr_new (q := ⟨z, 1, none⟩) (fr_new (q := ⟨z, 0, none⟩) h hz _) hz _) hz _) hz _
/-- What is read next: a token, and the place behind it. -/
def NextS (w w' : World) (g : Nat) (A : Option Addr) (n c : Nat) (l : List Tk) (p : Nat) (dp code : Int) (t : Tk) (r : Ending) : Prop := r = .returned (.agg #[.int .i64 t.k, .string t.s, .int .i64 t.n, .int .i64 t.x]) ∧ TP w' g A n c l p dp code ∧ Fr [g] w w'
theorem s_l11Next_no (g : Nat) (A : Option Addr) (n c : Nat) (l : List Tk) (p : Nat) (dp code : Int) (w : World) (h : TP w g A n c l p dp code) (hp : n ≤ p) :
    Calls Tryd.prog 84 #[.pointer (some ⟨g, 0, none⟩)] w fun r w' => NextS w w' g A n c l p dp code ⟨0, ⟨#[]⟩, 0, 0⟩ r := by
  have k1 := Below.one w (.cells #[.int .i64 0, .string ⟨#[]⟩, .int .i64 0, .int .i64 0] 60)
  have h1 := h.below k1
  obtain ⟨c0, c1, c2, c3⟩ := h1.cells
  have hbd := h.bd
  have hZ := Blk.new w 60 #[.int .i64 0, .string ⟨#[]⟩, .int .i64 0, .int .i64 0]
  have hpn : ¬ (p : Int) < (n : Int) := by omega
  have hpd : decide ((n : Int) ≤ (p : Int)) = true := by simp; omega
  have hpd2 : decide (n ≤ p) = true := by simpa using hp
  go_enter Tryd.func84, Tryd.ntmps84
  go_wp2_with fail
  go_quiet (fail)
  go_wp2_with fail
  have hZa := (hZ.drewN nq).tok4 (.int .i64 0) (.string ⟨#[]⟩) (.int .i64 0) (.int .i64 0)
  exact bodyPost_ret (results_blk Tryd.results84 Tryd.isAgg60 (by exact Tryd.sizeOf60) rfl hZa) rfl ⟨rfl, TP.four (h1.drewN nq) h.blk.lt _ _ _ _, fr_four ((Fr.of_below k1).drewN nq) (Nat.le_refl _) _ _ _ _⟩
set_option maxHeartbeats 2000000 in
theorem s_l11Next_yes (g : Nat) (A : Option Addr) (n c : Nat) (l : List Tk) (p : Nat) (dp code : Int) (w : World) (h : TP w g A n c l p dp code) (hp : p < l.length) :
    Calls Tryd.prog 84 #[.pointer (some ⟨g, 0, none⟩)] w fun r w' => NextS w w' g A n c l (p + 1) dp code l[p] r := by
  have k1 := Below.one w (.cells #[.int .i64 0, .string ⟨#[]⟩, .int .i64 0, .int .i64 0] 60)
  have h1 := h.below k1
  obtain ⟨c0, c1, c2, c3⟩ := h1.cells
  have hl := h.len
  have hbd := h.bd
  have hpn0 : p < n := by omega
  obtain ⟨g2, o, hj', rfl, hg2, q0, q1, q2, q3⟩ := h1.sl.tok hpn0
  have hZ := Blk.new w 60 #[.int .i64 0, .string ⟨#[]⟩, .int .i64 0, .int .i64 0]
  have hpn : (p : Int) < (n : Int) := by omega
  have hpd : decide ((n : Int) ≤ (p : Int)) = false := by simp; omega
  have hpd2 : decide (n ≤ p) = false := by simp; omega
  generalize l[p] = t at q0 q1 q2 q3
  have hwrp : IntKind.i64.wrap (p : Int) = (p : Int) := by rw [IntKind.wrap_i64]; omega
  have hwrp1 : IntKind.i64.wrap ((p : Int) + 1) = ((p + 1 : Nat) : Int) := by rw [IntKind.wrap_i64]; omega
  have hp0 : (0 : Int) ≤ (p : Int) := by omega
  have hgl := h.blk.lt
  go_enter Tryd.func84, Tryd.ntmps84
  go_wp2_with fail
  go_quiet (fail)
  go_wp2_with fail
  have hTR := h1.drewN nq
  have hZa := hZ.drewN nq
  have hfr : Fr [g] w ((w.alloc (.cells #[.int .i64 0, .string ⟨#[]⟩, .int .i64 0, .int .i64 0] 60)).drewN nq) := (Fr.of_below k1).drewN nq
  replace q0 : ((w.alloc (.cells #[.int .i64 0, .string ⟨#[]⟩, .int .i64 0, .int .i64 0] 60)).drewN nq).cell? _ = _ := q0
  replace q1 : ((w.alloc (.cells #[.int .i64 0, .string ⟨#[]⟩, .int .i64 0, .int .i64 0] 60)).drewN nq).cell? _ = _ := q1
  replace q2 : ((w.alloc (.cells #[.int .i64 0, .string ⟨#[]⟩, .int .i64 0, .int .i64 0] 60)).drewN nq).cell? _ = _ := q2
  replace q3 : ((w.alloc (.cells #[.int .i64 0, .string ⟨#[]⟩, .int .i64 0, .int .i64 0] 60)).drewN nq).cell? _ = _ := q3
  clear c0 c1 c2 c3 h1 hZ
  generalize (w.alloc (.cells #[.int .i64 0, .string ⟨#[]⟩, .int .i64 0, .int .i64 0] 60)).drewN nq = wa at hTR hZa hfr q0 q1 q2 q3 ⊢
  obtain ⟨d0, d1, d2, d3⟩ := hTR.cells
  have hA := hTR.below (Below.one wa (.cells #[.int .i64 0, .string ⟨#[]⟩, .int .i64 0, .int .i64 0] 60))
  have kA := Below.one wa (.cells #[.int .i64 0, .string ⟨#[]⟩, .int .i64 0, .int .i64 0] 60)
  obtain ⟨e0, e1, e2, e3⟩ := hA.cells
  have r0 : ∀ k (v : Value), wa.cell? ⟨g2, k, none⟩ = some v → (wa.alloc (.cells #[.int .i64 0, .string ⟨#[]⟩, .int .i64 0, .int .i64 0] 60)).cell? ⟨g2, k, none⟩ = some v :=
    fun k v hv => (World.cell?_of_block (a := ⟨g2, k, none⟩) (kA.block g2 (Nat.lt_trans hg2 hTR.blk.lt))).trans hv
  have s0 := r0 _ _ q0
  have s1 := r0 _ _ q1
  have s2 := r0 _ _ q2
  have s3 := r0 _ _ q3
  clear r0
  go_region
  clear q0 q1 q2 q3 s0 s1 s2 s3 d0 d1 d2 d3 e0 e1 e2 e3 hA kA
  have k3 := Below.one wa (.cells #[.int .i64 t.k, .string t.s, .int .i64 t.n, .int .i64 t.x] 60)
  have hZl : w.heap.size < wa.heap.size := hZa.lt
  have hT4 : TP (wa.alloc (.cells #[.int .i64 t.k, .string t.s, .int .i64 t.n, .int .i64 t.x] 60)).drew g (some ⟨g2, o, none⟩) n c l p dp code := ⟨(hTR.below k3).blk, (hTR.below k3).sl.drew, hbd⟩
  have hZ4 := (hZa.below k3 hZl).drew
  have hB4 := (Blk.new wa 60 #[.int .i64 t.k, .string t.s, .int .i64 t.n, .int .i64 t.x]).drew
  have hfr4 : Fr [g] w (wa.alloc (.cells #[.int .i64 t.k, .string t.s, .int .i64 t.n, .int .i64 t.x] 60)).drew := (hfr.trans (Fr.of_below k3)).drew
  have hgl2 : g < wa.heap.size := hTR.blk.lt
  generalize wa.heap.size = b at hZl hB4 hgl2 ⊢
  generalize (wa.alloc (.cells #[.int .i64 t.k, .string t.s, .int .i64 t.n, .int .i64 t.x] 60)).drew = wb at hT4 hZ4 hB4 hfr4 ⊢
  clear hTR hZa hfr k3 wa
  have hT5 := hT4.setAt (p + 1)
  have hZ5 := hZ4.far (p := ⟨g, 1, none⟩) (by show w.heap.size ≠ g; omega) (.int .i64 ((p + 1 : Nat) : Int))
  have hB5 := hB4.far (p := ⟨g, 1, none⟩) (by show b ≠ g; omega) (.int .i64 ((p + 1 : Nat) : Int))
  have hfr5 := hfr4.setCell (p := ⟨g, 1, none⟩) (by simp) (.int .i64 ((p + 1 : Nat) : Int))
  obtain ⟨d0, d1, d2, d3⟩ := hT4.cells
  have f1 := hT4.blk.frozen 1
  have e0 := hB5.cell 0
  have e1 := hB5.cell 1
  have e2 := hB5.cell 2
  have e3 := hB5.cell 3
  obtain ⟨x0, x1, x2, x3, ⟨s0, t0⟩, ⟨s1, t1⟩, ⟨s2, t2⟩, s3, t3⟩ := Blk.tokFour hZ5 (o := 0) (by simp) (.int .i64 t.k) (.string t.s) (.int .i64 t.n)
  simp only [Nat.zero_add] at s0 s1 s2 s3 t0 t1 t2 t3
  have hcs : ((p + 1 : Nat) : Int) = (p : Int) + 1 := by omega
  rw [hcs] at hwrp1 hZ5 hB5 hfr5 e0 e1 e2 e3 s0 s1 s2 s3 t0 t1 t2 t3
  go_wp2_with fail
  rw [← hcs]
  exact bodyPost_ret (results_blk Tryd.results84 Tryd.isAgg60 (by exact Tryd.sizeOf60) rfl (hcs ▸ hZ5.tok4 _ _ _ _)) rfl ⟨rfl, TP.four hT5 hgl _ _ _ _, fr_four (hcs ▸ hfr5) (Nat.le_refl _) _ _ _ _⟩
end Go.Proofs.YticejlknbfhndaaDoor

namespace Go.Proofs.YticejlknbfhndaaDoor
open Go.RowKit

/-- append(row, t), t's list being of the call's own. -/
theorem step_val {ops : Array Oper} {o : Oper} {a : Act} {K : Act → World → Prop} {Q : Exit → Act → World → Prop} {E : Prop} {w : World} (hgd : o.guard = none) (s x : Operand)
    (ho : o.op = .call { callee := .builtin .append, args := #[s, x], argTypes := #[27, 27] })
    {lo : Nat} {A : Option Addr} {n c : Nat} {l : List Tr} {es : List El} {t : Tr} {u : El} (h : RV w lo A n c l es) (hs : a.eval s = .slice A n c)
    {gx : Nat} (hgx : w.heap.size = gx) (hx : a.eval x = .slice (some ⟨gx, 0, none⟩) 1 1) (hl : LsAt w t.l u) (hu : Own w lo u.fp) (hd : ∀ g ∈ u.fp, g ∉ blkOf A ∧ g ∉ elFp es) (hn : n + 1 ≤ 1099511627776) (hbase : lo ≤ w.heap.size)
    (hK : ∀ A' c' w', RV w' lo A' (n + 1) c' (l ++ [t]) (es ++ [u]) → Below lo w w' → Gr A A' (w.alloc (.cells #[.int .i64 t.k, .int .i64 t.n, .int .i64 t.x, .string t.s, .slice u.A u.n u.c] 29)) w' → K (a.put o.dst (.slice A' (n + 1) c')) w') :
    if Region.wanted o (yielded ops a.tmps) = true then Oper.wp Tryd.prog o a (w.alloc (.cells #[.int .i64 t.k, .int .i64 t.n, .int .i64 t.x, .string t.s, .slice u.A u.n u.c] 29)) K Q else E := by
  subst hgx
  obtain ⟨i0, hi, hz0, hz1, hz2⟩ := info_parts info_val
  have hb1 := Below.one w (.cells #[.int .i64 t.k, .int .i64 t.n, .int .i64 t.x, .string t.s, .slice u.A u.n u.c] 29)
  have h1 := h.below hb1
  have hsl := Sl.lit w 29 #[.int .i64 t.k, .int .i64 t.n, .int .i64 t.x, .string t.s, .slice u.A u.n u.c] 5 1 rfl (by decide) (w.heap.size + 1) (Nat.lt_succ_self _)
  refine step_append_sl _ hgd s x 27 ho lo 29 i0 (.agg #[.int .i64 0, .int .i64 0, .int .i64 0, .string ByteArray.empty, .slice none 0 0]) 5 64 Tryd.underlying27 hi hz0 hz1 hz2 rfl (by decide) (.slice A n c) n (cellsOf l es) hs h1.row _ _ 1 1 _ hx hsl (fun v hv => ?_) (by unfold maxLen; omega) (by omega) (by simp; omega) ?_
  · simp only [List.mem_cons, List.not_mem_nil, or_false] at hv
    rcases hv with rfl | rfl | rfl | rfl | rfl <;> rfl
  intro A' c' w' h2 h3 h4
  have hg := gr_of (n' := n + 1) (c' := c') h3 h4
  have hkl : ∀ g ∈ elFp es, g ∉ blkOf A := fun g hg2 hgA => h1.apart g hgA hg2
  have hbel : Below lo w w' := (hb1.mono hbase).trans (hg.fr.below (fun g hg2 => (row_lt h1.row hg2).1) (Nat.le_trans hbase hb1.size))
  refine hK A' c' w' ⟨?_, by simp [h.len], by simp [h.eslen], fun j t2 u2 a b => ?_, ?_, fun g hgA hg2 => ?_⟩ hbel hg
  · rw [cellsOf_snoc l es t u (by rw [h.len, h.eslen])]; exact h2
  · rcases Nat.lt_or_ge j n with hj | hj
    · rw [List.getElem?_append_left (by rw [h.len]; exact hj)] at a
      rw [List.getElem?_append_left (by rw [h.eslen]; exact hj)] at b
      exact (h1.kids j t2 u2 a b).fr hg.fr (fun g hg2 => h1.own.lt (elFp_mem b hg2)) (fun g hg2 => hkl g (elFp_mem b hg2))
    · have hj2 : j = n := by have := (List.getElem?_eq_some_iff.1 a).1; simp [h.len] at this; omega
      subst hj2
      rw [List.getElem?_append_right (by rw [h.len]; exact Nat.le_refl _), h.len, Nat.sub_self] at a
      rw [List.getElem?_append_right (by rw [h.eslen]; exact Nat.le_refl _), h.eslen, Nat.sub_self] at b
      simp only [List.getElem?_cons_zero, Option.some.injEq] at a b
      subst a b
      exact (hl.below (fun g hg2 => hu.lt hg2) hb1).fr hg.fr (fun g hg2 => Nat.lt_of_lt_of_le (hu.lt hg2) hb1.size) (fun g hg2 => (hd g hg2).1)
  · rw [elFp_snoc]
    exact ((h1.own.fr hg.fr hkl).app ((hu.below (fun g hg2 => hu.lt hg2) hb1).fr hg.fr (fun g hg2 => (hd g hg2).1)) fun g hg2 hg3 => (hd g hg3).2 hg2)
  · rw [elFp_snoc] at hg2
    rcases hg.own g hgA with h5 | h5
    · rcases List.mem_append.1 hg2 with h6 | h6
      · exact h1.apart g h5 h6
      · exact (hd g h6).1 h5
    · have h7 : w.heap.size < g := by simp at h5; omega
      rcases List.mem_append.1 hg2 with h6 | h6
      · have := h.own.lt h6; omega
      · have := hu.lt h6; omega
end Go.Proofs.YticejlknbfhndaaDoor

namespace Go.Proofs.YticejlknbfhndaaDoor
open Go.RowKit

theorem leafRd_good {t : Tk} {p q : Nat} {u : Tr} (h : leafRd t p = .good u q) : q = p + 1 ∧ u.l = [] := by
  unfold leafRd at h
  split at h
  · cases h; exact ⟨rfl, rfl⟩
  split at h
  · split at h
    · cases h
    · rename_i v hv
      cases h
      refine ⟨rfl, ?_⟩
      unfold numTr at hv
      split at hv
      · cases hv
      · cases hv; unfold numT; split <;> rfl
  split at h
  · cases h; exact ⟨rfl, rfl⟩
  split at h
  · cases h; exact ⟨rfl, rfl⟩
  split at h
  · cases h; exact ⟨rfl, rfl⟩
  cases h
theorem leafRd_bad {t : Tk} {p : Nat} {c : Int} (h : leafRd t p = .bad c) : c = 1 ∨ c = 2 := by
  unfold leafRd at h
  split at h
  · cases h
  split at h
  · split at h
    · cases h; exact .inr rfl
    · cases h
  split at h
  · cases h
  split at h
  · cases h
  split at h
  · cases h
  cases h; exact .inl rfl
theorem pVM_good (l : List Tk) : ∀ f, (∀ d p t q, pV l f d p = .good t q → p < q) ∧ (∀ k sh d p acc m q, pM l f k sh d p acc = .good m q → p < q) := by
  intro f
  induction f with
  | zero => exact ⟨fun d p t q h => (by unfold pV at h; cases h), fun k sh d p acc m q h => (by unfold pM at h; cases h)⟩
  | succ f ih =>
    obtain ⟨i1, i2⟩ := ih
    constructor
    · intro d p t q h
      unfold pV at h
      split at h
      · cases h
      split at h
      · cases h
      split at h
      · split at h
        · cases h; omega
        · split at h
          · cases h
          · rename_i hm; cases h; have := i2 _ _ _ _ _ _ _ hm; omega
      split at h
      · split at h
        · cases h; omega
        · split at h
          · cases h
          · rename_i hm; cases h; have := i2 _ _ _ _ _ _ _ hm; omega
      · have := (leafRd_good h).1; omega
    · intro k sh d p acc m q h
      unfold pM at h
      split at h
      · split at h
        · cases h
        split at h
        · cases h
        · rename_i hv
          have h1 := i1 _ _ _ _ hv
          split at h
          · have := i2 _ _ _ _ _ _ _ h; omega
          split at h
          · cases h; omega
          · cases h
      · split at h
        · cases h
        · rename_i hv
          have h1 := i1 _ _ _ _ hv
          split at h
          · have := i2 _ _ _ _ _ _ _ h; omega
          split at h
          · cases h; omega
          · cases h
theorem pVM_bad (l : List Tk) : ∀ f, (∀ d p c, pV l f d p = .bad c → c = 1 ∨ c = 2) ∧ (∀ k sh d p acc c, pM l f k sh d p acc = .bad c → c = 1 ∨ c = 2) := by
  intro f
  induction f with
  | zero => exact ⟨fun d p c h => (by unfold pV at h; cases h; exact .inl rfl), fun k sh d p acc c h => (by unfold pM at h; cases h; exact .inl rfl)⟩
  | succ f ih =>
    obtain ⟨i1, i2⟩ := ih
    constructor
    · intro d p c h
      unfold pV at h
      split at h
      · cases h; exact .inr rfl
      split at h
      · cases h; exact .inl rfl
      split at h
      · split at h
        · cases h
        · split at h
          · rename_i hm; cases h; exact i2 _ _ _ _ _ _ hm
          · cases h
      split at h
      · split at h
        · cases h
        · split at h
          · rename_i hm; cases h; exact i2 _ _ _ _ _ _ hm
          · cases h
      · exact leafRd_bad h
    · intro k sh d p acc c h
      unfold pM at h
      split at h
      · split at h
        · cases h; exact .inl rfl
        split at h
        · rename_i hv; cases h; exact i1 _ _ _ hv
        · split at h
          · exact i2 _ _ _ _ _ _ h
          split at h
          · cases h
          · cases h; exact .inl rfl
      · split at h
        · rename_i hv; cases h; exact i1 _ _ _ hv
        · split at h
          · exact i2 _ _ _ _ _ _ h
          split at h
          · cases h
          · cases h; exact .inl rfl
end Go.Proofs.YticejlknbfhndaaDoor

namespace Go.Proofs.YticejlknbfhndaaDoor
open Go.RowKit

/-- What the place and the code are behind a reading. -/
def Rd.ok (R : Rd) (t : Tr) (p' : Nat) (k' : Int) : Prop := match R with
  | .good t0 q => t = t0 ∧ p' = q ∧ k' = 0
  | .bad c => k' = c ∧ c ≠ 0
def ReadAt (w w' : World) (g : Nat) (A : Option Addr) (n c : Nat) (l : List Tk) (R : Rd) (r : Ending) : Prop :=
  ∃ t u p' k', r = .returned (trV t u) ∧ LsAt w' t.l u ∧ Own w' w.heap.size u.fp ∧ TR w' g A n c l p' k' ∧ Fr [g] w w' ∧ R.ok t p' k'
set_option maxHeartbeats 2000000 in
theorem i_value_code (g : Nat) (A : Option Addr) (n c : Nat) (l : List Tk) (p : Nat) (code d : Int) (w : World) (h : TR w g A n c l p code) (hc : code ≠ 0) :
    Calls Tryd.prog 89 #[.pointer (some ⟨g, 0, none⟩), .int .i64 d] w fun r w' => FailAt w w' g A n c l p code r := by
  have k1 := Below.one w (.cells #[.int .i64 0, .int .i64 0, .int .i64 0, .string ⟨#[]⟩, .slice none 0 0] 29)
  have h1 := h.below k1
  have hZ := Blk.new w 29 #[.int .i64 0, .int .i64 0, .int .i64 0, .string ⟨#[]⟩, .slice none 0 0]
  obtain ⟨c0, c1, c2, c3⟩ := h1.cells
  have hq : (code == 0) = false := by simpa using hc
  have hq2 : (code != 0) = true := by simpa using hc
  go_enter Tryd.func89, Tryd.ntmps89
  go_wp2_with fail
  exact bodyPost_ret (results_blk Tryd.results89 Tryd.isAgg29 (by exact Tryd.sizeOf29) rfl hZ) rfl ⟨rfl, h1, Fr.of_below k1⟩
set_option maxHeartbeats 2000000 in
theorem i_value_deep (g : Nat) (A : Option Addr) (n c : Nat) (l : List Tk) (p : Nat) (d : Int) (w : World) (h : TR w g A n c l p 0) (hd : d < 1) :
    Calls Tryd.prog 89 #[.pointer (some ⟨g, 0, none⟩), .int .i64 d] w fun r w' => FailAt w w' g A n c l p 2 r := by
  have k1 := Below.one w (.cells #[.int .i64 0, .int .i64 0, .int .i64 0, .string ⟨#[]⟩, .slice none 0 0] 29)
  have h1 := h.below k1
  have hZ := Blk.new w 29 #[.int .i64 0, .int .i64 0, .int .i64 0, .string ⟨#[]⟩, .slice none 0 0]
  obtain ⟨c0, c1, c2, c3⟩ := h1.cells
  have hgl := h.blk.lt
  have hdd : decide (d < 1) = true := by simpa using hd
  have hfl := i_fail g _ n c l p 0 2 _ h1
  rw [if_pos rfl] at hfl
  have hTz := hZ.lt
  have hfr := Fr.of_below (fp := [g]) k1
  obtain ⟨u, hu⟩ : ∃ u, zeroT = u := ⟨_, rfl⟩
  unfold FailAt at hfl ⊢
  rw [hu] at hfl ⊢
  clear hu h
  go_enter Tryd.func89, Tryd.ntmps89
  go_wp2_with (go_at_call 127; refine hfl.mono ?_; rintro r w2 ⟨rfl, h2, hf2⟩; have BZ : Blk w2 w.heap.size 29 _ := (hf2.block w.heap.size hTz (by simp; omega)).trans hZ; obtain ⟨x0, x1, x2, x3, x4, ⟨s0, t0⟩, ⟨s1, t1⟩, ⟨s2, t2⟩, ⟨s3, t3⟩, s4, t4⟩ := BZ.five (o := 0) (by simp) (.int .i64 u.k) (.int .i64 u.n) (.int .i64 u.x) (.string u.s))
  have hblk : Blk (set5 w2 w.heap.size 0 u ⟨none, 0, 0, []⟩) w.heap.size 29 _ := Blk.five_ BZ u ⟨none, 0, 0, []⟩
  have hTR3 := h2.set5_ (g2 := w.heap.size) (o := 0) (t := u) (e := ⟨none, 0, 0, []⟩) hgl
  have hfr3 : Fr [g] w (set5 w2 w.heap.size 0 u ⟨none, 0, 0, []⟩) := fr_new5 (hfr.trans hf2) (Nat.le_refl _)
  have hres := fun (tm : Array Value) (hp : tm.getD 4 undef = .pointer (some ⟨w.heap.size, 0, none⟩)) => results_blk (P := Tryd.prog) (tmps := tm) Tryd.results89 Tryd.isAgg29 (by exact Tryd.sizeOf29) hp hblk
  refine bodyPost_ret (hres _ rfl) rfl ?_
  exact ⟨rfl, hTR3, hfr3⟩
set_option maxHeartbeats 2000000 in
theorem i_value_end (g : Nat) (A : Option Addr) (n c : Nat) (l : List Tk) (p : Nat) (d : Int) (w : World) (h : TR w g A n c l p 0) (hd : 1 ≤ d) (hp : n ≤ p) :
    Calls Tryd.prog 89 #[.pointer (some ⟨g, 0, none⟩), .int .i64 d] w fun r w' => FailAt w w' g A n c l p 1 r := by
  have k1 := Below.one w (.cells #[.int .i64 0, .int .i64 0, .int .i64 0, .string ⟨#[]⟩, .slice none 0 0] 29)
  have h1 := h.below k1
  have hZ := Blk.new w 29 #[.int .i64 0, .int .i64 0, .int .i64 0, .string ⟨#[]⟩, .slice none 0 0]
  obtain ⟨c0, c1, c2, c3⟩ := h1.cells
  have hgl := h.blk.lt
  have hdd : decide (d < 1) = false := by simp; omega
  have hpd : decide ((n : Int) ≤ (p : Int)) = true := by simp; omega
  have hpd2 : decide (n ≤ p) = true := by simpa using hp
  have hfr := Fr.of_below (fp := [g]) k1
  obtain ⟨u, hu⟩ : ∃ u, zeroT = u := ⟨_, rfl⟩
  have HU := Lib.hid hu
  unfold FailAt
  rw [hu]
  clear hu h
  go_enter Tryd.func89, Tryd.ntmps89
  go_wp2_with fail
  go_quiet (fail)
  have hTR := h1.drewN nq
  have hZa := hZ.drewN nq
  have hfr := hfr.drewN nq
  have hfl := i_fail g _ n c l p 0 1 _ hTR
  rw [if_pos rfl] at hfl
  have hTz : w.heap.size < ((w.alloc (.cells #[.int .i64 0, .int .i64 0, .int .i64 0, .string ⟨#[]⟩, .slice none 0 0] 29)).drewN nq).heap.size := hZa.lt
  unfold FailAt at hfl
  generalize (w.alloc (.cells #[.int .i64 0, .int .i64 0, .int .i64 0, .string ⟨#[]⟩, .slice none 0 0] 29)).drewN nq = wa at hTR hZa hfr hfl hTz ⊢
  rw [HU.out] at hfl
  go_wp2_with (go_at_call 127; refine hfl.mono ?_; rintro r w2 ⟨rfl, h2, hf2⟩; have BZ : Blk w2 w.heap.size 29 _ := (hf2.block w.heap.size hTz (by simp; omega)).trans hZa; obtain ⟨x0, x1, x2, x3, x4, ⟨s0, t0⟩, ⟨s1, t1⟩, ⟨s2, t2⟩, ⟨s3, t3⟩, s4, t4⟩ := BZ.five (o := 0) (by simp) (.int .i64 u.k) (.int .i64 u.n) (.int .i64 u.x) (.string u.s))
  have hblk : Blk (set5 w2 w.heap.size 0 u ⟨none, 0, 0, []⟩) w.heap.size 29 _ := Blk.five_ BZ u ⟨none, 0, 0, []⟩
  have hTR3 := h2.set5_ (g2 := w.heap.size) (o := 0) (t := u) (e := ⟨none, 0, 0, []⟩) hgl
  have hfr3 : Fr [g] w (set5 w2 w.heap.size 0 u ⟨none, 0, 0, []⟩) := fr_new5 (hfr.trans hf2) (Nat.le_refl _)
  have hres := fun (tm : Array Value) (hp : tm.getD 4 undef = .pointer (some ⟨w.heap.size, 0, none⟩)) => results_blk (P := Tryd.prog) (tmps := tm) Tryd.results89 Tryd.isAgg29 (by exact Tryd.sizeOf29) hp hblk
  refine bodyPost_ret (hres _ rfl) rfl ?_
  exact ⟨rfl, hTR3, hfr3⟩
end Go.Proofs.YticejlknbfhndaaDoor

namespace Go.Proofs.YticejlknbfhndaaDoor
open Go.RowKit

/-- Where 'take' leaves the reader, and with which code. -/
noncomputable def tkP (l : List Tk) (p : Nat) (code : Int) (sg : ByteArray) : Nat := if ((code == 0) && signB l p sg) = true then p + 1 else p
noncomputable def tkQ (l : List Tk) (p : Nat) (code : Int) (sg : ByteArray) : Int := if ((code == 0) && signB l p sg) = true then 0 else if code = 0 then 1 else code
/-- What 'name' reads at p, with code 0. -/
def nmT (l : List Tk) (p : Nat) : Tr × Nat × Int := match l[p]? with
  | none => (leafTr 0 0 0 ⟨#[]⟩, p, 1)
  | some t => if t.k = 2 then (leafTr 7 0 0 t.s, p + 1, 0) else (leafTr 0 0 0 ⟨#[]⟩, p, 1)
def RdL.ok (R : RdL) (m : List Tr) (p' : Nat) (k' : Int) : Prop := match R with
  | .good m0 q => m = m0 ∧ p' = q ∧ k' = 0
  | .bad c => k' = c ∧ c ≠ 0
noncomputable def stepR (l : List Tk) (f : Nat) (k : Int) (sh : ByteArray) (d : Int) (X : Rd) (acc : List Tr) : RdL := match X with
  | .bad c => .bad c
  | .good v q => if signB l q ⟨#[44]⟩ = true then pM l f k sh d (q + 1) (acc ++ [v]) else if signB l q sh = true then .good (acc ++ [v]) (q + 1) else .bad 1
noncomputable def elRd (l : List Tk) (f : Nat) (k : Int) (sh : ByteArray) (d : Int) (p : Nat) : Rd :=
  if signB l (p + 1) sh = true then .good (leafTr k 0 0 ⟨#[]⟩) (p + 2)
  else match pM l f k sh d (p + 1) [] with
    | .bad c => .bad c
    | .good m q => .good ⟨k, 0, 0, ⟨#[]⟩, m⟩ q
def closeR (k : Int) (R : RdL) : Rd := match R with
  | .bad c => .bad c
  | .good m q => .good ⟨k, 0, 0, ⟨#[]⟩, m⟩ q
theorem elRd_some {l : List Tk} {f : Nat} {k : Int} {sh : ByteArray} {d : Int} {p : Nat} (h : signB l (p + 1) sh = false) : elRd l f k sh d p = closeR k (pM l f k sh d (p + 1) []) := by
  unfold elRd
  rw [h]
  rfl
theorem closeR_ok {k : Int} {R : RdL} {m : List Tr} {p : Nat} {c : Int} (h : R.ok m p c) : (closeR k R).ok ⟨k, 0, 0, ⟨#[]⟩, m⟩ p c := by
  cases R with
  | bad c2 => exact h
  | good m2 q => obtain ⟨rfl, rfl, rfl⟩ := h; exact ⟨rfl, rfl, rfl⟩
theorem nmT_le (l : List Tk) (p : Nat) : p ≤ (nmT l p).2.1 ∧ (nmT l p).1.l = [] := by
  unfold nmT
  split
  · exact ⟨Nat.le_refl _, rfl⟩
  · split
    · exact ⟨Nat.le_succ _, rfl⟩
    · exact ⟨Nat.le_refl _, rfl⟩
theorem tkP_le (l : List Tk) (p : Nat) (c : Int) (sg : ByteArray) : p ≤ tkP l p c sg := by
  unfold tkP; split
  · exact Nat.le_succ _
  · exact Nat.le_refl _
theorem pM_nine (l : List Tk) (f : Nat) (sh : ByteArray) (d : Int) (p : Nat) (acc : List Tr) : pM l (f + 1) 9 sh d p acc = stepR l f 9 sh d (pV l f (d - 1) p) acc := by
  rw [pM, if_neg (by decide)]; rfl
/-- What the value's reading starts from, behind a name and its colon. -/
noncomputable def afterName (l : List Tk) (f : Nat) (d : Int) (p : Nat) : Rd :=
  if tkQ l (nmT l p).2.1 (nmT l p).2.2 ⟨#[58]⟩ = 0 then pV l f (d - 1) (tkP l (nmT l p).2.1 (nmT l p).2.2 ⟨#[58]⟩) else .bad (tkQ l (nmT l p).2.1 (nmT l p).2.2 ⟨#[58]⟩)
theorem pM_ten (l : List Tk) (f : Nat) (sh : ByteArray) (d : Int) (p : Nat) (acc : List Tr) : pM l (f + 1) 10 sh d p acc = stepR l f 10 sh d (afterName l f d p) (acc ++ [(nmT l p).1]) := by
  rw [pM, if_pos rfl]
  unfold nameRd afterName nmT tkP tkQ
  cases h : l[p]? with
  | none => simp [stepR]
  | some t =>
    by_cases hk : t.k = 2
    · by_cases hs : signB l (p + 1) ⟨#[58]⟩ = true
      · simp only [hk, hs, if_true, and_self, beq_self_eq_true, Bool.and_self, List.append_assoc]
        unfold stepR
        simp only [List.append_assoc, List.cons_append, List.nil_append]
        rfl
      · have hs2 : signB l (p + 1) ⟨#[58]⟩ = false := by simpa using hs
        simp [hk, hs2, stepR]
    · simp [hk, stepR]
theorem stepR_go {l : List Tk} {f : Nat} {k : Int} {sh : ByteArray} {d : Int} {X : Rd} {acc : List Tr} {t : Tr} {q : Nat} {kc : Int} (h : X.ok t q kc) (hb : ((kc == 0) && signB l q ⟨#[44]⟩) = true) :
    kc = 0 ∧ q < l.length ∧ X = .good t q ∧ stepR l f k sh d X acc = pM l f k sh d (q + 1) (acc ++ [t]) := by
  rw [Bool.and_eq_true, beq_iff_eq] at hb
  obtain ⟨rfl, hs⟩ := hb
  have hq : q < l.length := by
    rcases Nat.lt_or_ge q l.length with h1 | h1
    · exact h1
    · rw [signB_none h1] at hs; cases hs
  cases X with
  | bad c => obtain ⟨h1, h2⟩ := h; exact absurd h1.symm h2
  | good v q0 =>
    obtain ⟨rfl, rfl, _⟩ := h
    refine ⟨rfl, hq, rfl, ?_⟩
    unfold stepR
    simp only [hs, if_true]
theorem stepR_end {l : List Tk} {f : Nat} {k : Int} {sh : ByteArray} {d : Int} {X : Rd} {acc : List Tr} {t : Tr} {q : Nat} {kc : Int} (h : X.ok t q kc) (hb : ((kc == 0) && signB l q ⟨#[44]⟩) = false) :
    (stepR l f k sh d X acc).ok (acc ++ [t]) (tkP l q kc sh) (tkQ l q kc sh) := by
  unfold tkP tkQ
  cases X with
  | bad c =>
    obtain ⟨h1, h2⟩ := h
    subst h1
    have hq : (kc == 0) = false := by simpa using h2
    simp only [hq, Bool.false_and, Bool.false_eq_true, if_false, if_neg h2]
    exact ⟨rfl, h2⟩
  | good v q0 =>
    obtain ⟨rfl, rfl, rfl⟩ := h
    have hs : signB l q ⟨#[44]⟩ = false := by simpa using hb
    unfold stepR
    simp only [hs, Bool.false_eq_true, if_false]
    by_cases h2 : signB l q sh = true
    · simp only [h2, beq_self_eq_true, Bool.and_self, if_true]; exact ⟨rfl, rfl, rfl⟩
    · have h3 : signB l q sh = false := by simpa using h2
      simp only [h3, Bool.and_false, Bool.false_eq_true, if_false, if_true]; exact ⟨rfl, by decide⟩
theorem i_take (g : Nat) (A : Option Addr) (n c : Nat) (l : List Tk) (p : Nat) (code : Int) (sg : ByteArray) (w : World) (h : TR w g A n c l p code) :
    Calls Tryd.prog 160 #[.pointer (some ⟨g, 0, none⟩), .string sg] w fun r w' => TakeAt w w' g A n c l (tkP l p code sg) (tkQ l p code sg) r := by
  unfold tkP tkQ
  cases hb : ((code == 0) && signB l p sg) with
  | true =>
    rw [Bool.and_eq_true, beq_iff_eq] at hb
    obtain ⟨rfl, hs⟩ := hb
    simp only [if_true]
    exact i_take_yes g A n c l p sg w h hs
  | false =>
    simp only [Bool.false_eq_true, if_false]
    exact i_take_no g A n c l p code sg w h hb
theorem i_name (g : Nat) (A : Option Addr) (n c : Nat) (l : List Tk) (p : Nat) (w : World) (h : TR w g A n c l p 0) :
    Calls Tryd.prog 159 #[.pointer (some ⟨g, 0, none⟩)] w fun r w' => LeafAt w w' g A n c l (nmT l p).2.1 (nmT l p).2.2 (nmT l p).1 r := by
  unfold nmT
  rcases Nat.lt_or_ge p l.length with hp | hp
  · rw [List.getElem?_eq_getElem hp]
    by_cases hk : l[p].k = 2
    · simp only [hk, if_true]
      exact i_name_yes g A n c l p w h hp hk
    · simp only [hk, if_false]
      have := i_name_no g A n c l p 0 w h (.inr (.inr ⟨hp, hk⟩))
      rw [if_pos rfl] at this
      exact this
  · rw [List.getElem?_eq_none hp]
    have := i_name_no g A n c l p 0 w h (.inr (.inl hp))
    rw [if_pos rfl] at this
    exact this
theorem LeafAt.read {w w' : World} {g : Nat} {A : Option Addr} {n c : Nat} {l : List Tk} {p : Nat} {k : Int} {t : Tr} {r : Ending} (h : LeafAt w w' g A n c l p k t r) (hl : t.l = []) {X : Rd} (hx : X.ok t p k) : ReadAt w w' g A n c l X r := by
  obtain ⟨h1, h2, h3⟩ := h
  exact ⟨t, ⟨none, 0, 0, []⟩, p, k, h1, by rw [hl]; exact LsAt.nil_ _ _, Own.nil_ _ _, h2, h3, hx⟩
theorem FailAt.read {w w' : World} {g : Nat} {A : Option Addr} {n c : Nat} {l : List Tk} {p : Nat} {k : Int} {r : Ending} (h : FailAt w w' g A n c l p k r) (hk : k ≠ 0) : ReadAt w w' g A n c l (.bad k) r :=
  LeafAt.read (t := zeroT) h rfl ⟨rfl, hk⟩
end Go.Proofs.YticejlknbfhndaaDoor

namespace Go.Proofs.YticejlknbfhndaaDoor
open Go.RowKit

/-- What 'value' says with this much fuel. -/
def ValSays (W : World) (g : Nat) (A : Option Addr) (n c : Nat) (l : List Tk) (f : Nat) : Prop :=
  ∀ (p : Nat) (d : Int) (w : World), TR w g A n c l p 0 → Below W.heap.size W w → 2 * (n - p) + 1 ≤ f → -9223372036854775808 ≤ d → d ≤ 9223372036854775807 →
    Calls Tryd.prog 89 #[.pointer (some ⟨g, 0, none⟩), .int .i64 d] w fun r w' => ReadAt w w' g A n c l (pV l f d p) r
def ElemSays (W : World) (g : Nat) (A : Option Addr) (n c : Nat) (l : List Tk) (f : Nat) : Prop :=
  ∀ (k : Int) (sh : ByteArray) (p : Nat) (d : Int) (w : World), k = 9 ∨ k = 10 → TR w g A n c l p 0 → Below W.heap.size W w → p < n → 2 * (n - (p + 1)) + 2 ≤ f → 1 ≤ d → d ≤ 9223372036854775807 →
    Calls Tryd.prog 129 #[.pointer (some ⟨g, 0, none⟩), .int .i64 k, .string sh, .int .i64 d] w fun r w' => ReadAt w w' g A n c l (elRd l f k sh d p) r
set_option maxHeartbeats 4000000 in
theorem i_elements_none (g : Nat) (A : Option Addr) (n c : Nat) (l : List Tk) (f : Nat) (k : Int) (sh : ByteArray) (p : Nat) (d : Int) (w : World) (h : TR w g A n c l p 0) (hp : p < n) (hs : signB l (p + 1) sh = true) :
    Calls Tryd.prog 129 #[.pointer (some ⟨g, 0, none⟩), .int .i64 k, .string sh, .int .i64 d] w fun r w' => LeafAt w w' g A n c l (p + 2) 0 (leafTr k 0 0 ⟨#[]⟩) r := by
  have hl := h.len
  have hbd := h.bd
  have hgl := h.blk.lt
  have k2 := Below.two w (.cells #[.int .i64 0, .int .i64 0, .int .i64 0, .string ⟨#[]⟩, .slice none 0 0] 29) (.cells #[.int .i64 k, .int .i64 0, .int .i64 0, .string ⟨#[]⟩, .slice none 0 0] 29)
  have h1 := h.below k2
  have hR : Blk ((w.alloc (.cells #[.int .i64 0, .int .i64 0, .int .i64 0, .string ⟨#[]⟩, .slice none 0 0] 29)).alloc (.cells #[.int .i64 k, .int .i64 0, .int .i64 0, .string ⟨#[]⟩, .slice none 0 0] 29)) w.heap.size 29 #[.int .i64 0, .int .i64 0, .int .i64 0, .string ⟨#[]⟩, .slice none 0 0] := (Blk.new w _ _).alloc _
  have hO : Blk ((w.alloc (.cells #[.int .i64 0, .int .i64 0, .int .i64 0, .string ⟨#[]⟩, .slice none 0 0] 29)).alloc (.cells #[.int .i64 k, .int .i64 0, .int .i64 0, .string ⟨#[]⟩, .slice none 0 0] 29)) (w.heap.size + 1) 29 #[.int .i64 k, .int .i64 0, .int .i64 0, .string ⟨#[]⟩, .slice none 0 0] := by simpa using Blk.new (w.alloc (.cells #[.int .i64 0, .int .i64 0, .int .i64 0, .string ⟨#[]⟩, .slice none 0 0] 29)) 29 #[.int .i64 k, .int .i64 0, .int .i64 0, .string ⟨#[]⟩, .slice none 0 0]
  have hfr := Fr.of_below (fp := [g]) k2
  obtain ⟨u, hu⟩ : ∃ u, leafTr k 0 0 ⟨#[]⟩ = u := ⟨_, rfl⟩
  rw [hu]
  have HU := Lib.hid hu.symm
  go_enter Tryd.func129, Tryd.ntmps129
  go_upto_region 2 with fail
  generalize (w.alloc (.cells #[.int .i64 0, .int .i64 0, .int .i64 0, .string ⟨#[]⟩, .slice none 0 0] 29)).alloc (.cells #[.int .i64 k, .int .i64 0, .int .i64 0, .string ⟨#[]⟩, .slice none 0 0] 29) = wa at h1 hR hO hfr ⊢
  clear k2 h hu
  obtain ⟨c0, c1, c2, c3⟩ := h1.cells
  have f1 := h1.blk.frozen 1
  have hT5 := h1.setAt (p + 1)
  have R5 := hR.far (p := ⟨g, 1, none⟩) (by show w.heap.size ≠ g; omega) (.int .i64 ((p + 1 : Nat) : Int))
  have O5 := hO.far (p := ⟨g, 1, none⟩) (by show w.heap.size + 1 ≠ g; omega) (.int .i64 ((p + 1 : Nat) : Int))
  have f5 := hfr.setCell (p := ⟨g, 1, none⟩) (by simp) (.int .i64 ((p + 1 : Nat) : Int))
  have hwrp1 : IntKind.i64.wrap ((p : Int) + 1) = (p : Int) + 1 := by rw [IntKind.wrap_i64]; omega
  go_upto_region 3 with fail
  rw [show ((p : Int) + 1) = ((p + 1 : Nat) : Int) by omega]
  generalize wa.setCell ⟨g, 1, none⟩ (.int .i64 ((p + 1 : Nat) : Int)) = wb at hT5 R5 O5 f5 ⊢
  clear h1 hR hO hfr c0 c1 c2 c3 f1
  have HA := i_is g _ n c l (p + 1) 0 sh wb hT5
  rw [hs] at HA
  have hwrp2 : IntKind.i64.wrap (((p + 1 : Nat) : Int) + 1) = ((p + 1 : Nat) : Int) + 1 := by rw [IntKind.wrap_i64]; omega
  go_upto_region 4 with (go_at_call 128; refine HA.mono ?_; rintro r w5 ⟨rfl, m1, rfl⟩)
  have hT6 := hT5.drewN m1
  have R6 := R5.drewN m1
  have O6 := O5.drewN m1
  have f6 := f5.drewN m1
  generalize wb.drewN m1 = wd at hT6 R6 O6 f6 ⊢
  clear hT5 R5 O5 f5 HA hs
  obtain ⟨c0, c1, c2, c3⟩ := hT6.cells
  have f1 := hT6.blk.frozen 1
  have hT5 := hT6.setAt (p + 2)
  have R5 := R6.far (p := ⟨g, 1, none⟩) (by show w.heap.size ≠ g; omega) (.int .i64 ((p + 2 : Nat) : Int))
  have O5 := O6.far (p := ⟨g, 1, none⟩) (by show w.heap.size + 1 ≠ g; omega) (.int .i64 ((p + 2 : Nat) : Int))
  have f5 := f6.setCell (p := ⟨g, 1, none⟩) (by simp) (.int .i64 ((p + 2 : Nat) : Int))
  go_upto_region 5 with fail
  rw [show ((p : Int) + 1 + 1) = ((p + 2 : Nat) : Int) by omega]
  generalize wd.setCell ⟨g, 1, none⟩ (.int .i64 ((p + 2 : Nat) : Int)) = we at hT5 R5 O5 f5 ⊢
  clear hT6 R6 O6 f6 c0 c1 c2 c3 f1
  have b0 := O5.cell 0
  have b1 := O5.cell 1
  have b2 := O5.cell 2
  have b3 := O5.cell 3
  have b4 := O5.cell 4
  simp only [List.getElem?_toArray, List.getElem?_cons_succ, List.getElem?_cons_zero] at b0 b1 b2 b3 b4
  obtain ⟨x0, x1, x2, x3, x4, ⟨s0, t0⟩, ⟨s1, t1⟩, ⟨s2, t2⟩, ⟨s3, t3⟩, s4, t4⟩ := R5.five (o := 0) (by simp) (.int .i64 k) (.int .i64 0) (.int .i64 0) (.string ⟨#[]⟩)
  go_wp2_with fail
  have hblk : Blk (set5 we w.heap.size 0 (leafTr k 0 0 ⟨#[]⟩) ⟨none, 0, 0, []⟩) w.heap.size 29 _ := Blk.five_ R5 (leafTr k 0 0 ⟨#[]⟩) ⟨none, 0, 0, []⟩
  have hTR3 := hT5.set5_ (g2 := w.heap.size) (o := 0) (t := leafTr k 0 0 ⟨#[]⟩) (e := ⟨none, 0, 0, []⟩) hgl
  have hfr3 : Fr [g] w (set5 we w.heap.size 0 (leafTr k 0 0 ⟨#[]⟩) ⟨none, 0, 0, []⟩) := fr_new5 f5 (Nat.le_refl _)
  have hres := fun (tm : Array Value) (hp : tm.getD 8 undef = .pointer (some ⟨w.heap.size, 0, none⟩)) => results_blk (P := Tryd.prog) (tmps := tm) Tryd.results129 Tryd.isAgg29 (by exact Tryd.sizeOf29) hp hblk
  refine bodyPost_ret (hres _ rfl) rfl ?_
  exact ⟨by rw [HU.out], hTR3, hfr3⟩
theorem TR.belowB {w w' : World} {g n c p B : Nat} {A : Option Addr} {l : List Tk} {code : Int} (h : TR w g A n c l p code) (hb : Below B w w') (hg : g < B) : TR w' g A n c l p code :=
  ⟨h.blk.below hb hg, h.sl.below (hb.mono (Nat.le_of_lt hg)), h.bd⟩
theorem Blk.ofFr {w w' : World} {g g2 : Nat} {T : TypeId} {cs : Array Value} (h : Blk w g2 T cs) (hf : Fr [g] w w') (hn : g2 ≠ g) : Blk w' g2 T cs := (hf.block g2 h.lt (by simp; exact hn)).trans h
theorem Below.drewN_ (w : World) (k : Nat) : Below w.heap.size w (w.drewN k) := ⟨rfl, rfl, rfl, Nat.le_refl _, fun _ _ => rfl⟩
theorem RV.frg {w w' : World} {lo n c g : Nat} {A : Option Addr} {l : List Tr} {es : List El} (h : RV w lo A n c l es) (hf : Fr [g] w w') (hg : g < lo) : RV w' lo A n c l es :=
  h.fr hf (fun x hx => by have := (row_lt h.row hx).1; simp; omega) (fun x hx => by have := (h.own.2 x hx).1; simp; omega)
theorem fr_bel {fp : List Nat} {w w1 w2 : World} {B : Nat} (h : Fr fp w w1) (hb : Below B w1 w2) (hB : w.heap.size ≤ B) : Fr fp w w2 :=
  ⟨hb.os.trans h.os, hb.tape.trans h.tape, hb.output.trans h.output, Nat.le_trans h.size hb.size, fun k hk hn => (hb.block k (Nat.lt_of_lt_of_le hk hB)).trans (h.block k hk hn)⟩
theorem RV.newOwn {w w5 : World} {lo n c : Nat} {A : Option Addr} {l : List Tr} {es : List El} {fp : List Nat} (h : RV w lo A n c l es) (ho : Own w5 w.heap.size fp) : ∀ x ∈ fp, x ∉ blkOf A ∧ x ∉ elFp es :=
  fun x hx => ⟨fun h1 => by have := (row_lt h.row h1).2; have := (ho.2 x hx).1; omega, fun h1 => by have := h.own.lt h1; have := (ho.2 x hx).1; omega⟩
/-- The row's new slice is written to the tree that is built. -/
theorem el_step {w w5 w6 : World} {g n c q m' c' : Nat} {A A' : Option Addr} {l : List Tk} {kc k : Int} {s0 : Value} {l' : List Tr} {es' : List El} (hT5 : TR w5 g A n c l q kc) (hf5 : Fr [g] w w5)
    (hR5 : Blk w5 w.heap.size 29 #[.int .i64 0, .int .i64 0, .int .i64 0, .string ⟨#[]⟩, .slice none 0 0]) (hO5 : Blk w5 (w.heap.size + 1) 29 #[.int .i64 k, .int .i64 0, .int .i64 0, .string ⟨#[]⟩, s0]) (h2 : RV w6 (w.heap.size + 2) A' m' c' l' es') (h3 : Below (w.heap.size + 2) w5 w6) (hg : g < w.heap.size) (v : Value) :
    TR (w6.setCell ⟨w.heap.size + 1, 4, none⟩ v) g A n c l q kc ∧ Blk (w6.setCell ⟨w.heap.size + 1, 4, none⟩ v) w.heap.size 29 #[.int .i64 0, .int .i64 0, .int .i64 0, .string ⟨#[]⟩, .slice none 0 0] ∧ Blk (w6.setCell ⟨w.heap.size + 1, 4, none⟩ v) (w.heap.size + 1) 29 #[.int .i64 k, .int .i64 0, .int .i64 0, .string ⟨#[]⟩, v] ∧ RV (w6.setCell ⟨w.heap.size + 1, 4, none⟩ v) (w.heap.size + 2) A' m' c' l' es' ∧ Fr [g] w (w6.setCell ⟨w.heap.size + 1, 4, none⟩ v) := by
  have hT6 := hT5.belowB h3 (by omega)
  refine ⟨⟨hT6.blk.far (p := ⟨w.heap.size + 1, 4, none⟩) (by show g ≠ w.heap.size + 1; omega) _, hT6.sl.setCell (p := ⟨w.heap.size + 1, 4, none⟩) (by show g ≤ w.heap.size + 1; omega) _, hT6.bd⟩, (hR5.below h3 (by omega)).far (p := ⟨w.heap.size + 1, 4, none⟩) (by show w.heap.size ≠ w.heap.size + 1; omega) _, ?_, ?_, fr_new (q := ⟨w.heap.size + 1, 4, none⟩) (fr_bel hf5 h3 (by omega)) (by show w.heap.size ≤ w.heap.size + 1; omega) _⟩
  · simpa using (hO5.below h3 (by omega)).set_ 4 v
  · exact h2.frg (g := w.heap.size + 1) ((Fr.refl _ _).setCell (by simp) _) (by omega)
theorem i_value_from {W : World} {g : Nat} {A : Option Addr} {n c : Nat} {l : List Tk} {f : Nat} (hV : ValSays W g A n c l f) (q : Nat) (k d : Int) (X : Rd) (w : World) (hX : X = (if k = 0 then pV l f d q else .bad k)) (h : TR w g A n c l q k) (hW : Below W.heap.size W w) (hf : 2 * (n - q) + 1 ≤ f) (hd : -9223372036854775808 ≤ d) (hd2 : d ≤ 9223372036854775807) :
    Calls Tryd.prog 89 #[.pointer (some ⟨g, 0, none⟩), .int .i64 d] w fun r w' => ReadAt w w' g A n c l X r := by
  subst hX
  by_cases hk : k = 0
  · subst hk
    rw [if_pos rfl]
    exact hV q d w h hW hf hd hd2
  · rw [if_neg hk]
    exact (i_value_code g A n c l q k d w h hk).mono fun r w' hr => hr.read hk
set_option maxHeartbeats 4000000 in
theorem i_elements_some (W : World) (g : Nat) (A : Option Addr) (n c : Nat) (l : List Tk) (F : Nat) (hWg : W.heap.size ≤ g) (hV : ∀ f, f < F → ValSays W g A n c l f) (k : Int) (sh : ByteArray) (p : Nat) (d : Int) (w : World) (h : TR w g A n c l p 0) (hp : p < n) (hs : signB l (p + 1) sh = false) (hk : k = 9 ∨ k = 10) (hW : Below W.heap.size W w) (hF : 2 * (n - (p + 1)) + 2 ≤ F) (hd1 : 1 ≤ d) (hd2 : d ≤ 9223372036854775807) :
    Calls Tryd.prog 129 #[.pointer (some ⟨g, 0, none⟩), .int .i64 k, .string sh, .int .i64 d] w fun r w' => ReadAt w w' g A n c l (elRd l F k sh d p) r := by
  have hl := h.len
  have hbd := h.bd
  have hgl := h.blk.lt
  have k2 := Below.two w (.cells #[.int .i64 0, .int .i64 0, .int .i64 0, .string ⟨#[]⟩, .slice none 0 0] 29) (.cells #[.int .i64 k, .int .i64 0, .int .i64 0, .string ⟨#[]⟩, .slice none 0 0] 29)
  have h1 := h.below k2
  have hR : Blk ((w.alloc (.cells #[.int .i64 0, .int .i64 0, .int .i64 0, .string ⟨#[]⟩, .slice none 0 0] 29)).alloc (.cells #[.int .i64 k, .int .i64 0, .int .i64 0, .string ⟨#[]⟩, .slice none 0 0] 29)) w.heap.size 29 #[.int .i64 0, .int .i64 0, .int .i64 0, .string ⟨#[]⟩, .slice none 0 0] := (Blk.new w _ _).alloc _
  have hO : Blk ((w.alloc (.cells #[.int .i64 0, .int .i64 0, .int .i64 0, .string ⟨#[]⟩, .slice none 0 0] 29)).alloc (.cells #[.int .i64 k, .int .i64 0, .int .i64 0, .string ⟨#[]⟩, .slice none 0 0] 29)) (w.heap.size + 1) 29 #[.int .i64 k, .int .i64 0, .int .i64 0, .string ⟨#[]⟩, .slice none 0 0] := by simpa using Blk.new (w.alloc (.cells #[.int .i64 0, .int .i64 0, .int .i64 0, .string ⟨#[]⟩, .slice none 0 0] 29)) 29 #[.int .i64 k, .int .i64 0, .int .i64 0, .string ⟨#[]⟩, .slice none 0 0]
  have hfr := Fr.of_below (fp := [g]) k2
  obtain ⟨R, hR0⟩ : ∃ R, pM l F k sh d (p + 1) [] = R := ⟨_, rfl⟩
  rw [elRd_some hs, hR0]
  have HR0 := Lib.hid hR0
  clear hR0
  go_enter Tryd.func129, Tryd.ntmps129
  go_upto_region 2 with fail
  generalize (w.alloc (.cells #[.int .i64 0, .int .i64 0, .int .i64 0, .string ⟨#[]⟩, .slice none 0 0] 29)).alloc (.cells #[.int .i64 k, .int .i64 0, .int .i64 0, .string ⟨#[]⟩, .slice none 0 0] 29) = wa at h1 hR hO hfr ⊢
  clear k2 h
  obtain ⟨c0, c1, c2, c3⟩ := h1.cells
  have f1 := h1.blk.frozen 1
  have hT5 := h1.setAt (p + 1)
  have R5 := hR.far (p := ⟨g, 1, none⟩) (by show w.heap.size ≠ g; omega) (.int .i64 ((p + 1 : Nat) : Int))
  have O5 := hO.far (p := ⟨g, 1, none⟩) (by show w.heap.size + 1 ≠ g; omega) (.int .i64 ((p + 1 : Nat) : Int))
  have f5 := hfr.setCell (p := ⟨g, 1, none⟩) (by simp) (.int .i64 ((p + 1 : Nat) : Int))
  have hwrp1 : IntKind.i64.wrap ((p : Int) + 1) = (p : Int) + 1 := by rw [IntKind.wrap_i64]; omega
  go_upto_region 3 with fail
  rw [show ((p : Int) + 1) = ((p + 1 : Nat) : Int) by omega]
  generalize wa.setCell ⟨g, 1, none⟩ (.int .i64 ((p + 1 : Nat) : Int)) = wb at hT5 R5 O5 f5 ⊢
  clear h1 hR hO hfr c0 c1 c2 c3 f1
  have HA := i_is g _ n c l (p + 1) 0 sh wb hT5
  rw [hs] at HA
  go_wp2_with (go_at_call 128; refine HA.mono ?_; rintro r w5 ⟨rfl, m1, rfl⟩)
  have hT6 := hT5.drewN m1
  have R6 := R5.drewN m1
  have O6 := O5.drewN m1
  have f6 := f5.drewN m1
  have zz : w.heap.size + 1 < (wb.drewN m1).heap.size := O6.lt
  generalize wb.drewN m1 = wd at hT6 R6 O6 f6 zz ⊢
  clear hT5 R5 O5 f5 HA hs
  have RV0 := RV.nil_ wd (w.heap.size + 2)
  go_loopg [] n (fun f wr => ∃ (q m' c' fq : Nat) (A' : Option Addr) (acc : List Tr) (es : List El), q ≤ n ∧ n - q ≤ f ∧ 2 * (n - q) + 2 ≤ fq ∧ fq ≤ F ∧ m' ≤ 2 * q ∧ Hid (pM l fq k sh d q acc = R) ∧ TR wr g A n c l q 0 ∧ Blk wr w.heap.size 29 #[.int .i64 0, .int .i64 0, .int .i64 0, .string ⟨#[]⟩, .slice none 0 0] ∧ Blk wr (w.heap.size + 1) 29 #[.int .i64 k, .int .i64 0, .int .i64 0, .string ⟨#[]⟩, .slice A' m' c'] ∧ RV wr (w.heap.size + 2) A' m' c' acc es ∧ Fr [g] w wr)
  case atStart => exact ⟨p + 1, 0, 0, F, none, [], [], by omega, by omega, hF, Nat.le_refl _, Nat.zero_le _, HR0, hT6, R6, O6, RV0, f6⟩
  case round =>
    obtain ⟨q, m', c', fq, A', acc, es, hqn, hqf, hfq, hfF, hm', hP, hT, hR, hO, hRV, hfr⟩ := hrel
    obtain ⟨fq, rfl⟩ : ∃ z, fq = z + 1 := ⟨fq - 1, by omega⟩
    clear hT6 R6 O6 f6 RV0 HR0
    obtain ⟨X, acc2, q2, k2, hX, hst, hq2, hfirst⟩ : ∃ (X : Rd) (acc2 : List Tr) (q2 : Nat) (k2 : Int), X = (if k2 = 0 then pV l fq (d - 1) q2 else .bad k2) ∧ Hid (stepR l fq k sh d X acc2 = R) ∧ q ≤ q2 ∧ ((k = 9 ∧ acc2 = acc ∧ q2 = q ∧ k2 = 0) ∨ (k = 10 ∧ acc2 = acc ++ [(nmT l q).1] ∧ q2 = tkP l (nmT l q).2.1 (nmT l q).2.2 ⟨#[58]⟩ ∧ k2 = tkQ l (nmT l q).2.1 (nmT l q).2.2 ⟨#[58]⟩)) := by
      rcases hk with rfl | rfl
      · exact ⟨pV l fq (d - 1) q, acc, q, 0, by rw [if_pos rfl], Lib.hid (by rw [← pM_nine]; exact hP.out), Nat.le_refl _, .inl ⟨rfl, rfl, rfl, rfl⟩⟩
      · exact ⟨afterName l fq d q, acc ++ [(nmT l q).1], tkP l (nmT l q).2.1 (nmT l q).2.2 ⟨#[58]⟩, tkQ l (nmT l q).2.1 (nmT l q).2.2 ⟨#[58]⟩, rfl, Lib.hid (by rw [← pM_ten]; exact hP.out), Nat.le_trans (nmT_le l q).1 (tkP_le _ _ _ _), .inr ⟨rfl, rfl, rfl, rfl⟩⟩
    have hval := fun w1 (h1 : TR w1 g A n c l q2 k2) (hb1 : Below W.heap.size W w1) => i_value_from (hV fq (by omega)) q2 k2 (d - 1) X w1 hX h1 hb1 (by omega) (by omega) (by omega)
    have hXp : ∀ t0 p0, X = .good t0 p0 → q2 < p0 := by
      intro t0 p0 he
      rw [he] at hX
      split at hX
      · exact (pVM_good l fq).1 _ _ _ _ hX.symm
      · cases hX
    clear hX hV hP
    go_upto_if 31 with fail
    go_cut [] from 30 to 59 (fun w' => ∃ (m2 c2 : Nat) (A2 : Option Addr) (es2 : List El), m2 ≤ 2 * q + 1 ∧ TR w' g A n c l q2 k2 ∧ Blk w' w.heap.size 29 #[.int .i64 0, .int .i64 0, .int .i64 0, .string ⟨#[]⟩, .slice none 0 0] ∧ Blk w' (w.heap.size + 1) 29 #[.int .i64 k, .int .i64 0, .int .i64 0, .string ⟨#[]⟩, .slice A2 m2 c2] ∧ RV w' (w.heap.size + 2) A2 m2 c2 acc2 es2 ∧ Fr [g] w w')
    case first =>
      clear hval hst
      rcases hfirst with ⟨rfl, rfl, rfl, rfl⟩ | ⟨rfl, rfl, rfl, rfl⟩
      · go_wp2_with fail
        go_meet
        case rel => exact ⟨m', c', A', es, by omega, hT, hR, hO, hRV, hfr⟩
      · have HN := i_name g A n c l q wr.drew (hT.belowB (Below.refl (g + 1) wr).drew (Nat.lt_succ_self _))
        have hnl := (nmT_le l q).2
        have HTK := fun w1 k1 q1 (h1 : TR w1 g A n c l q1 k1) => i_take g A n c l q1 k1 ⟨#[58]⟩ w1 h1
        obtain ⟨⟨nm, q1, k1⟩, hx⟩ : ∃ x, nmT l q = x := ⟨_, rfl⟩
        rw [hx] at HN hnl
        have Hx := Lib.hid hx
        clear hx
        replace HTK := fun w1 => HTK w1 k1 q1
        simp only at HN hnl
        obtain ⟨q2, hp2⟩ : ∃ z, tkP l q1 k1 ⟨#[58]⟩ = z := ⟨_, rfl⟩
        obtain ⟨k2, hk2⟩ : ∃ z, tkQ l q1 k1 ⟨#[58]⟩ = z := ⟨_, rfl⟩
        simp only [hp2, hk2] at HTK
        have Hp2 := Lib.hid hp2
        have Hk2 := Lib.hid hk2
        clear hp2 hk2
        have hcz : w.heap.size + 2 ≤ wr.heap.size := hO.lt
        have hRVd := hRV.below (Below.refl _ wr).drew
        have p4 := hO.cell 4
        simp only [List.getElem?_toArray, List.getElem?_cons_succ, List.getElem?_cons_zero] at p4
        clear hW hq2
        go_upto_region 7 with fail
        go_region_law (first
          | (go_simp; go_at_call 159; refine HN.mono ?_; rintro r w5 ⟨rfl, hT5, hf5⟩; have hO5 := Blk.ofFr (w := wr.drew) hO hf5 (by omega); have hR5 := Blk.ofFr (w := wr.drew) hR hf5 (by omega); have p5 : w5.cell? ⟨w.heap.size + 1, 4, none⟩ = some (.slice A' m' c') := Blk.cell (cs := #[.int .i64 10, .int .i64 0, .int .i64 0, .string ⟨#[]⟩, .slice A' m' c']) hO5 4; have p6 : (w5.alloc (.cells #[.int .i64 nm.k, .int .i64 nm.n, .int .i64 nm.x, .string nm.s, .slice none 0 0] 29)).cell? ⟨w.heap.size + 1, 4, none⟩ = some (.slice A' m' c') := Blk.cell (cs := #[.int .i64 10, .int .i64 0, .int .i64 0, .string ⟨#[]⟩, .slice A' m' c']) (Blk.alloc hO5 _) 4)
          | (refine step_val (u := ⟨none, 0, 0, []⟩) rfl (.tmp 33) (.tmp 36) rfl (hRVd.frg hf5 (by omega)) (by simp [Act.eval, Act.put]) rfl (by simp [Act.eval, Act.put]) (by rw [hnl]; exact LsAt.nil_ _ _) (Own.nil_ _ _) (by simp) (by omega) (Nat.le_trans hcz hf5.size) ?_; intro A3 c3 w6 h6 hb6 hg6; have hO6 := hO5.below hb6 (by omega); have p7 := hO6.cell 4; have f7 := hO6.frozen 4; simp only [List.getElem?_toArray, List.getElem?_cons_succ, List.getElem?_cons_zero] at p7; obtain ⟨hE1, hE2, hE3, hE4, hE5⟩ := el_step hT5 (hfr.drew.trans hf5) hR5 hO5 h6 hb6 hgl (.slice A3 (m' + 1) c3)))
        all_goals
          go_wp2_with (go_at_call 160; refine (HTK _ hE1).mono ?_; rintro r w7 ⟨rfl, hT7, hf7⟩)
          go_meet
          case rel => rw [Hx.out]; simp only [Hp2.out, Hk2.out]; exact ⟨m' + 1, c3, A3, es ++ [⟨none, 0, 0, []⟩], by omega, hT7, hE2.ofFr hf7 (by omega), hE3.ofFr hf7 (by omega), hE4.frg hf7 (by omega), hE5.trans hf7⟩
    case rest =>
      obtain ⟨m2, c2, A2, es2, hm2, hT2, hR2, hO2, hRV2, hfr2⟩ := hcut
      clear hT hR hO hRV hfr hfirst
      have hgw : W.heap.size ≤ w.heap.size := hW.size
      have hWc : Below W.heap.size W wc.drew := hW.trans ((hfr2.drew).below (by simpa using hWg) hgw)
      have HV := hval wc.drew (hT2.belowB (Below.refl (g + 1) wc).drew (Nat.lt_succ_self _)) hWc
      have hRVd := hRV2.below (Below.refl _ wc).drew
      have hcz : w.heap.size + 2 ≤ wc.heap.size := hO2.lt
      have p4 := hO2.cell 4
      simp only [List.getElem?_toArray, List.getElem?_cons_succ, List.getElem?_cons_zero] at p4
      clear hval
      have hk1 : IntKind.i64.wrap (d - 1) = d - 1 := by rw [IntKind.wrap_i64]; omega
      go_upto_region 9 with fail
      go_cut [] from 30 to 59 (fun w' => ∃ (t : Tr) (p' : Nat) (kc : Int) (m3 c3 : Nat) (A3 : Option Addr) (es3 : List El), m3 = m2 + 1 ∧ X.ok t p' kc ∧ TR w' g A n c l p' kc ∧ Blk w' w.heap.size 29 #[.int .i64 0, .int .i64 0, .int .i64 0, .string ⟨#[]⟩, .slice none 0 0] ∧ Blk w' (w.heap.size + 1) 29 #[.int .i64 k, .int .i64 0, .int .i64 0, .string ⟨#[]⟩, .slice A3 m3 c3] ∧ RV w' (w.heap.size + 2) A3 m3 c3 (acc2 ++ [t]) es3 ∧ Fr [g] w w')
      case first =>
        clear hst hk hW hWc
        go_region_law (first
          | (go_simp; go_at_call 89; refine HV.mono ?_; rintro r w5 ⟨t, u, p', kc, rfl, hl5, ho5, hT5, hf5, hok⟩; have hO5 := Blk.ofFr (w := wc.drew) hO2 hf5 (by omega); have hR5 := Blk.ofFr (w := wc.drew) hR2 hf5 (by omega); have p5 : w5.cell? ⟨w.heap.size + 1, 4, none⟩ = some (.slice A2 m2 c2) := Blk.cell (cs := #[.int .i64 k, .int .i64 0, .int .i64 0, .string ⟨#[]⟩, .slice A2 m2 c2]) hO5 4; have p6 : (w5.alloc (.cells #[.int .i64 t.k, .int .i64 t.n, .int .i64 t.x, .string t.s, .slice u.A u.n u.c] 29)).cell? ⟨w.heap.size + 1, 4, none⟩ = some (.slice A2 m2 c2) := Blk.cell (cs := #[.int .i64 k, .int .i64 0, .int .i64 0, .string ⟨#[]⟩, .slice A2 m2 c2]) (Blk.alloc hO5 _) 4)
          | (refine step_val rfl (.tmp 42) (.tmp 47) rfl (hRVd.frg hf5 (by omega)) (by simp [Act.eval, Act.put]) rfl (by simp [Act.eval, Act.put]) hl5 (ho5.mono hcz) (hRVd.newOwn ho5) (by omega) (Nat.le_trans hcz hf5.size) ?_; intro A3 c3 w6 h6 hb6 hg6; have hO6 := hO5.below hb6 (by omega); have p7 := hO6.cell 4; have f7 := hO6.frozen 4; simp only [List.getElem?_toArray, List.getElem?_cons_succ, List.getElem?_cons_zero] at p7; obtain ⟨hE1, hE2, hE3, hE4, hE5⟩ := el_step hT5 (hfr2.drew.trans hf5) hR5 hO5 h6 hb6 hgl (.slice A3 (m2 + 1) c3))
          )
        all_goals
          go_wp2_with fail
          go_meet
          case rel => exact ⟨t, p', kc, m2 + 1, c3, A3, es2 ++ [u], rfl, hok, hE1, hE2, hE3, hE4, hE5⟩
      case rest =>
        obtain ⟨t, p', kc, m3, c3, A3, es3, rfl, hok, hT3, hR3, hO3, hRV3, hfr3⟩ := hcut
        clear hT2 hR2 hO2 hRV2 hfr2 HV hRVd hcz p4 hWc
        have hlp := hXp t p'
        clear hXp
        cases hb : ((kc == 0) && signB l p' ⟨#[44]⟩) with
        | true =>
          obtain ⟨rfl, hpl, hXg, hst2⟩ := stepR_go (f := fq) (k := k) (sh := sh) (d := d) (acc := acc2) hok hb
          have hqp := hlp hXg
          have HP2 : Hid (pM l fq k sh d (p' + 1) (acc2 ++ [t]) = R) := Lib.hid (hst2.symm.trans hst.out)
          clear hlp hXg hst2 hst hok
          have HI := i_is g A n c l p' 0 ⟨#[44]⟩ wc hT3
          rw [hb] at HI
          clear hb
          obtain ⟨f, rfl⟩ : ∃ f, gk = f + 1 := ⟨gk - 1, by omega⟩
          obtain ⟨d0, d1, d2, d3⟩ := hT3.cells
          have f1 := hT3.blk.frozen 1
          have hwp : IntKind.i64.wrap ((p' : Int) + 1) = (p' : Int) + 1 := by rw [IntKind.wrap_i64]; omega
          go_wp2_with (go_at_call 128; refine HI.mono ?_; rintro r w5 ⟨rfl, m5, rfl⟩)
          have hT5 := (hT3.drewN m5).setAt (p' + 1)
          have R5 := (hR3.drewN m5).far (p := ⟨g, 1, none⟩) (by show w.heap.size ≠ g; omega) (.int .i64 ((p' + 1 : Nat) : Int))
          have O5 := (hO3.drewN m5).far (p := ⟨g, 1, none⟩) (by show w.heap.size + 1 ≠ g; omega) (.int .i64 ((p' + 1 : Nat) : Int))
          have f5 := (hfr3.drewN m5).setCell (p := ⟨g, 1, none⟩) (by simp) (.int .i64 ((p' + 1 : Nat) : Int))
          have V5 := hRV3.frg (g := g) (((Fr.refl [g] wc).drewN m5).setCell (p := ⟨g, 1, none⟩) (by simp) (.int .i64 ((p' + 1 : Nat) : Int))) (by omega)
          rw [show ((p' : Int) + 1) = ((p' + 1 : Nat) : Int) by omega]
          generalize (wc.drewN m5).setCell ⟨g, 1, none⟩ (.int .i64 ((p' + 1 : Nat) : Int)) = we at hT5 R5 O5 f5 V5 ⊢
          clear hT3 hR3 hO3 hRV3 hfr3 d0 d1 d2 d3 f1
          go_roundg f
          case measure => omega
          case rel => exact ⟨p' + 1, m2 + 1, c3, fq, A3, acc2 ++ [t], es3, by omega, by omega, by omega, by omega, by omega, HP2, hT5, R5, O5, V5, f5⟩
        | false =>
          have hend := stepR_end (f := fq) (k := k) (sh := sh) (d := d) (acc := acc2) hok hb
          rw [hst.out] at hend
          have hfin := closeR_ok (k := k) hend
          clear hlp hst hok hend
          have HI := i_is g A n c l p' kc ⟨#[44]⟩ wc hT3
          rw [hb] at HI
          clear hb
          have HTK := fun m => i_take g A n c l p' kc sh (wc.drewN m) (hT3.drewN m)
          generalize tkP l p' kc sh = p9 at HTK hfin
          generalize tkQ l p' kc sh = k9 at HTK hfin
          obtain ⟨fp, hls, hown, _⟩ := hRV3.list hRV3.cap.1 hRV3.cap.2
          go_wp2_with (first
            | (go_at_call 128; refine HI.mono ?_; rintro r w5 ⟨rfl, m5, rfl⟩; clear HI)
            | (go_at_call 160; refine (HTK m5).mono ?_; rintro r w7 ⟨rfl, hT7, hf7⟩; have R7 := Blk.ofFr (w := wc.drewN m5) hR3 hf7 (by omega); have O7 := Blk.ofFr (w := wc.drewN m5) hO3 hf7 (by omega); have V7 := (hRV3.below (Below.drewN_ wc m5)).frg hf7 (by omega); have b0 := O7.cell 0; have b1 := O7.cell 1; have b2 := O7.cell 2; have b3 := O7.cell 3; have b4 := O7.cell 4; simp only [List.getElem?_toArray, List.getElem?_cons_succ, List.getElem?_cons_zero] at b0 b1 b2 b3 b4; obtain ⟨x0, x1, x2, x3, x4, ⟨s0, t0⟩, ⟨s1, t1⟩, ⟨s2, t2⟩, ⟨s3, t3⟩, s4, t4⟩ := R7.five (o := 0) (by simp) (.int .i64 k) (.int .i64 0) (.int .i64 0) (.string ⟨#[]⟩)))
          obtain ⟨fp, hls, hown, _⟩ := V7.list V7.cap.1 V7.cap.2
          have hn0 : w.heap.size ∉ fp := fun hx => by have := (hown.2 _ hx).1; omega
          have hblk : Blk (set5 w7 w.heap.size 0 ⟨k, 0, 0, ⟨#[]⟩, acc2 ++ [t]⟩ ⟨A3, m2 + 1, c3, fp⟩) w.heap.size 29 _ := Blk.five_ R7 ⟨k, 0, 0, ⟨#[]⟩, acc2 ++ [t]⟩ ⟨A3, m2 + 1, c3, fp⟩
          have hTR3 := hT7.set5_ (g2 := w.heap.size) (o := 0) (t := ⟨k, 0, 0, ⟨#[]⟩, acc2 ++ [t]⟩) (e := ⟨A3, m2 + 1, c3, fp⟩) hgl
          have hfr5 : Fr [g] w (set5 w7 w.heap.size 0 ⟨k, 0, 0, ⟨#[]⟩, acc2 ++ [t]⟩ ⟨A3, m2 + 1, c3, fp⟩) := fr_new5 ((hfr3.drewN m5).trans hf7) (Nat.le_refl _)
          have hls5 := hls.set5_ (e2 := ⟨A3, m2 + 1, c3, fp⟩) (g := w.heap.size) (o := 0) (t := ⟨k, 0, 0, ⟨#[]⟩, acc2 ++ [t]⟩) hn0
          have how5 := (hown.mono (lo2 := w.heap.size) (by omega)).set5_ (g := w.heap.size) (o := 0) (t := ⟨k, 0, 0, ⟨#[]⟩, acc2 ++ [t]⟩) (e := ⟨A3, m2 + 1, c3, fp⟩) hn0
          have hres := fun (tm : Array Value) (hp : tm.getD 8 undef = .pointer (some ⟨w.heap.size, 0, none⟩)) => results_blk (P := Tryd.prog) (tmps := tm) Tryd.results129 Tryd.isAgg29 (by exact Tryd.sizeOf29) hp hblk
          refine bodyPost_ret (hres _ rfl) rfl ?_
          exact ⟨⟨k, 0, 0, ⟨#[]⟩, acc2 ++ [t]⟩, ⟨A3, m2 + 1, c3, fp⟩, p9, k9, rfl, hls5, how5, hTR3, hfr5, hfin⟩
end Go.Proofs.YticejlknbfhndaaDoor
