/- WriteText: what is written, and the program's. Written by gen/writetext.py. -/
import Derived.Test.YtgddnpglgakkdaaGreatDoorTo9FitsText
import Derived.Test.YtgddnpglgakkdaaGreatDoorTo9DecText
import Derived.Test.YtgddnpglgakkdaaGreatDoorTo9M10
set_option linter.unusedVariables false
set_option maxRecDepth 100000
set_option linter.unusedSimpArgs false
namespace Go.Proofs.YtgddnpglgakkdaaGreatDoor
open Go.RowKit

def boolL (n : Int) : List UInt8 := if n = 1 then [116, 114, 117, 101] else [102, 97, 108, 115, 101]
/-- A value without elements as text. -/
def leafL (k n x : Int) (s : ByteArray) : List UInt8 :=
  if k = 2 then boolL n else if k = 3 then numL n else if k = 6 then decTextL n x else if k = 7 then quoteL s.data.toList else [110, 117, 108, 108]
/-- What stands ahead of an element. -/
def sepW (k : Int) (i : Nat) : List UInt8 := if i = 0 then [] else if k = 10 ∧ i % 2 = 1 then [58] else [44]
def bodyG (k : Int) : Nat → List (List UInt8) → List UInt8
  | _, [] => []
  | i, a :: r => sepW k i ++ a ++ bodyG k (i + 1) r
theorem bodyG_snoc (k : Int) : ∀ (r : List (List UInt8)) (i : Nat) (a : List UInt8), bodyG k i (r ++ [a]) = bodyG k i r ++ (sepW k (i + r.length) ++ a)
  | [], i, a => by simp [bodyG]
  | b :: r, i, a => by
    have := bodyG_snoc k r (i + 1) a
    simp only [List.cons_append, bodyG, this, List.append_assoc, List.length_cons]
    rw [show i + 1 + r.length = i + (r.length + 1) by omega]
def openW (k : Int) : List UInt8 := if k = 10 then [123] else [91]
def shutW (k : Int) : List UInt8 := if k = 10 then [125] else [93]
/-- A tree as text. -/
noncomputable def writeT : Tr → List UInt8 := Tr.fold fun k n x s l ih => if k = 9 ∨ k = 10 then openW k ++ (bodyG k 0 ih ++ shutW k) else leafL k n x s
theorem writeT_eq (t : Tr) : writeT t = if t.k = 9 ∨ t.k = 10 then openW t.k ++ (bodyG t.k 0 (t.l.map writeT) ++ shutW t.k) else leafL t.k t.n t.x t.s := by
  obtain ⟨k, n, x, s, l⟩ := t
  exact Tr.fold_mk _ _ _ _ _ _
noncomputable def writes (k : Int) (l : List Tr) (j : Nat) : List UInt8 := bodyG k 0 ((l.take j).map writeT)
theorem writes_zero (k : Int) (l : List Tr) : writes k l 0 = [] := rfl
theorem writes_succ {k : Int} {l : List Tr} {j : Nat} (h : j < l.length) : writes k l (j + 1) = writes k l j ++ (sepW k j ++ writeT l[j]) := by
  unfold writes
  rw [List.take_succ_eq_append_getElem h, List.map_append, List.map_singleton, bodyG_snoc]
  simp only [List.length_map, List.length_take, Nat.zero_add]
  rw [Nat.min_eq_left (by omega)]
theorem writes_all {k : Int} {l : List Tr} {j : Nat} (h : l.length ≤ j) : writes k l j = bodyG k 0 (l.map writeT) := by unfold writes; rw [List.take_of_length_le h]
theorem sepW_len (k : Int) (i : Nat) : (sepW k i).length ≤ 1 := by unfold sepW; (repeat' split) <;> simp
theorem leafL_len {k n x : Int} {s : ByteArray} (h : -9223372036854775808 ≤ n ∧ n ≤ 9223372036854775807) : (leafL k n x s).length ≤ 64 + 80 * s.size := by
  have h1 := numL_len h
  have h2 := decTextL_len (x := x) h
  have h3 := quoteL_len s.data.toList
  rw [blen_of] at h3
  unfold leafL boolL
  (repeat' split) <;> (try simp only [List.length_cons, List.length_nil]) <;> omega
theorem bodyG_len (k : Int) : ∀ (l : List Tr) (i : Nat), (∀ u ∈ l, (writeT u).length ≤ 64 + 80 * u.sz) → (bodyG k i (l.map writeT)).length ≤ 80 * szL l
  | [], i, _ => by simp [bodyG]
  | a :: l, i, h => by
    have h1 := h a List.mem_cons_self
    have h2 := bodyG_len k l (i + 1) fun u hu => h u (List.mem_cons_of_mem _ hu)
    have h3 := sepW_len k i
    unfold szL at h2 ⊢
    simp only [List.map_cons, bodyG, List.length_append, List.length_cons, List.sum_cons]
    omega
theorem writeT_len (t : Tr) : t.wf → (writeT t).length ≤ 64 + 80 * t.sz := by
  refine Tr.ind (P := fun t => t.wf → (writeT t).length ≤ 64 + 80 * t.sz) (fun t ih hwf => ?_) t
  have hw := (Tr.wf_iff t).1 hwf
  rw [writeT_eq, t.sz_eq]
  have h1 := bodyG_len t.k t.l 0 fun u hu => ih u hu (hw.2.2.2.2 u hu)
  have h2 := leafL_len (k := t.k) (x := t.x) (s := t.s) hw.2.1
  split
  · unfold openW shutW
    simp only [List.length_append]
    (repeat' split) <;> simp only [List.length_cons, List.length_nil] <;> omega
  · omega
theorem writes_len (k : Int) {l : List Tr} (j : Nat) (h : ∀ u ∈ l, u.wf) (hj : j ≤ l.length) : (writes k l j).length ≤ 80 * (j + szT l j) := by
  have h1 := bodyG_len k (l.take j) 0 fun u hu => writeT_len u (h u (List.mem_of_mem_take hu))
  have h2 : szL (l.take j) = j + szT l j := by unfold szL szT; rw [List.length_take, Nat.min_eq_left hj]
  rw [h2] at h1
  exact h1
theorem lit1At (w : World) (g : Nat) (x : Int) (hg : w.heap.size = g) (h : 0 ≤ x ∧ x < 256) : Sl (w.alloc (.cells #[.int .u8 x] 5)) (g + 1) 1 (some ⟨g, 0, none⟩) 1 1 (u8s [UInt8.ofNat x.toNat]) := by
  subst hg; exact lit1 w x h
theorem i_boolText (n : Int) (w : World) : Calls Tryz.prog 82 #[.int .i64 n] w fun r w' => r = .returned (.string ⟨(boolL n).toArray⟩) ∧ w = w' := by
  by_cases h : n = 1
  · have e : boolL n = [116, 114, 117, 101] := by unfold boolL; rw [if_pos h]
    rw [e]
    have q : (n == 1) = true := by simpa using h
    clear e
    go_enter Tryz.func82, Tryz.ntmps82
    go_wp2_with fail
    go_ret
    exact ⟨rfl, rfl⟩
  · have e : boolL n = [102, 97, 108, 115, 101] := by unfold boolL; rw [if_neg h]
    rw [e]
    have q : (n == 1) = false := by simpa using h
    clear e
    go_enter Tryz.func82, Tryz.ntmps82
    go_wp2_with fail
    go_ret
    exact ⟨rfl, rfl⟩
set_option maxHeartbeats 2000000 in
theorem i_leafText (t : Tr) (e : El) (w : World) (hF : Fit t) (hT : TabUP w) :
    Calls Tryz.prog 52 #[trV t e] w fun r w' => r = .returned (.string ⟨(leafL t.k t.n t.x t.s).toArray⟩) ∧ Below w.heap.size w w' := by
  have hw := (Tr.wf_iff t).1 hF.1
  have hs := hF.size
  obtain ⟨k, n, x, s, l⟩ := t
  obtain ⟨hk, hn, hx, _, _⟩ := hw
  simp only at hk hn hx hs ⊢
  have kb := Below.one w (.cells (valCells ⟨k, n, x, s, l⟩ e) 33)
  have hT1 := hT.below kb
  by_cases h2 : k = 2
  · subst h2
    have e1 : leafL 2 n x s = boolL n := by unfold leafL; rw [if_pos rfl]
    rw [e1]
    clear e1
    go_enter Tryz.func52, Tryz.ntmps52
    go_wp2_with (go_at_call 82; refine (i_boolText _ _).mono ?_; rintro e w1 ⟨rfl, rfl⟩)
    go_ret
    exact ⟨rfl, kb⟩
  by_cases h3 : k = 3
  · subst h3
    have e1 : leafL 3 n x s = numL n := by unfold leafL; rw [if_neg (by decide), if_pos rfl]
    rw [e1]
    have hc := i_NumText n _ hn hT1.2
    clear e1
    go_enter Tryz.func52, Tryz.ntmps52
    go_wp2_with (go_at_call 70; refine hc.mono ?_; rintro e w1 ⟨rfl, hb⟩)
    go_ret
    exact ⟨rfl, kb.up hb⟩
  by_cases h6 : k = 6
  · subst h6
    have e1 : leafL 6 n x s = decTextL n x := by unfold leafL; rw [if_neg (by decide), if_neg (by decide), if_pos rfl]
    rw [e1]
    have hc := i_DecText n x _ hn hx hT1.2
    clear e1
    go_enter Tryz.func52, Tryz.ntmps52
    go_wp2_with (go_at_call 83; refine hc.mono ?_; rintro e w1 ⟨rfl, hb⟩)
    go_ret
    exact ⟨rfl, kb.up hb⟩
  by_cases h7 : k = 7
  · subst h7
    have e1 : leafL 7 n x s = quoteL s.data.toList := by unfold leafL; rw [if_neg (by decide), if_neg (by decide), if_neg (by decide), if_pos rfl]
    rw [e1]
    have hc := i_Quote s _ (by omega) hT1.1
    clear e1
    go_enter Tryz.func52, Tryz.ntmps52
    go_wp2_with (go_at_call 69; refine hc.mono ?_; rintro e w1 ⟨rfl, hb⟩)
    go_ret
    exact ⟨rfl, kb.up hb⟩
  · have e1 : leafL k n x s = [110, 117, 108, 108] := by unfold leafL; rw [if_neg h2, if_neg h3, if_neg h6, if_neg h7]
    rw [e1]
    have q2 : (k == 2) = false := by simpa using h2
    have q3 : (k == 3) = false := by simpa using h3
    have q6 : (k == 6) = false := by simpa using h6
    have q7 : (k == 7) = false := by simpa using h7
    clear e1 h2 h3 h6 h7
    go_enter Tryz.func52, Tryz.ntmps52
    go_wp2_with fail
    go_ret
    exact ⟨rfl, kb⟩
theorem enters_leafText : EntersF 52 := enters_of Tryz.func52 (by kernel_rfl) rfl
def WtSays (t : Tr) : Prop := ∀ (W : World) (A : Option Addr) (m c : Nat) (b : List UInt8) (e : El) (w : World), Fit t → TabUP W → Below W.heap.size W w → BS w W.heap.size A m c b → LsAt w t.l e → e.lt W.heap.size → m + 64 + 80 * t.sz ≤ 17592186044416 →
  Calls Tryz.prog 51 #[.slice A m c, trV t e, .func (.func 52) #[] #[]] w fun r w' => ∃ A' n' c', r = .returned (.slice A' n' c') ∧ BS w' W.heap.size A' n' c' (b ++ writeT t) ∧ Gr A A' w w'
set_option maxHeartbeats 4000000 in
theorem i_appendTree (t : Tr) : WtSays t := by
  refine Tr.ind (P := WtSays) (fun t ih => ?_) t
  intro W A m c b e w hF hT hW hA hl hel hm
  have hlo := hW.size
  have hw := (Tr.wf_iff t).1 hF.1
  have hfk := fun u hu => @Fit.kid t u hF hu
  have hsz := t.sz_eq
  have hwt := writeT_eq t
  obtain ⟨k, n, x, s, l⟩ := t
  obtain ⟨eA, en, ec, efp⟩ := e
  simp only at hl hw hfk hsz hwt ih
  have hen : l.length = en := hl.len
  have hbm := hA.len
  have hen9 := hF.len
  simp only [hen] at hen9
  have hgA : w.heap.size ∉ blkOf A := fun h => Nat.lt_irrefl _ (hA.to_ _ h)
  by_cases hk : k = 9 ∨ k = 10
  rotate_left
  · rw [if_neg hk] at hwt
    have q9 : (k == 9) = false := by simp; omega
    have q10 : (k == 10) = false := by simp; omega
    have HWT := Lib.hid hwt
    have hlf := fun w1 (hb : Below W.heap.size W w1) => i_leafText ⟨k, n, x, s, l⟩ ⟨eA, en, ec, efp⟩ w1 hF (hT.below hb)
    have hll := leafL_len (k := k) (x := x) (s := s) hw.2.1
    have kb := Below.one w (.cells #[.int .i64 k, .int .i64 n, .int .i64 x, .string s, .slice eA en ec] 33)
    simp only at hlf
    generalize leafL k n x s = R at hlf HWT hll
    clear hwt hk ih hfk hw hF hl hel hT
    go_enter Tryz.func51, Tryz.ntmps51
    go_wp2_with (first
      | (go_at_call 52; refine (hlf _ (hW.trans (kb.mono hlo))).mono ?_; rintro r w1 ⟨rfl, hb⟩; have hA1 := hA.below (kb.up hb); have z1 := (kb.up hb).size)
      | (at_builtin; refine app_strg rfl _ _ rfl hA1 rfl rfl (by rw [ba_sz]; omega) (Nat.le_trans hlo z1) ?_; intro A5 c5 w5 h5 hg5))
    go_ret
    rw [ba_sz] at h5
    exact ⟨_, _, _, rfl, by rw [HWT.out]; simpa using h5, (Gr.of_below (kb.up hb)).trans hg5⟩
  rw [if_pos hk] at hwt
  have HWT := Lib.hid hwt
  clear hwt
  have hww := hw.2.2.2.2
  clear hw
  rcases hk with rfl | rfl
  · have kb := Below.one w (.cells #[.int .i64 9, .int .i64 n, .int .i64 x, .string s, .slice eA en ec] 33)
    have hBv := Blk.new w 33 #[.int .i64 9, .int .i64 n, .int .i64 x, .string s, .slice eA en ec]
    have ho : openW 9 = [91] := rfl
    have hsh : shutW 9 = [93] := rfl
    rw [ho, hsh] at HWT
    clear ho hsh hF
    go_enter Tryz.func51, Tryz.ntmps51
    go_wp2_with (at_builtin; refine app_u8g rfl _ _ rfl ((hA.alloc _).alloc _) rfl (lit1At (w.alloc (.cells #[.int .i64 9, .int .i64 n, .int .i64 x, .string s, .slice eA en ec] 33)) (w.heap.size + 1) 91 (by simp) (by decide)) rfl (by omega) (by simp; omega) ?_; intro A4 c4 w4 h4 hg4; have B4 := hg4.blk (hBv.alloc _) hgA; have p4 := B4.cell 4; have g4 := (Gr.of_below (Below.two w _ _)).trans hg4; have z4 : W.heap.size ≤ w4.heap.size := Nat.le_trans hlo g4.size)
    have hnA4 : w.heap.size ∉ blkOf A4 := hg4.notin hgA (by simp <;> omega)
    go_loopg [0, 9, 10, 29, 34, 46] en (fun f v0 v9 v10 y v34 v46 wr => ∃ (j n' c' : Nat) (A' : Option Addr), j + f = en ∧ v0 = .slice A' n' c' ∧ y = .int .i64 j ∧ BS wr W.heap.size A' n' c' (b ++ [91] ++ writes 9 l j) ∧ Gr A A' w wr ∧ W.heap.size ≤ wr.heap.size ∧ Blk wr w.heap.size 33 #[.int .i64 9, .int .i64 n, .int .i64 x, .string s, .slice eA en ec] ∧ w.heap.size ∉ blkOf A')
    case atStart => exact ⟨0, _, _, A4, by omega, rfl, rfl, by rw [writes_zero, List.append_nil]; exact h4, g4, z4, B4, hnA4⟩
    case round =>
      obtain ⟨j, n', c', A', hjf, rfl, rfl, hB, hg, hz, hBx, hnA⟩ := hrel
      clear h4 hg4 g4 z4 B4 hnA4 p4
      have hk2 : Below W.heap.size w wr := hg.below hA hlo
      have hkr : Below W.heap.size W wr := hW.trans hk2
      have p0 := hBx.cell 0
      have hnl := hB.len
      simp only [List.length_append, List.length_cons, List.length_nil] at hnl
      have hwr := writes_len 9 (l := l) j hww (by omega)
      have hwl := hBx.lt
      by_cases hlt : j < en
      · obtain ⟨f, rfl⟩ : ∃ f, gk = f + 1 := ⟨gk - 1, by omega⟩
        obtain ⟨g, o, u, hj, hAe, hgm, ⟨c0, c1, c2, c3, c4⟩, hch, hsub⟩ := (hl.below hel hk2).elem hlt
        have hAe : eA = some ⟨g, o, none⟩ := hAe
        subst hAe
        have hul : u.lt W.heap.size := fun y hy => hel y (hsub y hy)
        have hz1 := szT_succ hj
        have hz2 := szT_le l (j + 1)
        have Bxx := Blk.new wr 33 (valCells l[j] u)
        have hgx : wr.heap.size ∉ blkOf A' := fun h => Nat.lt_irrefl _ (hB.to_ _ h)
        have hih := fun (A2 : Option Addr) (m2 c2 : Nat) (b2 : List UInt8) (w1 : World) (hW1 : Below W.heap.size W w1) (hA1 : BS w1 W.heap.size A2 m2 c2 b2) (hl1 : LsAt w1 l[j].l u) (hm1 : m2 + 64 + 80 * l[j].sz ≤ 17592186044416) => ih l[j] (List.getElem_mem hj) W A2 m2 c2 b2 u w1 (hfk _ (List.getElem_mem hj)) hT hW1 hA1 hl1 hul hm1
        have hws := writes_succ (k := 9) hj
        have HWS := Lib.hid hws
        have ka := Below.one wr (.cells (valCells l[j] u) 33)
        clear ih hws hl hel hfk hww hk2
        by_cases hj0 : j = 0
        · have hse : sepW 9 j = [] := by unfold sepW; rw [if_pos hj0]
          have HSE := Lib.hid hse
          have hz0 : ¬ (0 : Int) < (j : Int) := by omega
          have hm2 : (j : Int) % 2 = 0 := by omega
          have hcall := hih A' n' c' _ (wr.alloc (.cells (valCells l[j] u) 33)) (hkr.trans (ka.mono hz)) (hB.alloc _) (hch.below hul (ka.mono hz)) (by omega)
          clear hse hj0 hih
          go_wp2_with (go_at_call 51; refine hcall.mono ?_; rintro r w5 ⟨A5, n5, c5, rfl, h5, hg5⟩)
          have BV5 := hg5.blk (hBx.alloc _) hnA
          have hnA5 := hg5.notin hnA (by simp; omega)
          have hgg := (hg.trans (Gr.of_below ka)).trans hg5
          go_roundg f
          case measure => omega
          case rel => exact ⟨j + 1, n5, c5, A5, by omega, rfl, by go_num, by rw [HWS.out, HSE.out]; simpa using h5, hgg, Nat.le_trans hlo hgg.size, BV5, hnA5⟩
        · have hz0 : (0 : Int) < (j : Int) := by omega
          have hse : sepW 9 j = [44] := by unfold sepW; rw [if_neg (by omega)]; rw [if_neg (by omega)]
          have HSE := Lib.hid hse
          have kaa := Below.one (wr.alloc (.cells (valCells l[j] u) 33)) (.cells #[.int .u8 44] 5)
          clear hse
          go_wp2_with (first
            | (at_builtin; refine app_u8g rfl _ _ rfl ((hB.alloc _).alloc _) rfl (lit1At (wr.alloc (.cells (valCells l[j] u) 33)) (wr.heap.size + 1) 44 (by simp) (by decide)) rfl (by omega) (by simp; omega) ?_; intro A4 c4' w4 h4 hg4; have Bx4 := hg4.blk (Bxx.alloc _) hgx; obtain ⟨v0, v1, v2, v3, v4⟩ := Bx4.boxV; have BV4 := hg4.blk ((hBx.alloc _).alloc _) hnA; have hk4 : Below W.heap.size W w4 := (hkr.trans ((ka.up kaa).mono hz)).trans (hg4.below ((hB.alloc _).alloc _) (by simp; omega)); have hl4 := hch.below (B := W.heap.size) hul (((ka.up kaa).mono hz).trans (hg4.below ((hB.alloc _).alloc _) (by simp; omega))); have hnA4 := hg4.notin hnA (by simp; omega))
            | (go_at_call 51; refine (hih _ _ _ _ _ hk4 h4 hl4 (by omega)).mono ?_; rintro r w5 ⟨A5, n5, c5, rfl, h5, hg5⟩))
          have BV5 := hg5.blk BV4 hnA4
          have hnA5 := hg5.notin hnA4 BV4.lt
          have hgg := ((hg.trans (Gr.of_below (ka.up kaa))).trans hg4).trans hg5
          go_roundg f
          case measure => omega
          case rel => exact ⟨j + 1, n5, c5, A5, by omega, rfl, by go_num, by rw [HWS.out, HSE.out]; simpa using h5, hgg, Nat.le_trans hlo hgg.size, BV5, hnA5⟩
      · have hjn : ¬ ((j : Int) < (en : Int)) := by omega
        have hwa := writes_all (k := 9) (l := l) (j := j) (by omega)
        have HWA := Lib.hid hwa
        have hzj := szT_le l j
        clear hwa ih
        go_wp2_with (at_builtin; refine app_u8g rfl _ _ rfl (hB.alloc _) rfl (lit1At wr wr.heap.size 93 rfl (by decide)) rfl (by omega) (by simp; omega) ?_; intro A4 c4 w4 h4 hg4)
        go_ret
        exact ⟨_, _, _, rfl, by rw [HWT.out, ← HWA.out]; simpa using h4, (hg.trans (Gr.of_below (Below.one wr _))).trans hg4⟩
  · have kb := Below.one w (.cells #[.int .i64 10, .int .i64 n, .int .i64 x, .string s, .slice eA en ec] 33)
    have hBv := Blk.new w 33 #[.int .i64 10, .int .i64 n, .int .i64 x, .string s, .slice eA en ec]
    have ho : openW 10 = [123] := rfl
    have hsh : shutW 10 = [125] := rfl
    rw [ho, hsh] at HWT
    clear ho hsh hF
    go_enter Tryz.func51, Tryz.ntmps51
    go_wp2_with (at_builtin; refine app_u8g rfl _ _ rfl ((hA.alloc _).alloc _) rfl (lit1At (w.alloc (.cells #[.int .i64 10, .int .i64 n, .int .i64 x, .string s, .slice eA en ec] 33)) (w.heap.size + 1) 123 (by simp) (by decide)) rfl (by omega) (by simp; omega) ?_; intro A4 c4 w4 h4 hg4; have B4 := hg4.blk (hBv.alloc _) hgA; have p4 := B4.cell 4; have g4 := (Gr.of_below (Below.two w _ _)).trans hg4; have z4 : W.heap.size ≤ w4.heap.size := Nat.le_trans hlo g4.size)
    have hnA4 : w.heap.size ∉ blkOf A4 := hg4.notin hgA (by simp <;> omega)
    go_loopg [0, 9, 10, 29, 34, 46] en (fun f v0 v9 v10 y v34 v46 wr => ∃ (j n' c' : Nat) (A' : Option Addr), j + f = en ∧ v0 = .slice A' n' c' ∧ y = .int .i64 j ∧ BS wr W.heap.size A' n' c' (b ++ [123] ++ writes 10 l j) ∧ Gr A A' w wr ∧ W.heap.size ≤ wr.heap.size ∧ Blk wr w.heap.size 33 #[.int .i64 10, .int .i64 n, .int .i64 x, .string s, .slice eA en ec] ∧ w.heap.size ∉ blkOf A')
    case atStart => exact ⟨0, _, _, A4, by omega, rfl, rfl, by rw [writes_zero, List.append_nil]; exact h4, g4, z4, B4, hnA4⟩
    case round =>
      obtain ⟨j, n', c', A', hjf, rfl, rfl, hB, hg, hz, hBx, hnA⟩ := hrel
      clear h4 hg4 g4 z4 B4 hnA4 p4
      have hk2 : Below W.heap.size w wr := hg.below hA hlo
      have hkr : Below W.heap.size W wr := hW.trans hk2
      have p0 := hBx.cell 0
      have hnl := hB.len
      simp only [List.length_append, List.length_cons, List.length_nil] at hnl
      have hwr := writes_len 10 (l := l) j hww (by omega)
      have hwl := hBx.lt
      by_cases hlt : j < en
      · obtain ⟨f, rfl⟩ : ∃ f, gk = f + 1 := ⟨gk - 1, by omega⟩
        obtain ⟨g, o, u, hj, hAe, hgm, ⟨c0, c1, c2, c3, c4⟩, hch, hsub⟩ := (hl.below hel hk2).elem hlt
        have hAe : eA = some ⟨g, o, none⟩ := hAe
        subst hAe
        have hul : u.lt W.heap.size := fun y hy => hel y (hsub y hy)
        have hz1 := szT_succ hj
        have hz2 := szT_le l (j + 1)
        have Bxx := Blk.new wr 33 (valCells l[j] u)
        have hgx : wr.heap.size ∉ blkOf A' := fun h => Nat.lt_irrefl _ (hB.to_ _ h)
        have hih := fun (A2 : Option Addr) (m2 c2 : Nat) (b2 : List UInt8) (w1 : World) (hW1 : Below W.heap.size W w1) (hA1 : BS w1 W.heap.size A2 m2 c2 b2) (hl1 : LsAt w1 l[j].l u) (hm1 : m2 + 64 + 80 * l[j].sz ≤ 17592186044416) => ih l[j] (List.getElem_mem hj) W A2 m2 c2 b2 u w1 (hfk _ (List.getElem_mem hj)) hT hW1 hA1 hl1 hul hm1
        have hws := writes_succ (k := 10) hj
        have HWS := Lib.hid hws
        have ka := Below.one wr (.cells (valCells l[j] u) 33)
        clear ih hws hl hel hfk hww hk2
        by_cases hj0 : j = 0
        · have hse : sepW 10 j = [] := by unfold sepW; rw [if_pos hj0]
          have HSE := Lib.hid hse
          have hz0 : ¬ (0 : Int) < (j : Int) := by omega
          have hm2 : (j : Int) % 2 = 0 := by omega
          have hcall := hih A' n' c' _ (wr.alloc (.cells (valCells l[j] u) 33)) (hkr.trans (ka.mono hz)) (hB.alloc _) (hch.below hul (ka.mono hz)) (by omega)
          clear hse hj0 hih
          go_wp2_with (go_at_call 51; refine hcall.mono ?_; rintro r w5 ⟨A5, n5, c5, rfl, h5, hg5⟩)
          have BV5 := hg5.blk (hBx.alloc _) hnA
          have hnA5 := hg5.notin hnA (by simp; omega)
          have hgg := (hg.trans (Gr.of_below ka)).trans hg5
          go_roundg f
          case measure => omega
          case rel => exact ⟨j + 1, n5, c5, A5, by omega, rfl, by go_num, by rw [HWS.out, HSE.out]; simpa using h5, hgg, Nat.le_trans hlo hgg.size, BV5, hnA5⟩
        by_cases hodd : j % 2 = 1
        · have hm2 : (j : Int) % 2 = 1 := by omega
          have hse : sepW 10 j = [58] := by unfold sepW; rw [if_neg (by omega)]; rw [if_pos ⟨rfl, by omega⟩]
          have HSE := Lib.hid hse
          have kaa := Below.one (wr.alloc (.cells (valCells l[j] u) 33)) (.cells #[.int .u8 58] 5)
          clear hse
          go_wp2_with (first
            | (at_builtin; refine app_u8g rfl _ _ rfl ((hB.alloc _).alloc _) rfl (lit1At (wr.alloc (.cells (valCells l[j] u) 33)) (wr.heap.size + 1) 58 (by simp) (by decide)) rfl (by omega) (by simp; omega) ?_; intro A4 c4' w4 h4 hg4; have Bx4 := hg4.blk (Bxx.alloc _) hgx; obtain ⟨v0, v1, v2, v3, v4⟩ := Bx4.boxV; have BV4 := hg4.blk ((hBx.alloc _).alloc _) hnA; have hk4 : Below W.heap.size W w4 := (hkr.trans ((ka.up kaa).mono hz)).trans (hg4.below ((hB.alloc _).alloc _) (by simp; omega)); have hl4 := hch.below (B := W.heap.size) hul (((ka.up kaa).mono hz).trans (hg4.below ((hB.alloc _).alloc _) (by simp; omega))); have hnA4 := hg4.notin hnA (by simp; omega))
            | (go_at_call 51; refine (hih _ _ _ _ _ hk4 h4 hl4 (by omega)).mono ?_; rintro r w5 ⟨A5, n5, c5, rfl, h5, hg5⟩))
          have BV5 := hg5.blk BV4 hnA4
          have hnA5 := hg5.notin hnA4 BV4.lt
          have hgg := ((hg.trans (Gr.of_below (ka.up kaa))).trans hg4).trans hg5
          go_roundg f
          case measure => omega
          case rel => exact ⟨j + 1, n5, c5, A5, by omega, rfl, by go_num, by rw [HWS.out, HSE.out]; simpa using h5, hgg, Nat.le_trans hlo hgg.size, BV5, hnA5⟩
        · have hz0 : (0 : Int) < (j : Int) := by omega
          have hm2 : (j : Int) % 2 = 0 := by omega
          have hse : sepW 10 j = [44] := by unfold sepW; rw [if_neg (by omega)]; rw [if_neg (by omega)]
          have HSE := Lib.hid hse
          have kaa := Below.one (wr.alloc (.cells (valCells l[j] u) 33)) (.cells #[.int .u8 44] 5)
          clear hse
          go_wp2_with (first
            | (at_builtin; refine app_u8g rfl _ _ rfl ((hB.alloc _).alloc _) rfl (lit1At (wr.alloc (.cells (valCells l[j] u) 33)) (wr.heap.size + 1) 44 (by simp) (by decide)) rfl (by omega) (by simp; omega) ?_; intro A4 c4' w4 h4 hg4; have Bx4 := hg4.blk (Bxx.alloc _) hgx; obtain ⟨v0, v1, v2, v3, v4⟩ := Bx4.boxV; have BV4 := hg4.blk ((hBx.alloc _).alloc _) hnA; have hk4 : Below W.heap.size W w4 := (hkr.trans ((ka.up kaa).mono hz)).trans (hg4.below ((hB.alloc _).alloc _) (by simp; omega)); have hl4 := hch.below (B := W.heap.size) hul (((ka.up kaa).mono hz).trans (hg4.below ((hB.alloc _).alloc _) (by simp; omega))); have hnA4 := hg4.notin hnA (by simp; omega))
            | (go_at_call 51; refine (hih _ _ _ _ _ hk4 h4 hl4 (by omega)).mono ?_; rintro r w5 ⟨A5, n5, c5, rfl, h5, hg5⟩))
          have BV5 := hg5.blk BV4 hnA4
          have hnA5 := hg5.notin hnA4 BV4.lt
          have hgg := ((hg.trans (Gr.of_below (ka.up kaa))).trans hg4).trans hg5
          go_roundg f
          case measure => omega
          case rel => exact ⟨j + 1, n5, c5, A5, by omega, rfl, by go_num, by rw [HWS.out, HSE.out]; simpa using h5, hgg, Nat.le_trans hlo hgg.size, BV5, hnA5⟩
      · have hjn : ¬ ((j : Int) < (en : Int)) := by omega
        have hwa := writes_all (k := 10) (l := l) (j := j) (by omega)
        have HWA := Lib.hid hwa
        have hzj := szT_le l j
        clear hwa ih
        go_wp2_with (at_builtin; refine app_u8g rfl _ _ rfl (hB.alloc _) rfl (lit1At wr wr.heap.size 125 rfl (by decide)) rfl (by omega) (by simp; omega) ?_; intro A4 c4 w4 h4 hg4)
        go_ret
        exact ⟨_, _, _, rfl, by rw [HWT.out, ← HWA.out]; simpa using h4, (hg.trans (Gr.of_below (Below.one wr _))).trans hg4⟩
end Go.Proofs.YtgddnpglgakkdaaGreatDoor
