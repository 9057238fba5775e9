/- The packer: elements, value; PackTight, OpenUp, LooseTight. -/
import Derived.Test.YtmnlkedacnemcaaGreatDoorTwM14
import Derived.Test.YtmnlkedacnemcaaGreatDoorTwMarkVal
set_option linter.unusedVariables false
set_option maxRecDepth 100000
set_option linter.unusedSimpArgs false
namespace Go.Proofs.YtmnlkedacnemcaaGreatDoor
open Go.RowKit

def elemP (wd op : Bool) (mj n : Int) (kids : List UInt8) : List UInt8 := if op = true ∧ mj ≠ 6 then headP wd mj 0 (-1) ++ kids ++ [255] else numP wd mj n ++ kids
def tightGo (wd op : Bool) (k n x : Int) (s : ByteArray) (m : Nat) (ih : List (List UInt8)) : List UInt8 :=
  if k = 3 then (if inR n (-1000000000000000) 1000000000000000 = true then (if n < 0 then numP wd 1 (-1 - n) else numP wd 0 n) else [])
  else if k = 8 then textP wd op 2 s else if k = 7 then textP wd op 3 s
  else if k = 9 then elemP wd op 4 m ih.flatten else if k = 10 then elemP wd op 5 ((m : Int) / 2) ih.flatten
  else if k = 11 then (if inR n 0 1000000000000000 = true then elemP wd op 6 n ih.flatten else [])
  else if k = 2 then headP wd 7 (if n = 1 then 21 else 20) 0 else if k = 1 then headP wd 7 22 0
  else if k = 5 then (if inR n 0 2 = true then headP wd 7 (32 + n) 1 else []) else if k = 4 then headP wd 7 (fltBits n x) 4 else []
noncomputable def tightT (wd op : Bool) : Tr → List UInt8 := Tr.fold fun k n x s l ih => tightGo wd op k n x s l.length ih
noncomputable def tights (wd op : Bool) (l : List Tr) (j : Nat) : List UInt8 := ((l.take j).map (tightT wd op)).flatten
theorem tightT_eq (wd op : Bool) (t : Tr) : tightT wd op t = tightGo wd op t.k t.n t.x t.s t.l.length (t.l.map (tightT wd op)) := by
  obtain ⟨k, n, x, s, l⟩ := t
  exact Tr.fold_mk _ _ _ _ _ _
theorem tights_zero (wd op : Bool) (l : List Tr) : tights wd op l 0 = [] := rfl
theorem tights_succ {wd op : Bool} {l : List Tr} {j : Nat} (h : j < l.length) : tights wd op l (j + 1) = tights wd op l j ++ tightT wd op l[j] := by
  unfold tights
  rw [List.take_succ_eq_append_getElem h, List.map_append, List.flatten_append]; simp
theorem tights_all {wd op : Bool} {l : List Tr} {j : Nat} (h : l.length ≤ j) : tights wd op l j = (l.map (tightT wd op)).flatten := by unfold tights; rw [List.take_of_length_le h]
theorem flat20 {l : List Tr} (f : Tr → List UInt8) (h : ∀ u ∈ l, (f u).length ≤ 20 + 20 * u.sz) : ((l.map f).flatten).length ≤ 20 * szL l := by
  unfold szL
  induction l with
  | nil => simp
  | cons t l ih =>
    have h1 := h t List.mem_cons_self
    have h2 := ih fun u hu => h u (List.mem_cons_of_mem _ hu)
    simp only [List.map_cons, List.flatten_cons, List.length_append, List.length_cons, List.sum_cons]
    omega
theorem textP_len (wd op : Bool) (mj : Int) (s : ByteArray) : (textP wd op mj s).length ≤ 19 + s.size := by
  unfold textP
  have h1 := headP_len wd mj 0 (-1)
  have h2 := numP_len wd mj s.size
  have h3 := ba_len s
  (repeat' split) <;> simp only [List.length_append, List.length_singleton] <;> omega
theorem elemP_len (wd op : Bool) (mj n : Int) (k : List UInt8) : (elemP wd op mj n k).length ≤ 10 + k.length := by
  unfold elemP
  have h1 := headP_len wd mj 0 (-1)
  have h2 := numP_len wd mj n
  (repeat' split) <;> simp only [List.length_append, List.length_singleton] <;> omega
theorem tightT_len (wd op : Bool) (t : Tr) : (tightT wd op t).length ≤ 20 + 20 * t.sz := by
  refine Tr.ind (P := fun t => (tightT wd op t).length ≤ 20 + 20 * t.sz) (fun t ih => ?_) t
  rw [tightT_eq, t.sz_eq]
  have h1 := flat20 (tightT wd op) ih
  have h2 := fun mj n => elemP_len wd op mj n (t.l.map (tightT wd op)).flatten
  have h3 := fun mj => textP_len wd op mj t.s
  have h4 := fun mj n => numP_len wd mj n
  have h5 := fun mj n v => headP_len wd mj n v
  unfold tightGo
  (repeat' split) <;> first | (simp; done) | exact Nat.le_trans (h4 _ _) (by omega) | exact Nat.le_trans (h5 _ _ _) (by omega) | exact Nat.le_trans (h3 _) (by omega) | exact Nat.le_trans (h2 _ _) (by omega)
theorem szL_take2 (l : List Tr) (j : Nat) (h : j ≤ l.length) : szL (l.take j) = j + szT l j := by
  unfold szL szT; rw [List.length_take, Nat.min_eq_left h]
theorem tights_len (wd op : Bool) (l : List Tr) (j : Nat) : (tights wd op l j).length ≤ 20 * szL (l.take j) := flat20 _ fun u _ => tightT_len wd op u
theorem box5 {w : World} {g : Nat} {T : TypeId} {a b c d e : Value} (h : Blk w g T #[a, b, c, d, e]) :
    w.cell? ⟨g, 0, none⟩ = some a ∧ w.cell? ⟨g, 1, none⟩ = some b ∧ w.cell? ⟨g, 2, none⟩ = some c ∧ w.cell? ⟨g, 3, none⟩ = some d ∧ w.cell? ⟨g, 4, none⟩ = some e := ⟨h.cell 0, h.cell 1, h.cell 2, h.cell 3, h.cell 4⟩
def VSays (t : Tr) : Prop := ∀ (g : Nat) (A : Option Addr) (m c : Nat) (b : List UInt8) (wd op : Bool) (e : El) (w : World), t.wf → Pk w g A m c b wd op → LsAt w t.l e → e.lt g → m + 20 + 20 * t.sz ≤ 34359738368 →
  Calls Tryz.prog 40 #[.pointer (some ⟨g, 0, none⟩), trV t e] w fun r w' => ∃ A' n' c', r = .returned (.tuple #[]) ∧ Pk w' g A' n' c' (b ++ tightT wd op t) wd op ∧ GP g A A' w w'
set_option maxHeartbeats 1600000 in
theorem i_elements (l : List Tr) (ih : ∀ u ∈ l, VSays u) (hwf : ∀ u ∈ l, u.wf) (g : Nat) (A : Option Addr) (m c : Nat) (b : List UInt8) (wd op : Bool) (mj n : Int) (e : El) (w : World) (h : Pk w g A m c b wd op) (hl : LsAt w l e) (hel : e.lt g) (hn : n ≤ 9223372036854775807) (hm : m + 20 + 20 * szL l ≤ 34359738368) :
    Calls Tryz.prog 59 #[.pointer (some ⟨g, 0, none⟩), .int .i64 mj, .int .i64 n, .slice e.A e.n e.c] w fun r w' => ∃ A' n' c', r = .returned (.tuple #[]) ∧ Pk w' g A' n' c' (b ++ elemP wd op mj n (l.map (tightT wd op)).flatten) wd op ∧ GP g A A' w w' := by
  obtain ⟨eA, en, ec, efp⟩ := e
  have hen : l.length = en := hl.len
  have hlen := h.own.len
  have hl9 := numP_len wd mj n
  have hh9 := headP_len wd mj 0 (-1)
  have hec : en ≤ ec ∧ ec ≤ maxLen := ⟨((lsAt_iff _ _).1 hl).2.1, ((lsAt_iff _ _).1 hl).2.2.1⟩
  have hsz := szT_le l 0
  have g0 := GP.refl g A w
  obtain ⟨q0, q1, q2, q3⟩ := h.cells
  by_cases hop : op = true ∧ mj ≠ 6
  · have HP := Lib.hid (show elemP wd op mj n (l.map (tightT wd op)).flatten = headP wd mj 0 (-1) ++ (l.map (tightT wd op)).flatten ++ [255] from if_pos hop)
    obtain ⟨rfl, h6⟩ := hop
    have h6 : (mj != 6) = true := by simpa using h6
    go_enter Tryz.func59, Tryz.ntmps59
    go_wp2_with (go_at_call 60; refine (i_head g _ _ _ _ _ _ mj 0 (-1) _ h (by omega) (by omega)).mono ?_; rintro r w1 ⟨A1, n1, c1, rfl, h1, hg1⟩; have g1 := g0.trans hg1; have l1 := h1.own.len; simp only [List.length_append] at l1; obtain ⟨q0, q1, q2, q3⟩ := h1.cells)
    have hl0 := GP.below g1 h
    go_loopg [30] en (fun f y wr => ∃ (j n' c' : Nat) (A' : Option Addr), j + f = en ∧ y = .int .i64 j ∧ Pk wr g A' n' c' (b ++ headP wd mj 0 (-1) ++ tights wd true l j) wd true ∧ GP g A A' w wr)
    case atStart => exact ⟨0, _, _, A1, by omega, rfl, by rw [tights_zero, List.append_nil]; exact h1, g1⟩
    case round =>
      obtain ⟨j, n', c', A', hjf, rfl, hP, hG⟩ := hrel
      by_cases hlt : j < en
      · obtain ⟨f, rfl⟩ : ∃ f, gk = f + 1 := ⟨gk - 1, by omega⟩
        have hkr : Below g w wr := hG.below h
        obtain ⟨g2, o, u, hj, hAe, hgm, ⟨c0, c1, c2, c3, c4⟩, hch, hsub⟩ := (hl.below hel hkr).elem hlt
        have hAe : eA = some ⟨g2, o, none⟩ := hAe
        subst hAe
        have hul : u.lt g := fun x hx => hel x (hsub x hx)
        have hnl := hP.own.len
        simp only [List.length_append] at hnl
        have hpl := tights_len wd true l j
        rw [szL_take2 l j (by omega)] at hpl
        have hz1 := szT_succ hj
        have hz2 := szT_le l (j + 1)
        have hih := fun (o : Obj) => ih l[j] (List.getElem_mem hj) g A' n' c' _ wd true u (wr.alloc o) (hwf _ (List.getElem_mem hj)) (hP.alloc o) (hch.below hul ((Below.one wr o).mono (Nat.le_of_lt hP.lt))) hul (by omega)
        clear ih hwf hch q0 q1 q2 q3 hP
        go_wp2_with (go_at_call 40; refine (hih _).mono ?_; rintro r w5 ⟨A5, n5, c5, rfl, h5, hg5⟩)
        clear hih
        go_roundg f
        case measure => omega
        case rel => exact ⟨j + 1, n5, c5, A5, by omega, by go_num, by rw [tights_succ hj, ← List.append_assoc]; exact h5, (hG.trans (GP.of_below (Below.one wr _))).trans hg5⟩
      · obtain rfl : j = en := by omega
        clear q0 q1 q2 q3
        obtain ⟨q0, q1, q2, q3⟩ := hP.cells
        have lP := hP.own.len
        simp only [List.length_append] at lP
        have hpl := tights_len wd true l j
        rw [szL_take2 l j (by omega)] at hpl
        have hz2 := szT_le l j
        go_wp2_with (at_builtin; refine app_u8g rfl _ _ rfl (hP.own.alloc _) rfl (lit1g _ _ (by first | rfl | exact size_setCell _ _ _) _ (by decide)) rfl (by omega) (Nat.le_trans hP.lt (Below.one _ _).size) ?_; intro A9 c9 w9 h9 hg9; have B9 := hg9.blk (hP.blk.alloc _) hP.notin; have g9 := (hG.trans (GP.of_below (Below.one _ _))).trans (GP.of_gr hg9); obtain ⟨q0, q1, q2, q3⟩ := pk_cells B9)
        refine bodyPost_end (results_none Tryz.results59 _ _ _) rfl ?_
        obtain ⟨r1, r2⟩ := Pk.put2 B9 h9 g9
        have r3 : Pk _ g _ _ _ (b ++ headP wd mj 0 (-1) ++ tights wd true l j ++ [255]) wd true := r1
        exact ⟨_, _, _, rfl, by rw [HP.out, ← tights_all (l := l) (j := j) (by omega)]; simpa only [List.append_assoc] using r3, r2⟩
  · have HP := Lib.hid (show elemP wd op mj n (l.map (tightT wd op)).flatten = numP wd mj n ++ (l.map (tightT wd op)).flatten from if_neg hop)
    have hop2 : op = false ∨ (op = true ∧ (mj != 6) = false) := by
      cases op
      · exact .inl rfl
      · right
        refine ⟨rfl, ?_⟩
        cases hq : (mj != 6)
        · rfl
        · exact absurd ⟨rfl, by simpa using hq⟩ hop
    clear hop
    rcases hop2 with hop2 | ⟨hop2, h6⟩
    all_goals
      go_enter Tryz.func59, Tryz.ntmps59
      go_wp2_with (go_at_call 57; refine (i_number g _ _ _ _ _ _ mj n _ h (by omega) (by omega)).mono ?_; rintro r w1 ⟨A1, n1, c1, rfl, h1, hg1⟩; have g1 := g0.trans hg1; have l1 := h1.own.len; simp only [List.length_append] at l1; obtain ⟨q0, q1, q2, q3⟩ := h1.cells)
      have hl0 := GP.below g1 h
      go_loopg [30] en (fun f y wr => ∃ (j n' c' : Nat) (A' : Option Addr), j + f = en ∧ y = .int .i64 j ∧ Pk wr g A' n' c' (b ++ numP wd mj n ++ tights wd op l j) wd op ∧ GP g A A' w wr)
      case atStart => exact ⟨0, _, _, A1, by omega, rfl, by rw [tights_zero, List.append_nil]; exact h1, g1⟩
      case round =>
        obtain ⟨j, n', c', A', hjf, rfl, hP, hG⟩ := hrel
        by_cases hlt : j < en
        · obtain ⟨f, rfl⟩ : ∃ f, gk = f + 1 := ⟨gk - 1, by omega⟩
          have hkr : Below g w wr := hG.below h
          obtain ⟨g2, o, u, hj, hAe, hgm, ⟨c0, c1, c2, c3, c4⟩, hch, hsub⟩ := (hl.below hel hkr).elem hlt
          have hAe : eA = some ⟨g2, o, none⟩ := hAe
          subst hAe
          have hul : u.lt g := fun x hx => hel x (hsub x hx)
          have hnl := hP.own.len
          simp only [List.length_append] at hnl
          have hpl := tights_len wd op l j
          rw [szL_take2 l j (by omega)] at hpl
          have hz1 := szT_succ hj
          have hz2 := szT_le l (j + 1)
          have hih := fun (o : Obj) => ih l[j] (List.getElem_mem hj) g A' n' c' _ wd op u (wr.alloc o) (hwf _ (List.getElem_mem hj)) (hP.alloc o) (hch.below hul ((Below.one wr o).mono (Nat.le_of_lt hP.lt))) hul (by omega)
          clear ih hwf hch q0 q1 q2 q3 hP
          go_wp2_with (go_at_call 40; refine (hih _).mono ?_; rintro r w5 ⟨A5, n5, c5, rfl, h5, hg5⟩)
          clear hih
          go_roundg f
          case measure => omega
          case rel => exact ⟨j + 1, n5, c5, A5, by omega, by go_num, by rw [tights_succ hj, ← List.append_assoc]; exact h5, (hG.trans (GP.of_below (Below.one wr _))).trans hg5⟩
        · obtain rfl : j = en := by omega
          clear q0 q1 q2 q3
          obtain ⟨q0, q1, q2, q3⟩ := hP.cells
          have lP := hP.own.len
          simp only [List.length_append] at lP
          have hpl := tights_len wd op l j
          rw [szL_take2 l j (by omega)] at hpl
          have hz2 := szT_le l j
          go_wp2_with fail
          refine bodyPost_end (results_none Tryz.results59 _ _ _) rfl ?_
          exact ⟨_, _, _, rfl, by rw [HP.out, ← tights_all (l := l) (j := j) (by omega), ← List.append_assoc]; exact hP, hG⟩

theorem i_flag (b : Bool) (w : World) : Calls Tryz.prog 61 #[.bool b] w fun e w' => e = .returned (.int .i64 (if b = true then 1 else 0)) ∧ w = w' := by
  cases b
  all_goals
    go_enter Tryz.func61, Tryz.ntmps61
    go_wp2_with fail
    go_ret
    exact ⟨rfl, rfl⟩
set_option maxHeartbeats 1600000 in
theorem i_value (t : Tr) : VSays t := by
  refine Tr.ind (P := VSays) (fun t ih => ?_) t
  intro g A m c b wd op e w hwf h hl hel hm
  have hw := (Tr.wf_iff t).1 hwf
  have hq := tightT_eq wd op t
  have hsz := t.sz_eq
  obtain ⟨k, n, x, s, l⟩ := t
  obtain ⟨eA, en, ec, efp⟩ := e
  simp only at hw hq hsz ih hl
  have hen : l.length = en := hl.len
  have hss : s.size ≤ 34359738368 := by omega
  have hszl := szT_le l 0
  have hww := hw.2.2.2.2
  have hn9 := hw.2.1
  have hx9 := hw.2.2.1
  have h0 := h.alloc (.cells #[.int .i64 k, .int .i64 n, .int .i64 x, .string s, .slice eA en ec] 26)
  have k0 : GP g A A w (w.alloc (.cells #[.int .i64 k, .int .i64 n, .int .i64 x, .string s, .slice eA en ec] 26)) := GP.of_below (Below.one w _)
  have hl0 := hl.below hel ((Below.one w (.cells #[.int .i64 k, .int .i64 n, .int .i64 x, .string s, .slice eA en ec] 26)).mono (Nat.le_of_lt h.lt))
  have hcut : True := trivial
  rw [hq]
  clear hw hq hwf
  by_cases h3 : k = 3
  · subst h3
    by_cases hr : -1000000000000000 ≤ n ∧ n ≤ 1000000000000000
    · have hb := inR_yes hr.1 hr.2
      by_cases hn : n < 0
      · have HP := Lib.hid (show tightGo wd op 3 n x s l.length (l.map (tightT wd op)) = numP wd 1 (-1 - n) from by unfold tightGo; rw [if_pos rfl, if_pos hb, if_pos hn])
        clear hcut
        go_enter Tryz.func40, Tryz.ntmps40
        go_wp2_with (first | (go_at_call 56; refine (i_within _ _ _ _).mono ?_; rintro e w' ⟨rfl, rfl⟩) | (go_at_call 57; refine (i_number g _ _ _ _ _ _ 1 (-1 - n) _ h0 (by omega) (by omega)).mono ?_; rintro r w1 ⟨A1, n1, c1, rfl, h1, hg1⟩))
        refine bodyPost_end (results_none Tryz.results40 _ _ _) rfl ?_
        exact ⟨_, _, _, rfl, by rw [HP.out]; exact h1, k0.trans hg1⟩
      · have HP := Lib.hid (show tightGo wd op 3 n x s l.length (l.map (tightT wd op)) = numP wd 0 n from by unfold tightGo; rw [if_pos rfl, if_pos hb, if_neg hn])
        clear hcut
        go_enter Tryz.func40, Tryz.ntmps40
        go_wp2_with (first | (go_at_call 56; refine (i_within _ _ _ _).mono ?_; rintro e w' ⟨rfl, rfl⟩) | (go_at_call 57; refine (i_number g _ _ _ _ _ _ 0 n _ h0 (by omega) (by omega)).mono ?_; rintro r w1 ⟨A1, n1, c1, rfl, h1, hg1⟩))
        refine bodyPost_end (results_none Tryz.results40 _ _ _) rfl ?_
        exact ⟨_, _, _, rfl, by rw [HP.out]; exact h1, k0.trans hg1⟩
    · have hb : inR n (-1000000000000000) 1000000000000000 = false := inR_no (by omega)
      have HP := Lib.hid (show tightGo wd op 3 n x s l.length (l.map (tightT wd op)) = [] from by unfold tightGo; rw [if_pos rfl, if_neg (by rw [hb]; decide)])
      clear hcut
      go_enter Tryz.func40, Tryz.ntmps40
      go_wp2_with (go_at_call 56; refine (i_within _ _ _ _).mono ?_; rintro e w' ⟨rfl, rfl⟩)
      first | refine bodyPost_end (results_none Tryz.results40 _ _ _) rfl ?_ | refine bodyPost_ret (results_none Tryz.results40 _ _ _) rfl ?_
      exact ⟨_, _, _, rfl, by rw [HP.out, List.append_nil]; exact h0, k0⟩
  by_cases h8 : k = 8
  · subst h8
    have HP := Lib.hid (show tightGo wd op 8 n x s l.length (l.map (tightT wd op)) = textP wd op 2 s from rfl)
    clear hcut
    go_enter Tryz.func40, Tryz.ntmps40
    go_wp2_with (first | (go_at_call 56; refine (i_within _ _ _ _).mono ?_; rintro e w' ⟨rfl, rfl⟩) | (go_at_call 58; refine (i_text g _ _ _ _ _ _ 2 s _ h0 (by omega) (by omega)).mono ?_; rintro r w1 ⟨A1, n1, c1, rfl, h1, hg1⟩))
    refine bodyPost_end (results_none Tryz.results40 _ _ _) rfl ?_
    exact ⟨_, _, _, rfl, by rw [HP.out]; exact h1, k0.trans hg1⟩
  by_cases h7 : k = 7
  · subst h7
    have HP := Lib.hid (show tightGo wd op 7 n x s l.length (l.map (tightT wd op)) = textP wd op 3 s from rfl)
    clear hcut
    go_enter Tryz.func40, Tryz.ntmps40
    go_wp2_with (first | (go_at_call 56; refine (i_within _ _ _ _).mono ?_; rintro e w' ⟨rfl, rfl⟩) | (go_at_call 58; refine (i_text g _ _ _ _ _ _ 3 s _ h0 (by omega) (by omega)).mono ?_; rintro r w1 ⟨A1, n1, c1, rfl, h1, hg1⟩))
    refine bodyPost_end (results_none Tryz.results40 _ _ _) rfl ?_
    exact ⟨_, _, _, rfl, by rw [HP.out]; exact h1, k0.trans hg1⟩
  by_cases h9 : k = 9
  · subst h9
    have HP := Lib.hid (show tightGo wd op 9 n x s l.length (l.map (tightT wd op)) = elemP wd op 4 (en : Int) (l.map (tightT wd op)).flatten from by rw [← hen]; rfl)
    clear hcut
    go_enter Tryz.func40, Tryz.ntmps40
    go_wp2_with (first | (go_at_call 56; refine (i_within _ _ _ _).mono ?_; rintro e w' ⟨rfl, rfl⟩) | (go_at_call 59; refine (i_elements l ih hww g _ _ _ _ _ _ 4 (en : Int) ⟨eA, en, ec, efp⟩ _ h0 hl0 hel (by omega) (by omega)).mono ?_; rintro r w1 ⟨A1, n1, c1, rfl, h1, hg1⟩))
    refine bodyPost_end (results_none Tryz.results40 _ _ _) rfl ?_
    exact ⟨_, _, _, rfl, by rw [HP.out]; exact h1, k0.trans hg1⟩
  by_cases h10 : k = 10
  · subst h10
    have HP := Lib.hid (show tightGo wd op 10 n x s l.length (l.map (tightT wd op)) = elemP wd op 5 ((en : Int) / 2) (l.map (tightT wd op)).flatten from by rw [← hen]; rfl)
    clear hcut
    go_enter Tryz.func40, Tryz.ntmps40
    go_wp2_with (first | (go_at_call 56; refine (i_within _ _ _ _).mono ?_; rintro e w' ⟨rfl, rfl⟩) | (go_at_call 59; refine (i_elements l ih hww g _ _ _ _ _ _ 5 ((en : Int) / 2) ⟨eA, en, ec, efp⟩ _ h0 hl0 hel (by omega) (by omega)).mono ?_; rintro r w1 ⟨A1, n1, c1, rfl, h1, hg1⟩))
    refine bodyPost_end (results_none Tryz.results40 _ _ _) rfl ?_
    exact ⟨_, _, _, rfl, by rw [HP.out]; exact h1, k0.trans hg1⟩
  by_cases h11 : k = 11
  · subst h11
    by_cases hr : 0 ≤ n ∧ n ≤ 1000000000000000
    · have hb := inR_yes hr.1 hr.2
      have HP := Lib.hid (show tightGo wd op 11 n x s l.length (l.map (tightT wd op)) = elemP wd op 6 n (l.map (tightT wd op)).flatten from by rw [show tightGo wd op 11 n x s l.length (l.map (tightT wd op)) = (if inR n 0 1000000000000000 = true then elemP wd op 6 n (l.map (tightT wd op)).flatten else []) from rfl, if_pos hb])
      clear hcut
      go_enter Tryz.func40, Tryz.ntmps40
      go_wp2_with (first | (go_at_call 56; refine (i_within _ _ _ _).mono ?_; rintro e w' ⟨rfl, rfl⟩) | (go_at_call 59; refine (i_elements l ih hww g _ _ _ _ _ _ 6 n ⟨eA, en, ec, efp⟩ _ h0 hl0 hel (by omega) (by omega)).mono ?_; rintro r w1 ⟨A1, n1, c1, rfl, h1, hg1⟩))
      refine bodyPost_end (results_none Tryz.results40 _ _ _) rfl ?_
      exact ⟨_, _, _, rfl, by rw [HP.out]; exact h1, k0.trans hg1⟩
    · have hb : inR n 0 1000000000000000 = false := inR_no (by omega)
      have HP := Lib.hid (show tightGo wd op 11 n x s l.length (l.map (tightT wd op)) = [] from by rw [show tightGo wd op 11 n x s l.length (l.map (tightT wd op)) = (if inR n 0 1000000000000000 = true then elemP wd op 6 n (l.map (tightT wd op)).flatten else []) from rfl, if_neg (by rw [hb]; decide)])
      clear hcut
      go_enter Tryz.func40, Tryz.ntmps40
      go_wp2_with (go_at_call 56; refine (i_within _ _ _ _).mono ?_; rintro e w' ⟨rfl, rfl⟩)
      first | refine bodyPost_end (results_none Tryz.results40 _ _ _) rfl ?_ | refine bodyPost_ret (results_none Tryz.results40 _ _ _) rfl ?_
      exact ⟨_, _, _, rfl, by rw [HP.out, List.append_nil]; exact h0, k0⟩
  by_cases h2 : k = 2
  · subst h2
    by_cases hn : n = 1
    · subst hn
      have HP := Lib.hid (show tightGo wd op 2 1 x s l.length (l.map (tightT wd op)) = headP wd 7 21 0 from rfl)
      clear hcut
      go_enter Tryz.func40, Tryz.ntmps40
      go_wp2_with (first | (go_at_call 56; refine (i_within _ _ _ _).mono ?_; rintro e w' ⟨rfl, rfl⟩) | (go_at_call 61; refine (i_flag _ _).mono ?_; rintro r w' ⟨rfl, rfl⟩) | (go_at_call 60; refine (i_head g _ _ _ _ _ _ 7 21 0 _ h0 (by omega) (by omega)).mono ?_; rintro r w1 ⟨A1, n1, c1, rfl, h1, hg1⟩))
      refine bodyPost_end (results_none Tryz.results40 _ _ _) rfl ?_
      exact ⟨_, _, _, rfl, by rw [HP.out]; exact h1, k0.trans hg1⟩
    · have hb : (n == 1) = false := by simpa using hn
      have HP := Lib.hid (show tightGo wd op 2 n x s l.length (l.map (tightT wd op)) = headP wd 7 20 0 from by rw [show tightGo wd op 2 n x s l.length (l.map (tightT wd op)) = headP wd 7 (if n = 1 then 21 else 20) 0 from rfl, if_neg hn])
      clear hcut
      go_enter Tryz.func40, Tryz.ntmps40
      go_wp2_with (first | (go_at_call 56; refine (i_within _ _ _ _).mono ?_; rintro e w' ⟨rfl, rfl⟩) | (go_at_call 61; refine (i_flag _ _).mono ?_; rintro r w' ⟨rfl, rfl⟩) | (go_at_call 60; refine (i_head g _ _ _ _ _ _ 7 20 0 _ h0 (by omega) (by omega)).mono ?_; rintro r w1 ⟨A1, n1, c1, rfl, h1, hg1⟩))
      refine bodyPost_end (results_none Tryz.results40 _ _ _) rfl ?_
      exact ⟨_, _, _, rfl, by rw [HP.out]; exact h1, k0.trans hg1⟩
  by_cases h1 : k = 1
  · subst h1
    have HP := Lib.hid (show tightGo wd op 1 n x s l.length (l.map (tightT wd op)) = headP wd 7 22 0 from rfl)
    clear hcut
    go_enter Tryz.func40, Tryz.ntmps40
    go_wp2_with (first | (go_at_call 56; refine (i_within _ _ _ _).mono ?_; rintro e w' ⟨rfl, rfl⟩) | (go_at_call 60; refine (i_head g _ _ _ _ _ _ 7 22 0 _ h0 (by omega) (by omega)).mono ?_; rintro r w1 ⟨A1, n1, c1, rfl, h1, hg1⟩))
    refine bodyPost_end (results_none Tryz.results40 _ _ _) rfl ?_
    exact ⟨_, _, _, rfl, by rw [HP.out]; exact h1, k0.trans hg1⟩
  by_cases h5 : k = 5
  · subst h5
    by_cases hr : 0 ≤ n ∧ n ≤ 2
    · have hb := inR_yes hr.1 hr.2
      have HP := Lib.hid (show tightGo wd op 5 n x s l.length (l.map (tightT wd op)) = headP wd 7 (32 + n) 1 from by rw [show tightGo wd op 5 n x s l.length (l.map (tightT wd op)) = (if inR n 0 2 = true then headP wd 7 (32 + n) 1 else []) from rfl, if_pos hb])
      clear hcut
      go_enter Tryz.func40, Tryz.ntmps40
      go_wp2_with (first | (go_at_call 56; refine (i_within _ _ _ _).mono ?_; rintro e w' ⟨rfl, rfl⟩) | (go_at_call 60; refine (i_head g _ _ _ _ _ _ 7 (32 + n) 1 _ h0 (by omega) (by omega)).mono ?_; rintro r w1 ⟨A1, n1, c1, rfl, h1, hg1⟩))
      refine bodyPost_end (results_none Tryz.results40 _ _ _) rfl ?_
      exact ⟨_, _, _, rfl, by rw [HP.out]; exact h1, k0.trans hg1⟩
    · have hb : inR n 0 2 = false := inR_no (by omega)
      have HP := Lib.hid (show tightGo wd op 5 n x s l.length (l.map (tightT wd op)) = [] from by rw [show tightGo wd op 5 n x s l.length (l.map (tightT wd op)) = (if inR n 0 2 = true then headP wd 7 (32 + n) 1 else []) from rfl, if_neg (by rw [hb]; decide)])
      clear hcut
      go_enter Tryz.func40, Tryz.ntmps40
      go_wp2_with (go_at_call 56; refine (i_within _ _ _ _).mono ?_; rintro e w' ⟨rfl, rfl⟩)
      first | refine bodyPost_end (results_none Tryz.results40 _ _ _) rfl ?_ | refine bodyPost_ret (results_none Tryz.results40 _ _ _) rfl ?_
      exact ⟨_, _, _, rfl, by rw [HP.out, List.append_nil]; exact h0, k0⟩
  by_cases h4 : k = 4
  · subst h4
    have hfb : fltBits n x ≤ 9223372036854775807 := by
      unfold fltBits
      split
      · rename_i h
        have := fltOk_bounds h
        split <;> omega
      · omega
    have HP := Lib.hid (show tightGo wd op 4 n x s l.length (l.map (tightT wd op)) = headP wd 7 (fltBits n x) 4 from rfl)
    clear hcut
    go_enter Tryz.func40, Tryz.ntmps40
    go_wp2_with (first | (go_at_call 56; refine (i_within _ _ _ _).mono ?_; rintro e w' ⟨rfl, rfl⟩) | (go_at_call 62; refine (i_FltBits _ _ _ hx9.2).mono ?_; rintro r wf ⟨rfl, hbf⟩; replace h0 := h0.below hbf; replace k0 := k0.trans (GP.of_below hbf)) | (go_at_call 60; refine (i_head g _ _ _ _ _ _ 7 (fltBits n x) 4 _ h0 (by omega) (by omega)).mono ?_; rintro r w1 ⟨A1, n1, c1, rfl, h1, hg1⟩))
    refine bodyPost_end (results_none Tryz.results40 _ _ _) rfl ?_
    exact ⟨_, _, _, rfl, by rw [HP.out]; exact h1, k0.trans hg1⟩
  have HP := Lib.hid (show tightGo wd op k n x s l.length (l.map (tightT wd op)) = [] from by unfold tightGo; rw [if_neg h3, if_neg h8, if_neg h7, if_neg h9, if_neg h10, if_neg h11, if_neg h2, if_neg h1, if_neg h5, if_neg h4])
  have f3 : (k == 3) = false := by simpa using h3
  have f8 : (k == 8) = false := by simpa using h8
  have f7 : (k == 7) = false := by simpa using h7
  have f9 : (k == 9) = false := by simpa using h9
  have f10 : (k == 10) = false := by simpa using h10
  have f11 : (k == 11) = false := by simpa using h11
  have f2 : (k == 2) = false := by simpa using h2
  have f1 : (k == 1) = false := by simpa using h1
  have f5 : (k == 5) = false := by simpa using h5
  have f4 : (k == 4) = false := by simpa using h4
  clear h3 h8 h7 h9 h10 h11 h2 h1 h5 h4
  go_enter Tryz.func40, Tryz.ntmps40
  go_wp2_with fail
  refine bodyPost_end (results_none Tryz.results40 _ _ _) rfl ?_
  exact ⟨_, _, _, rfl, by rw [HP.out, List.append_nil]; exact h0, k0⟩
theorem i_PackTight (t : Tr) (e : El) (w : World) (hwf : t.wf) (hl : LsAt w t.l e) (hel : e.lt w.heap.size) (hm : t.sz ≤ 1048576) :
    Calls Tryz.prog 27 #[trV t e] w fun r w' => ∃ A' n' c', r = .returned (.slice A' n' c') ∧ BS w' w.heap.size A' n' c' (tightT false false t) ∧ Below w.heap.size w w' := by
  have hk := Below.two w (.cells (valCells t e) 26) (.cells #[.slice none 0 0, .bool false, .bool false] 56)
  have hP : Pk ((w.alloc (.cells (valCells t e) 26)).alloc (.cells #[.slice none 0 0, .bool false, .bool false] 56)) (w.heap.size + 1) none 0 0 [] false false :=
    ⟨by simpa using Blk.new (w.alloc (.cells (valCells t e) 26)) 56 #[.slice none 0 0, .bool false, .bool false], BS.nil_ _ _⟩
  have hV := i_value t (w.heap.size + 1) none 0 0 [] false false e _ hwf hP (hl.below hel hk) (hel.mono (Nat.le_succ _)) (by omega)
  go_enter Tryz.func27, Tryz.ntmps27
  go_wp2_with (go_at_call 40; refine hV.mono ?_; rintro r w1 ⟨A1, n1, c1, rfl, h1, hg1⟩; obtain ⟨q0, q1, q2, q3⟩ := h1.cells)
  go_ret
  exact ⟨_, _, _, rfl, h1.own.mono (by omega), hk.trans ((hg1.below hP).mono (Nat.le_succ _))⟩
end Go.Proofs.YtmnlkedacnemcaaGreatDoor
