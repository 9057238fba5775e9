/- The reference's reader: l11Tree at each kind of token. The reference's reader of elements: one round, plain. The reference's reader of elements: l11Many. The reference's reader: l11Tree and l11Many, whole; what is read ends within the tokens. All tokens as one tree: treeOf, ParseTokens on both sides. Tokens that are marked; how large a tree of tokens is. The law on ParseTokens. -/
import Derived.Test.YticejlknbfhndaaDoorParseG1
import Derived.Deep.Cut
import Derived.Deep.DeepCutAuto
import Derived.Test.YticejlknbfhndaaDoorParseG2
import Derived.Test.YticejlknbfhndaaDoorToksM
import Derived.Test.YticejlknbfhndaaDoorMarkVal
import Derived.Test.YticejlknbfhndaaDoorJoinLaw
set_option linter.unusedVariables false
set_option maxRecDepth 100000
set_option linter.unusedSimpArgs false
namespace Go.Proofs.YticejlknbfhndaaDoor
open Go.RowKit

theorem TP.set5_ {w : World} {g n c p : Nat} {A : Option Addr} {l : List Tk} {dp code : Int} {g2 o : Nat} {t : Tr} {e : El} (h : TP w g A n c l p dp code) (hg : g < g2) : TP (set5 w g2 o t e) g A n c l p dp code :=
  ⟨h.blk.far5 (by omega), ((((h.sl.setCell (p := ⟨g2, o, none⟩) (Nat.le_of_lt hg) _).setCell (p := ⟨g2, o + 1, none⟩) (Nat.le_of_lt hg) _).setCell (p := ⟨g2, o + 2, none⟩) (Nat.le_of_lt hg) _).setCell (p := ⟨g2, o + 3, none⟩) (Nat.le_of_lt hg) _).setCell (p := ⟨g2, o + 4, none⟩) (Nat.le_of_lt hg) _, h.bd⟩
def LeafS (w w' : World) (g : Nat) (A : Option Addr) (n c : Nat) (l : List Tk) (p : Nat) (dp k : Int) (t : Tr) (r : Ending) : Prop := r = .returned (trV t ⟨none, 0, 0, []⟩) ∧ TP w' g A n c l p dp k ∧ Fr [g] w w'
def TreeAt (w w' : World) (g : Nat) (A : Option Addr) (n c : Nat) (l : List Tk) (dp : Int) (R : Rd) (r : Ending) : Prop :=
  ∃ t u p' k', r = .returned (trV t u) ∧ LsAt w' t.l u ∧ Own w' w.heap.size u.fp ∧ TP w' g A n c l p' dp k' ∧ Fr [g] w w' ∧ R.ok t p' k'
def NextFrom (g : Nat) (A : Option Addr) (n c : Nat) (l : List Tk) (p q : Nat) (dp : Int) (t : Tk) : Prop := ∀ w1, TP w1 g A n c l p dp 0 → Calls Tryd.prog 84 #[.pointer (some ⟨g, 0, none⟩)] w1 fun r w' => NextS w1 w' g A n c l q dp 0 t r
set_option maxHeartbeats 2000000 in
theorem s_tree_deep (g : Nat) (A : Option Addr) (n c : Nat) (l : List Tk) (p : Nat) (dp d : Int) (w : World) (h : TP w g A n c l p dp 0) (hd : dp < d) :
    Calls Tryd.prog 49 #[.pointer (some ⟨g, 0, none⟩), .int .i64 d] w fun r w' => LeafS w w' g A n c l p dp 2 zeroT r := by
  have k1 := Below.one w (.cells #[.int .i64 0, .int .i64 0, .int .i64 0, .string ⟨#[]⟩, .slice none 0 0] 29)
  have h1 := h.below k1
  have hZ := Blk.new w 29 #[.int .i64 0, .int .i64 0, .int .i64 0, .string ⟨#[]⟩, .slice none 0 0]
  obtain ⟨c0, c1, c2, c3⟩ := h1.cells
  have hgl := h.blk.lt
  have hdd : decide (dp < d) = true := by simpa using hd
  have hfl := s_l11Fail g A n c l p dp 0 2 _ h1
  rw [if_pos rfl] at hfl
  have hTz := hZ.lt
  have hfr := Fr.of_below (fp := [g]) k1
  obtain ⟨u, hu⟩ : ∃ u, zeroT = u := ⟨_, rfl⟩
  unfold FailS at hfl
  unfold LeafS
  rw [hu] at hfl ⊢
  clear hu h
  go_enter Tryd.func49, Tryd.ntmps49
  go_wp2_with (go_at_call 83; refine hfl.mono ?_; rintro r w2 ⟨rfl, h2, hf2⟩; have BZ : Blk w2 w.heap.size 29 _ := (hf2.block w.heap.size hTz (by simp; omega)).trans hZ; obtain ⟨x0, x1, x2, x3, x4, ⟨s0, t0⟩, ⟨s1, t1⟩, ⟨s2, t2⟩, ⟨s3, t3⟩, s4, t4⟩ := BZ.five (o := 0) (by simp) (.int .i64 u.k) (.int .i64 u.n) (.int .i64 u.x) (.string u.s))
  have hblk : Blk (set5 w2 w.heap.size 0 u ⟨none, 0, 0, []⟩) w.heap.size 29 _ := Blk.five_ BZ u ⟨none, 0, 0, []⟩
  have hTR3 := h2.set5_ (g2 := w.heap.size) (o := 0) (t := u) (e := ⟨none, 0, 0, []⟩) hgl
  have hfr3 : Fr [g] w (set5 w2 w.heap.size 0 u ⟨none, 0, 0, []⟩) := fr_new5 (hfr.trans hf2) (Nat.le_refl _)
  have hres := fun (tm : Array Value) (hp : tm.getD 4 undef = .pointer (some ⟨w.heap.size, 0, none⟩)) => results_blk (P := Tryd.prog) (tmps := tm) Tryd.results49 Tryd.isAgg29 (by exact Tryd.sizeOf29) hp hblk
  refine bodyPost_ret (hres _ rfl) rfl ?_
  exact ⟨rfl, hTR3, hfr3⟩
set_option maxHeartbeats 4000000 in
theorem s_tree_text (g : Nat) (A : Option Addr) (n c : Nat) (l : List Tk) (p : Nat) (dp d : Int) (w : World) (h : TP w g A n c l p dp 0) (hd : d ≤ dp) (t : Tk) (q : Nat) (hnx : NextFrom g A n c l p q dp t) (hk2 : (t.k == 2) = true) :
    Calls Tryd.prog 49 #[.pointer (some ⟨g, 0, none⟩), .int .i64 d] w fun r w' => LeafS w w' g A n c l q dp 0 (leafTr 7 0 0 t.s) r := by
  have k1 := Below.one w (.cells #[.int .i64 0, .int .i64 0, .int .i64 0, .string ⟨#[]⟩, .slice none 0 0] 29)
  have h1 := h.below k1
  have hZ := Blk.new w 29 #[.int .i64 0, .int .i64 0, .int .i64 0, .string ⟨#[]⟩, .slice none 0 0]
  obtain ⟨c0, c1, c2, c3⟩ := h1.cells
  have hgl := h.blk.lt
  have hdd : decide (dp < d) = false := by simp; omega
  have hfr := Fr.of_below (fp := [g]) k1
  have HT := fun w1 => s_TextVal t.s w1
  obtain ⟨u, hu⟩ : ∃ u, leafTr 7 0 0 t.s = u := ⟨_, rfl⟩
  rw [hu] at HT ⊢
  clear hu
  go_enter Tryd.func49, Tryd.ntmps49
  go_upto_region 3 with fail
  clear c0 c1 c2 c3
  generalize w.alloc (.cells #[.int .i64 0, .int .i64 0, .int .i64 0, .string ⟨#[]⟩, .slice none 0 0] 29) = wa at h1 hZ hfr ⊢
  have HN := hnx wa h1
  clear hnx h k1
  go_upto_region 4 with (go_at_call 84; refine HN.mono ?_; rintro r w2 ⟨rfl, hT2, hf2⟩)
  have hZ2 := Blk.ofFr hZ hf2 (by omega)
  have kt := Below.one w2 (.cells #[.int .i64 t.k, .string t.s, .int .i64 t.n, .int .i64 t.x] 60)
  have hT3 := hT2.below kt
  have hB3 := Blk.new w2 60 #[.int .i64 t.k, .string t.s, .int .i64 t.n, .int .i64 t.x]
  have hZ3 := hZ2.below kt hZ2.lt
  have hfr3 : Fr [g] w (w2.alloc (.cells #[.int .i64 t.k, .string t.s, .int .i64 t.n, .int .i64 t.x] 60)) := (hfr.trans hf2).trans (Fr.of_below kt)
  have hTz : w.heap.size < w2.heap.size := hZ2.lt
  clear h1 hZ hfr HN hT2 hf2 hZ2 kt
  generalize w2.heap.size = b at hB3 hTz ⊢
  generalize w2.alloc (.cells #[.int .i64 t.k, .string t.s, .int .i64 t.n, .int .i64 t.x] 60) = wb at hT3 hB3 hZ3 hfr3 ⊢
  have e0 := hB3.cell 0
  have e1 := hB3.cell 1
  have e2 := hB3.cell 2
  have e3 := hB3.cell 3
  simp only [List.getElem?_toArray, List.getElem?_cons_succ, List.getElem?_cons_zero] at e0 e1 e2 e3
  have hZl := hZ3.lt
  go_wp2_with (go_at_call 85; refine (HT _).mono ?_; rintro r w6 ⟨rfl, hb6⟩; have BZ := hZ3.below hb6 hZl; obtain ⟨x0, x1, x2, x3, x4, ⟨s0, t0⟩, ⟨s1, t1⟩, ⟨s2, t2⟩, ⟨s3, t3⟩, s4, t4⟩ := BZ.five (o := 0) (by simp) (.int .i64 u.k) (.int .i64 u.n) (.int .i64 u.x) (.string u.s))
  have hblk : Blk (set5 w6 w.heap.size 0 u ⟨none, 0, 0, []⟩) w.heap.size 29 _ := Blk.five_ BZ u ⟨none, 0, 0, []⟩
  have hTR3 := (hT3.below hb6).set5_ (g2 := w.heap.size) (o := 0) (t := u) (e := ⟨none, 0, 0, []⟩) hgl
  have hfr4 : Fr [g] w (set5 w6 w.heap.size 0 u ⟨none, 0, 0, []⟩) := fr_new5 (hfr3.trans (Fr.of_below hb6)) (Nat.le_refl _)
  have hres := fun (tm : Array Value) (hp : tm.getD 4 undef = .pointer (some ⟨w.heap.size, 0, none⟩)) => results_blk (P := Tryd.prog) (tmps := tm) Tryd.results49 Tryd.isAgg29 (by exact Tryd.sizeOf29) hp hblk
  refine bodyPost_ret (hres _ rfl) rfl ?_
  exact ⟨rfl, hTR3, hfr4⟩
set_option maxHeartbeats 4000000 in
theorem s_tree_other (g : Nat) (A : Option Addr) (n c : Nat) (l : List Tk) (p : Nat) (dp d : Int) (w : World) (h : TP w g A n c l p dp 0) (hd : d ≤ dp) (t : Tk) (q : Nat) (hnx : NextFrom g A n c l p q dp t) (hk2 : (t.k == 2) = false) (hk3 : (t.k == 3) = false) (hk4 : (t.k == 4) = false) (hk1 : (t.k == 1) = false) :
    Calls Tryd.prog 49 #[.pointer (some ⟨g, 0, none⟩), .int .i64 d] w fun r w' => LeafS w w' g A n c l q dp 1 zeroT r := by
  have k1 := Below.one w (.cells #[.int .i64 0, .int .i64 0, .int .i64 0, .string ⟨#[]⟩, .slice none 0 0] 29)
  have h1 := h.below k1
  have hZ := Blk.new w 29 #[.int .i64 0, .int .i64 0, .int .i64 0, .string ⟨#[]⟩, .slice none 0 0]
  obtain ⟨c0, c1, c2, c3⟩ := h1.cells
  have hgl := h.blk.lt
  have hdd : decide (dp < d) = false := by simp; omega
  have hfr := Fr.of_below (fp := [g]) k1
  obtain ⟨u, hu⟩ : ∃ u, zeroT = u := ⟨_, rfl⟩
  have HU := Lib.hid hu
  unfold LeafS
  rw [hu]
  clear hu
  go_enter Tryd.func49, Tryd.ntmps49
  go_upto_region 3 with fail
  clear c0 c1 c2 c3
  generalize w.alloc (.cells #[.int .i64 0, .int .i64 0, .int .i64 0, .string ⟨#[]⟩, .slice none 0 0] 29) = wa at h1 hZ hfr ⊢
  have HN := hnx wa h1
  clear hnx h k1
  go_upto_region 4 with (go_at_call 84; refine HN.mono ?_; rintro r w2 ⟨rfl, hT2, hf2⟩)
  have hZ2 := Blk.ofFr hZ hf2 (by omega)
  have kt := Below.one w2 (.cells #[.int .i64 t.k, .string t.s, .int .i64 t.n, .int .i64 t.x] 60)
  have hT3 := hT2.below kt
  have hB3 := Blk.new w2 60 #[.int .i64 t.k, .string t.s, .int .i64 t.n, .int .i64 t.x]
  have hZ3 := hZ2.below kt hZ2.lt
  have hfr3 : Fr [g] w (w2.alloc (.cells #[.int .i64 t.k, .string t.s, .int .i64 t.n, .int .i64 t.x] 60)) := (hfr.trans hf2).trans (Fr.of_below kt)
  have hTz : w.heap.size < w2.heap.size := hZ2.lt
  clear h1 hZ hfr HN hT2 hf2 hZ2 kt
  generalize w2.heap.size = b at hB3 hTz ⊢
  generalize w2.alloc (.cells #[.int .i64 t.k, .string t.s, .int .i64 t.n, .int .i64 t.x] 60) = wb at hT3 hB3 hZ3 hfr3 ⊢
  have e0 := hB3.cell 0
  have e1 := hB3.cell 1
  have e2 := hB3.cell 2
  have e3 := hB3.cell 3
  simp only [List.getElem?_toArray, List.getElem?_cons_succ, List.getElem?_cons_zero] at e0 e1 e2 e3
  have hZl := hZ3.lt
  have HF := s_l11Fail g A n c l q dp 0 1 wb hT3
  rw [if_pos rfl] at HF
  unfold FailS at HF
  rw [HU.out] at HF
  go_wp2_with (go_at_call 83; refine HF.mono ?_; rintro r w6 ⟨rfl, hT6, hf6⟩; have BZ := Blk.ofFr hZ3 hf6 (by omega); obtain ⟨x0, x1, x2, x3, x4, ⟨s0, t0⟩, ⟨s1, t1⟩, ⟨s2, t2⟩, ⟨s3, t3⟩, s4, t4⟩ := BZ.five (o := 0) (by simp) (.int .i64 u.k) (.int .i64 u.n) (.int .i64 u.x) (.string u.s))
  have hblk : Blk (set5 w6 w.heap.size 0 u ⟨none, 0, 0, []⟩) w.heap.size 29 _ := Blk.five_ BZ u ⟨none, 0, 0, []⟩
  have hTR3 := (hT6).set5_ (g2 := w.heap.size) (o := 0) (t := u) (e := ⟨none, 0, 0, []⟩) hgl
  have hfr4 : Fr [g] w (set5 w6 w.heap.size 0 u ⟨none, 0, 0, []⟩) := fr_new5 (hfr3.trans hf6) (Nat.le_refl _)
  have hres := fun (tm : Array Value) (hp : tm.getD 4 undef = .pointer (some ⟨w.heap.size, 0, none⟩)) => results_blk (P := Tryd.prog) (tmps := tm) Tryd.results49 Tryd.isAgg29 (by exact Tryd.sizeOf29) hp hblk
  refine bodyPost_ret (hres _ rfl) rfl ?_
  exact ⟨rfl, hTR3, hfr4⟩
set_option maxHeartbeats 4000000 in
theorem s_tree_sign (g : Nat) (A : Option Addr) (n c : Nat) (l : List Tk) (p : Nat) (dp d : Int) (w : World) (h : TP w g A n c l p dp 0) (hd : d ≤ dp) (t : Tk) (q : Nat) (hnx : NextFrom g A n c l p q dp t) (hk2 : (t.k == 2) = false) (hk3 : (t.k == 3) = false) (hk4 : (t.k == 4) = false) (hk1 : (t.k == 1) = true) (hg91 : (t.s.toList == [91]) = false) (hg123 : (t.s.toList == [123]) = false) :
    Calls Tryd.prog 49 #[.pointer (some ⟨g, 0, none⟩), .int .i64 d] w fun r w' => LeafS w w' g A n c l q dp 1 zeroT r := by
  have k1 := Below.one w (.cells #[.int .i64 0, .int .i64 0, .int .i64 0, .string ⟨#[]⟩, .slice none 0 0] 29)
  have h1 := h.below k1
  have hZ := Blk.new w 29 #[.int .i64 0, .int .i64 0, .int .i64 0, .string ⟨#[]⟩, .slice none 0 0]
  obtain ⟨c0, c1, c2, c3⟩ := h1.cells
  have hgl := h.blk.lt
  have hdd : decide (dp < d) = false := by simp; omega
  have hfr := Fr.of_below (fp := [g]) k1
  obtain ⟨u, hu⟩ : ∃ u, zeroT = u := ⟨_, rfl⟩
  have HU := Lib.hid hu
  unfold LeafS
  rw [hu]
  clear hu
  go_enter Tryd.func49, Tryd.ntmps49
  go_upto_region 3 with fail
  clear c0 c1 c2 c3
  generalize w.alloc (.cells #[.int .i64 0, .int .i64 0, .int .i64 0, .string ⟨#[]⟩, .slice none 0 0] 29) = wa at h1 hZ hfr ⊢
  have HN := hnx wa h1
  clear hnx h k1
  go_upto_region 4 with (go_at_call 84; refine HN.mono ?_; rintro r w2 ⟨rfl, hT2, hf2⟩)
  have hZ2 := Blk.ofFr hZ hf2 (by omega)
  have kt := Below.one w2 (.cells #[.int .i64 t.k, .string t.s, .int .i64 t.n, .int .i64 t.x] 60)
  have hT3 := hT2.below kt
  have hB3 := Blk.new w2 60 #[.int .i64 t.k, .string t.s, .int .i64 t.n, .int .i64 t.x]
  have hZ3 := hZ2.below kt hZ2.lt
  have hfr3 : Fr [g] w (w2.alloc (.cells #[.int .i64 t.k, .string t.s, .int .i64 t.n, .int .i64 t.x] 60)) := (hfr.trans hf2).trans (Fr.of_below kt)
  have hTz : w.heap.size < w2.heap.size := hZ2.lt
  clear h1 hZ hfr HN hT2 hf2 hZ2 kt
  generalize w2.heap.size = b at hB3 hTz ⊢
  generalize w2.alloc (.cells #[.int .i64 t.k, .string t.s, .int .i64 t.n, .int .i64 t.x] 60) = wb at hT3 hB3 hZ3 hfr3 ⊢
  have e0 := hB3.cell 0
  have e1 := hB3.cell 1
  have e2 := hB3.cell 2
  have e3 := hB3.cell 3
  simp only [List.getElem?_toArray, List.getElem?_cons_succ, List.getElem?_cons_zero] at e0 e1 e2 e3
  have hZl := hZ3.lt
  have HF := s_l11Fail g A n c l q dp 0 1 wb hT3
  rw [if_pos rfl] at HF
  unfold FailS at HF
  rw [HU.out] at HF
  go_wp2_with (go_at_call 83; refine HF.mono ?_; rintro r w6 ⟨rfl, hT6, hf6⟩; have BZ := Blk.ofFr hZ3 hf6 (by omega); obtain ⟨x0, x1, x2, x3, x4, ⟨s0, t0⟩, ⟨s1, t1⟩, ⟨s2, t2⟩, ⟨s3, t3⟩, s4, t4⟩ := BZ.five (o := 0) (by simp) (.int .i64 u.k) (.int .i64 u.n) (.int .i64 u.x) (.string u.s))
  have hblk : Blk (set5 w6 w.heap.size 0 u ⟨none, 0, 0, []⟩) w.heap.size 29 _ := Blk.five_ BZ u ⟨none, 0, 0, []⟩
  have hTR3 := (hT6).set5_ (g2 := w.heap.size) (o := 0) (t := u) (e := ⟨none, 0, 0, []⟩) hgl
  have hfr4 : Fr [g] w (set5 w6 w.heap.size 0 u ⟨none, 0, 0, []⟩) := fr_new5 (hfr3.trans hf6) (Nat.le_refl _)
  have hres := fun (tm : Array Value) (hp : tm.getD 4 undef = .pointer (some ⟨w.heap.size, 0, none⟩)) => results_blk (P := Tryd.prog) (tmps := tm) Tryd.results49 Tryd.isAgg29 (by exact Tryd.sizeOf29) hp hblk
  refine bodyPost_ret (hres _ rfl) rfl ?_
  exact ⟨rfl, hTR3, hfr4⟩
set_option maxHeartbeats 4000000 in
theorem s_tree_word (g : Nat) (A : Option Addr) (n c : Nat) (l : List Tk) (p : Nat) (dp d : Int) (w : World) (h : TP w g A n c l p dp 0) (hd : d ≤ dp) (t : Tk) (q : Nat) (hnx : NextFrom g A n c l p q dp t) (hk2 : (t.k == 2) = false) (hk3 : (t.k == 3) = false) (hk4 : (t.k == 4) = true) (hsnull : (t.s.toList == [110, 117, 108, 108]) = false) (hstrue : (t.s.toList == [116, 114, 117, 101]) = false) (hsfalse : (t.s.toList == [102, 97, 108, 115, 101]) = false) :
    Calls Tryd.prog 49 #[.pointer (some ⟨g, 0, none⟩), .int .i64 d] w fun r w' => LeafS w w' g A n c l q dp 1 zeroT r := by
  have k1 := Below.one w (.cells #[.int .i64 0, .int .i64 0, .int .i64 0, .string ⟨#[]⟩, .slice none 0 0] 29)
  have h1 := h.below k1
  have hZ := Blk.new w 29 #[.int .i64 0, .int .i64 0, .int .i64 0, .string ⟨#[]⟩, .slice none 0 0]
  obtain ⟨c0, c1, c2, c3⟩ := h1.cells
  have hgl := h.blk.lt
  have hdd : decide (dp < d) = false := by simp; omega
  have hfr := Fr.of_below (fp := [g]) k1
  obtain ⟨u, hu⟩ : ∃ u, zeroT = u := ⟨_, rfl⟩
  have HU := Lib.hid hu
  unfold LeafS
  rw [hu]
  clear hu
  go_enter Tryd.func49, Tryd.ntmps49
  go_upto_region 3 with fail
  clear c0 c1 c2 c3
  generalize w.alloc (.cells #[.int .i64 0, .int .i64 0, .int .i64 0, .string ⟨#[]⟩, .slice none 0 0] 29) = wa at h1 hZ hfr ⊢
  have HN := hnx wa h1
  clear hnx h k1
  go_upto_region 4 with (go_at_call 84; refine HN.mono ?_; rintro r w2 ⟨rfl, hT2, hf2⟩)
  have hZ2 := Blk.ofFr hZ hf2 (by omega)
  have kt := Below.one w2 (.cells #[.int .i64 t.k, .string t.s, .int .i64 t.n, .int .i64 t.x] 60)
  have hT3 := hT2.below kt
  have hB3 := Blk.new w2 60 #[.int .i64 t.k, .string t.s, .int .i64 t.n, .int .i64 t.x]
  have hZ3 := hZ2.below kt hZ2.lt
  have hfr3 : Fr [g] w (w2.alloc (.cells #[.int .i64 t.k, .string t.s, .int .i64 t.n, .int .i64 t.x] 60)) := (hfr.trans hf2).trans (Fr.of_below kt)
  have hTz : w.heap.size < w2.heap.size := hZ2.lt
  clear h1 hZ hfr HN hT2 hf2 hZ2 kt
  generalize w2.heap.size = b at hB3 hTz ⊢
  generalize w2.alloc (.cells #[.int .i64 t.k, .string t.s, .int .i64 t.n, .int .i64 t.x] 60) = wb at hT3 hB3 hZ3 hfr3 ⊢
  have e0 := hB3.cell 0
  have e1 := hB3.cell 1
  have e2 := hB3.cell 2
  have e3 := hB3.cell 3
  simp only [List.getElem?_toArray, List.getElem?_cons_succ, List.getElem?_cons_zero] at e0 e1 e2 e3
  have hZl := hZ3.lt
  have HF := s_l11Fail g A n c l q dp 0 1 wb hT3
  rw [if_pos rfl] at HF
  unfold FailS at HF
  rw [HU.out] at HF
  go_wp2_with (go_at_call 83; refine HF.mono ?_; rintro r w6 ⟨rfl, hT6, hf6⟩; have BZ := Blk.ofFr hZ3 hf6 (by omega); obtain ⟨x0, x1, x2, x3, x4, ⟨s0, t0⟩, ⟨s1, t1⟩, ⟨s2, t2⟩, ⟨s3, t3⟩, s4, t4⟩ := BZ.five (o := 0) (by simp) (.int .i64 u.k) (.int .i64 u.n) (.int .i64 u.x) (.string u.s))
  have hblk : Blk (set5 w6 w.heap.size 0 u ⟨none, 0, 0, []⟩) w.heap.size 29 _ := Blk.five_ BZ u ⟨none, 0, 0, []⟩
  have hTR3 := (hT6).set5_ (g2 := w.heap.size) (o := 0) (t := u) (e := ⟨none, 0, 0, []⟩) hgl
  have hfr4 : Fr [g] w (set5 w6 w.heap.size 0 u ⟨none, 0, 0, []⟩) := fr_new5 (hfr3.trans hf6) (Nat.le_refl _)
  have hres := fun (tm : Array Value) (hp : tm.getD 4 undef = .pointer (some ⟨w.heap.size, 0, none⟩)) => results_blk (P := Tryd.prog) (tmps := tm) Tryd.results49 Tryd.isAgg29 (by exact Tryd.sizeOf29) hp hblk
  refine bodyPost_ret (hres _ rfl) rfl ?_
  exact ⟨rfl, hTR3, hfr4⟩
set_option maxHeartbeats 4000000 in
theorem s_tree_null (g : Nat) (A : Option Addr) (n c : Nat) (l : List Tk) (p : Nat) (dp d : Int) (w : World) (h : TP w g A n c l p dp 0) (hd : d ≤ dp) (t : Tk) (q : Nat) (hnx : NextFrom g A n c l p q dp t) (hk2 : (t.k == 2) = false) (hk3 : (t.k == 3) = false) (hk4 : (t.k == 4) = true) (hsnull : (t.s.toList == [110, 117, 108, 108]) = true) :
    Calls Tryd.prog 49 #[.pointer (some ⟨g, 0, none⟩), .int .i64 d] w fun r w' => LeafS w w' g A n c l q dp 0 (leafTr 1 0 0 ⟨#[]⟩) r := by
  have k1 := Below.one w (.cells #[.int .i64 0, .int .i64 0, .int .i64 0, .string ⟨#[]⟩, .slice none 0 0] 29)
  have h1 := h.below k1
  have hZ := Blk.new w 29 #[.int .i64 0, .int .i64 0, .int .i64 0, .string ⟨#[]⟩, .slice none 0 0]
  obtain ⟨c0, c1, c2, c3⟩ := h1.cells
  have hgl := h.blk.lt
  have hdd : decide (dp < d) = false := by simp; omega
  have hfr := Fr.of_below (fp := [g]) k1
  go_enter Tryd.func49, Tryd.ntmps49
  go_upto_region 3 with fail
  clear c0 c1 c2 c3
  generalize w.alloc (.cells #[.int .i64 0, .int .i64 0, .int .i64 0, .string ⟨#[]⟩, .slice none 0 0] 29) = wa at h1 hZ hfr ⊢
  have HN := hnx wa h1
  clear hnx h k1
  go_upto_region 4 with (go_at_call 84; refine HN.mono ?_; rintro r w2 ⟨rfl, hT2, hf2⟩)
  have hZ2 := Blk.ofFr hZ hf2 (by omega)
  have kt := Below.one w2 (.cells #[.int .i64 t.k, .string t.s, .int .i64 t.n, .int .i64 t.x] 60)
  have hT3 := hT2.below kt
  have hB3 := Blk.new w2 60 #[.int .i64 t.k, .string t.s, .int .i64 t.n, .int .i64 t.x]
  have hZ3 := hZ2.below kt hZ2.lt
  have hfr3 : Fr [g] w (w2.alloc (.cells #[.int .i64 t.k, .string t.s, .int .i64 t.n, .int .i64 t.x] 60)) := (hfr.trans hf2).trans (Fr.of_below kt)
  have hTz : w.heap.size < w2.heap.size := hZ2.lt
  clear h1 hZ hfr HN hT2 hf2 hZ2 kt
  generalize w2.heap.size = b at hB3 hTz ⊢
  generalize w2.alloc (.cells #[.int .i64 t.k, .string t.s, .int .i64 t.n, .int .i64 t.x] 60) = wb at hT3 hB3 hZ3 hfr3 ⊢
  have e0 := hB3.cell 0
  have e1 := hB3.cell 1
  have e2 := hB3.cell 2
  have e3 := hB3.cell 3
  simp only [List.getElem?_toArray, List.getElem?_cons_succ, List.getElem?_cons_zero] at e0 e1 e2 e3
  have hZl := hZ3.lt
  go_upto_region 15 with fail
  have BZ := hZ3
  obtain ⟨x0, x1, x2, x3, x4, ⟨s0, t0⟩, ⟨s1, t1⟩, ⟨s2, t2⟩, ⟨s3, t3⟩, s4, t4⟩ := BZ.five (o := 0) (by simp) (.int .i64 1) (.int .i64 0) (.int .i64 0) (.string ⟨#[]⟩)
  go_wp2_with fail
  have hblk : Blk (set5 wb w.heap.size 0 (leafTr 1 0 0 ⟨#[]⟩) ⟨none, 0, 0, []⟩) w.heap.size 29 _ := Blk.five_ BZ (leafTr 1 0 0 ⟨#[]⟩) ⟨none, 0, 0, []⟩
  have hTR3 := (hT3).set5_ (g2 := w.heap.size) (o := 0) (t := (leafTr 1 0 0 ⟨#[]⟩)) (e := ⟨none, 0, 0, []⟩) hgl
  have hfr4 : Fr [g] w (set5 wb w.heap.size 0 (leafTr 1 0 0 ⟨#[]⟩) ⟨none, 0, 0, []⟩) := fr_new5 (hfr3) (Nat.le_refl _)
  have hres := fun (tm : Array Value) (hp : tm.getD 4 undef = .pointer (some ⟨w.heap.size, 0, none⟩)) => results_blk (P := Tryd.prog) (tmps := tm) Tryd.results49 Tryd.isAgg29 (by exact Tryd.sizeOf29) hp hblk
  refine bodyPost_ret (hres _ rfl) rfl ?_
  exact ⟨rfl, hTR3, hfr4⟩
set_option maxHeartbeats 4000000 in
theorem s_tree_true (g : Nat) (A : Option Addr) (n c : Nat) (l : List Tk) (p : Nat) (dp d : Int) (w : World) (h : TP w g A n c l p dp 0) (hd : d ≤ dp) (t : Tk) (q : Nat) (hnx : NextFrom g A n c l p q dp t) (hk2 : (t.k == 2) = false) (hk3 : (t.k == 3) = false) (hk4 : (t.k == 4) = true) (hsnull : (t.s.toList == [110, 117, 108, 108]) = false) (hstrue : (t.s.toList == [116, 114, 117, 101]) = true) :
    Calls Tryd.prog 49 #[.pointer (some ⟨g, 0, none⟩), .int .i64 d] w fun r w' => LeafS w w' g A n c l q dp 0 (leafTr 2 1 0 ⟨#[]⟩) r := by
  have k1 := Below.one w (.cells #[.int .i64 0, .int .i64 0, .int .i64 0, .string ⟨#[]⟩, .slice none 0 0] 29)
  have h1 := h.below k1
  have hZ := Blk.new w 29 #[.int .i64 0, .int .i64 0, .int .i64 0, .string ⟨#[]⟩, .slice none 0 0]
  obtain ⟨c0, c1, c2, c3⟩ := h1.cells
  have hgl := h.blk.lt
  have hdd : decide (dp < d) = false := by simp; omega
  have hfr := Fr.of_below (fp := [g]) k1
  go_enter Tryd.func49, Tryd.ntmps49
  go_upto_region 3 with fail
  clear c0 c1 c2 c3
  generalize w.alloc (.cells #[.int .i64 0, .int .i64 0, .int .i64 0, .string ⟨#[]⟩, .slice none 0 0] 29) = wa at h1 hZ hfr ⊢
  have HN := hnx wa h1
  clear hnx h k1
  go_upto_region 4 with (go_at_call 84; refine HN.mono ?_; rintro r w2 ⟨rfl, hT2, hf2⟩)
  have hZ2 := Blk.ofFr hZ hf2 (by omega)
  have kt := Below.one w2 (.cells #[.int .i64 t.k, .string t.s, .int .i64 t.n, .int .i64 t.x] 60)
  have hT3 := hT2.below kt
  have hB3 := Blk.new w2 60 #[.int .i64 t.k, .string t.s, .int .i64 t.n, .int .i64 t.x]
  have hZ3 := hZ2.below kt hZ2.lt
  have hfr3 : Fr [g] w (w2.alloc (.cells #[.int .i64 t.k, .string t.s, .int .i64 t.n, .int .i64 t.x] 60)) := (hfr.trans hf2).trans (Fr.of_below kt)
  have hTz : w.heap.size < w2.heap.size := hZ2.lt
  clear h1 hZ hfr HN hT2 hf2 hZ2 kt
  generalize w2.heap.size = b at hB3 hTz ⊢
  generalize w2.alloc (.cells #[.int .i64 t.k, .string t.s, .int .i64 t.n, .int .i64 t.x] 60) = wb at hT3 hB3 hZ3 hfr3 ⊢
  have e0 := hB3.cell 0
  have e1 := hB3.cell 1
  have e2 := hB3.cell 2
  have e3 := hB3.cell 3
  simp only [List.getElem?_toArray, List.getElem?_cons_succ, List.getElem?_cons_zero] at e0 e1 e2 e3
  have hZl := hZ3.lt
  go_upto_region 17 with fail
  have BZ := hZ3
  obtain ⟨x0, x1, x2, x3, x4, ⟨s0, t0⟩, ⟨s1, t1⟩, ⟨s2, t2⟩, ⟨s3, t3⟩, s4, t4⟩ := BZ.five (o := 0) (by simp) (.int .i64 2) (.int .i64 1) (.int .i64 0) (.string ⟨#[]⟩)
  go_wp2_with fail
  have hblk : Blk (set5 wb w.heap.size 0 (leafTr 2 1 0 ⟨#[]⟩) ⟨none, 0, 0, []⟩) w.heap.size 29 _ := Blk.five_ BZ (leafTr 2 1 0 ⟨#[]⟩) ⟨none, 0, 0, []⟩
  have hTR3 := (hT3).set5_ (g2 := w.heap.size) (o := 0) (t := (leafTr 2 1 0 ⟨#[]⟩)) (e := ⟨none, 0, 0, []⟩) hgl
  have hfr4 : Fr [g] w (set5 wb w.heap.size 0 (leafTr 2 1 0 ⟨#[]⟩) ⟨none, 0, 0, []⟩) := fr_new5 (hfr3) (Nat.le_refl _)
  have hres := fun (tm : Array Value) (hp : tm.getD 4 undef = .pointer (some ⟨w.heap.size, 0, none⟩)) => results_blk (P := Tryd.prog) (tmps := tm) Tryd.results49 Tryd.isAgg29 (by exact Tryd.sizeOf29) hp hblk
  refine bodyPost_ret (hres _ rfl) rfl ?_
  exact ⟨rfl, hTR3, hfr4⟩
set_option maxHeartbeats 4000000 in
theorem s_tree_false (g : Nat) (A : Option Addr) (n c : Nat) (l : List Tk) (p : Nat) (dp d : Int) (w : World) (h : TP w g A n c l p dp 0) (hd : d ≤ dp) (t : Tk) (q : Nat) (hnx : NextFrom g A n c l p q dp t) (hk2 : (t.k == 2) = false) (hk3 : (t.k == 3) = false) (hk4 : (t.k == 4) = true) (hsnull : (t.s.toList == [110, 117, 108, 108]) = false) (hstrue : (t.s.toList == [116, 114, 117, 101]) = false) (hsfalse : (t.s.toList == [102, 97, 108, 115, 101]) = true) :
    Calls Tryd.prog 49 #[.pointer (some ⟨g, 0, none⟩), .int .i64 d] w fun r w' => LeafS w w' g A n c l q dp 0 (leafTr 2 0 0 ⟨#[]⟩) r := by
  have k1 := Below.one w (.cells #[.int .i64 0, .int .i64 0, .int .i64 0, .string ⟨#[]⟩, .slice none 0 0] 29)
  have h1 := h.below k1
  have hZ := Blk.new w 29 #[.int .i64 0, .int .i64 0, .int .i64 0, .string ⟨#[]⟩, .slice none 0 0]
  obtain ⟨c0, c1, c2, c3⟩ := h1.cells
  have hgl := h.blk.lt
  have hdd : decide (dp < d) = false := by simp; omega
  have hfr := Fr.of_below (fp := [g]) k1
  go_enter Tryd.func49, Tryd.ntmps49
  go_upto_region 3 with fail
  clear c0 c1 c2 c3
  generalize w.alloc (.cells #[.int .i64 0, .int .i64 0, .int .i64 0, .string ⟨#[]⟩, .slice none 0 0] 29) = wa at h1 hZ hfr ⊢
  have HN := hnx wa h1
  clear hnx h k1
  go_upto_region 4 with (go_at_call 84; refine HN.mono ?_; rintro r w2 ⟨rfl, hT2, hf2⟩)
  have hZ2 := Blk.ofFr hZ hf2 (by omega)
  have kt := Below.one w2 (.cells #[.int .i64 t.k, .string t.s, .int .i64 t.n, .int .i64 t.x] 60)
  have hT3 := hT2.below kt
  have hB3 := Blk.new w2 60 #[.int .i64 t.k, .string t.s, .int .i64 t.n, .int .i64 t.x]
  have hZ3 := hZ2.below kt hZ2.lt
  have hfr3 : Fr [g] w (w2.alloc (.cells #[.int .i64 t.k, .string t.s, .int .i64 t.n, .int .i64 t.x] 60)) := (hfr.trans hf2).trans (Fr.of_below kt)
  have hTz : w.heap.size < w2.heap.size := hZ2.lt
  clear h1 hZ hfr HN hT2 hf2 hZ2 kt
  generalize w2.heap.size = b at hB3 hTz ⊢
  generalize w2.alloc (.cells #[.int .i64 t.k, .string t.s, .int .i64 t.n, .int .i64 t.x] 60) = wb at hT3 hB3 hZ3 hfr3 ⊢
  have e0 := hB3.cell 0
  have e1 := hB3.cell 1
  have e2 := hB3.cell 2
  have e3 := hB3.cell 3
  simp only [List.getElem?_toArray, List.getElem?_cons_succ, List.getElem?_cons_zero] at e0 e1 e2 e3
  have hZl := hZ3.lt
  go_upto_region 19 with fail
  have BZ := hZ3
  obtain ⟨x0, x1, x2, x3, x4, ⟨s0, t0⟩, ⟨s1, t1⟩, ⟨s2, t2⟩, ⟨s3, t3⟩, s4, t4⟩ := BZ.five (o := 0) (by simp) (.int .i64 2) (.int .i64 0) (.int .i64 0) (.string ⟨#[]⟩)
  go_wp2_with fail
  have hblk : Blk (set5 wb w.heap.size 0 (leafTr 2 0 0 ⟨#[]⟩) ⟨none, 0, 0, []⟩) w.heap.size 29 _ := Blk.five_ BZ (leafTr 2 0 0 ⟨#[]⟩) ⟨none, 0, 0, []⟩
  have hTR3 := (hT3).set5_ (g2 := w.heap.size) (o := 0) (t := (leafTr 2 0 0 ⟨#[]⟩)) (e := ⟨none, 0, 0, []⟩) hgl
  have hfr4 : Fr [g] w (set5 wb w.heap.size 0 (leafTr 2 0 0 ⟨#[]⟩) ⟨none, 0, 0, []⟩) := fr_new5 (hfr3) (Nat.le_refl _)
  have hres := fun (tm : Array Value) (hp : tm.getD 4 undef = .pointer (some ⟨w.heap.size, 0, none⟩)) => results_blk (P := Tryd.prog) (tmps := tm) Tryd.results49 Tryd.isAgg29 (by exact Tryd.sizeOf29) hp hblk
  refine bodyPost_ret (hres _ rfl) rfl ?_
  exact ⟨rfl, hTR3, hfr4⟩
set_option maxHeartbeats 4000000 in
theorem s_tree_numno (g : Nat) (A : Option Addr) (n c : Nat) (l : List Tk) (p : Nat) (dp d : Int) (w : World) (h : TP w g A n c l p dp 0) (hd : d ≤ dp) (t : Tk) (q : Nat) (hnx : NextFrom g A n c l p q dp t) (hk2 : (t.k == 2) = false) (hk3 : (t.k == 3) = true) (a b0 : Int) (hD : ∀ w1, Calls Tryd.prog 86 #[.int .i64 t.n, .int .i64 t.x] w1 fun r w' => r = .returned (.tuple #[.agg #[.int .i64 a, .int .i64 b0], .bool false]) ∧ Below w1.heap.size w1 w') :
    Calls Tryd.prog 49 #[.pointer (some ⟨g, 0, none⟩), .int .i64 d] w fun r w' => LeafS w w' g A n c l q dp 2 zeroT r := by
  have k1 := Below.one w (.cells #[.int .i64 0, .int .i64 0, .int .i64 0, .string ⟨#[]⟩, .slice none 0 0] 29)
  have h1 := h.below k1
  have hZ := Blk.new w 29 #[.int .i64 0, .int .i64 0, .int .i64 0, .string ⟨#[]⟩, .slice none 0 0]
  obtain ⟨c0, c1, c2, c3⟩ := h1.cells
  have hgl := h.blk.lt
  have hdd : decide (dp < d) = false := by simp; omega
  have hfr := Fr.of_below (fp := [g]) k1
  obtain ⟨u, hu⟩ : ∃ u, zeroT = u := ⟨_, rfl⟩
  have HU := Lib.hid hu
  unfold LeafS
  rw [hu]
  clear hu
  go_enter Tryd.func49, Tryd.ntmps49
  go_upto_region 3 with fail
  clear c0 c1 c2 c3
  generalize w.alloc (.cells #[.int .i64 0, .int .i64 0, .int .i64 0, .string ⟨#[]⟩, .slice none 0 0] 29) = wa at h1 hZ hfr ⊢
  have HN := hnx wa h1
  clear hnx h k1
  go_upto_region 4 with (go_at_call 84; refine HN.mono ?_; rintro r w2 ⟨rfl, hT2, hf2⟩)
  have hZ2 := Blk.ofFr hZ hf2 (by omega)
  have kt := Below.one w2 (.cells #[.int .i64 t.k, .string t.s, .int .i64 t.n, .int .i64 t.x] 60)
  have hT3 := hT2.below kt
  have hB3 := Blk.new w2 60 #[.int .i64 t.k, .string t.s, .int .i64 t.n, .int .i64 t.x]
  have hZ3 := hZ2.below kt hZ2.lt
  have hfr3 : Fr [g] w (w2.alloc (.cells #[.int .i64 t.k, .string t.s, .int .i64 t.n, .int .i64 t.x] 60)) := (hfr.trans hf2).trans (Fr.of_below kt)
  have hTz : w.heap.size < w2.heap.size := hZ2.lt
  clear h1 hZ hfr HN hT2 hf2 hZ2 kt
  generalize w2.heap.size = b at hB3 hTz ⊢
  generalize w2.alloc (.cells #[.int .i64 t.k, .string t.s, .int .i64 t.n, .int .i64 t.x] 60) = wb at hT3 hB3 hZ3 hfr3 ⊢
  have e0 := hB3.cell 0
  have e1 := hB3.cell 1
  have e2 := hB3.cell 2
  have e3 := hB3.cell 3
  simp only [List.getElem?_toArray, List.getElem?_cons_succ, List.getElem?_cons_zero] at e0 e1 e2 e3
  have hZl := hZ3.lt
  have HF := fun w1 (h1 : TP w1 g A n c l q dp 0) => s_l11Fail g A n c l q dp 0 2 w1 h1
  simp only [if_true] at HF
  unfold FailS at HF
  rw [HU.out] at HF
  go_wp2_with (first
    | (go_at_call 86; refine (hD _).mono ?_; rintro r w5 ⟨rfl, hb5⟩; have kd := hb5.up (Below.one w5 (.cells #[.int .i64 a, .int .i64 b0] 79)); have hT5 := hT3.below kd; have Z5 := hZ3.below kd hZl; have zl5 := Z5.lt)
    | (go_at_call 83; refine (HF _ hT5).mono ?_; rintro r w6 ⟨rfl, hT6, hf6⟩; have BZ := Blk.ofFr Z5 hf6 (by omega); obtain ⟨x0, x1, x2, x3, x4, ⟨s0, t0⟩, ⟨s1, t1⟩, ⟨s2, t2⟩, ⟨s3, t3⟩, s4, t4⟩ := BZ.five (o := 0) (by simp) (.int .i64 u.k) (.int .i64 u.n) (.int .i64 u.x) (.string u.s)))
  have hblk : Blk (set5 w6 w.heap.size 0 u ⟨none, 0, 0, []⟩) w.heap.size 29 _ := Blk.five_ BZ u ⟨none, 0, 0, []⟩
  have hTR3 := (hT6).set5_ (g2 := w.heap.size) (o := 0) (t := u) (e := ⟨none, 0, 0, []⟩) hgl
  have hfr4 : Fr [g] w (set5 w6 w.heap.size 0 u ⟨none, 0, 0, []⟩) := fr_new5 ((hfr3.trans (Fr.of_below kd)).trans hf6) (Nat.le_refl _)
  have hres := fun (tm : Array Value) (hp : tm.getD 4 undef = .pointer (some ⟨w.heap.size, 0, none⟩)) => results_blk (P := Tryd.prog) (tmps := tm) Tryd.results49 Tryd.isAgg29 (by exact Tryd.sizeOf29) hp hblk
  refine bodyPost_ret (hres _ rfl) rfl ?_
  exact ⟨rfl, hTR3, hfr4⟩
set_option maxHeartbeats 4000000 in
theorem s_tree_numyes (g : Nat) (A : Option Addr) (n c : Nat) (l : List Tk) (p : Nat) (dp d : Int) (w : World) (h : TP w g A n c l p dp 0) (hd : d ≤ dp) (t : Tk) (q : Nat) (hnx : NextFrom g A n c l p q dp t) (hk2 : (t.k == 2) = false) (hk3 : (t.k == 3) = true) (a b0 : Int) (hD : ∀ w1, Calls Tryd.prog 86 #[.int .i64 t.n, .int .i64 t.x] w1 fun r w' => r = .returned (.tuple #[.agg #[.int .i64 a, .int .i64 b0], .bool true]) ∧ Below w1.heap.size w1 w') :
    Calls Tryd.prog 49 #[.pointer (some ⟨g, 0, none⟩), .int .i64 d] w fun r w' => LeafS w w' g A n c l q dp 0 (numT a b0) r := by
  have k1 := Below.one w (.cells #[.int .i64 0, .int .i64 0, .int .i64 0, .string ⟨#[]⟩, .slice none 0 0] 29)
  have h1 := h.below k1
  have hZ := Blk.new w 29 #[.int .i64 0, .int .i64 0, .int .i64 0, .string ⟨#[]⟩, .slice none 0 0]
  obtain ⟨c0, c1, c2, c3⟩ := h1.cells
  have hgl := h.blk.lt
  have hdd : decide (dp < d) = false := by simp; omega
  have hfr := Fr.of_below (fp := [g]) k1
  have HV := fun w1 => s_NumberVal a b0 w1
  obtain ⟨u, hu⟩ : ∃ u, numT a b0 = u := ⟨_, rfl⟩
  rw [hu] at HV ⊢
  clear hu
  go_enter Tryd.func49, Tryd.ntmps49
  go_upto_region 3 with fail
  clear c0 c1 c2 c3
  generalize w.alloc (.cells #[.int .i64 0, .int .i64 0, .int .i64 0, .string ⟨#[]⟩, .slice none 0 0] 29) = wa at h1 hZ hfr ⊢
  have HN := hnx wa h1
  clear hnx h k1
  go_upto_region 4 with (go_at_call 84; refine HN.mono ?_; rintro r w2 ⟨rfl, hT2, hf2⟩)
  have hZ2 := Blk.ofFr hZ hf2 (by omega)
  have kt := Below.one w2 (.cells #[.int .i64 t.k, .string t.s, .int .i64 t.n, .int .i64 t.x] 60)
  have hT3 := hT2.below kt
  have hB3 := Blk.new w2 60 #[.int .i64 t.k, .string t.s, .int .i64 t.n, .int .i64 t.x]
  have hZ3 := hZ2.below kt hZ2.lt
  have hfr3 : Fr [g] w (w2.alloc (.cells #[.int .i64 t.k, .string t.s, .int .i64 t.n, .int .i64 t.x] 60)) := (hfr.trans hf2).trans (Fr.of_below kt)
  have hTz : w.heap.size < w2.heap.size := hZ2.lt
  clear h1 hZ hfr HN hT2 hf2 hZ2 kt
  generalize w2.heap.size = b at hB3 hTz ⊢
  generalize w2.alloc (.cells #[.int .i64 t.k, .string t.s, .int .i64 t.n, .int .i64 t.x] 60) = wb at hT3 hB3 hZ3 hfr3 ⊢
  have e0 := hB3.cell 0
  have e1 := hB3.cell 1
  have e2 := hB3.cell 2
  have e3 := hB3.cell 3
  simp only [List.getElem?_toArray, List.getElem?_cons_succ, List.getElem?_cons_zero] at e0 e1 e2 e3
  have hZl := hZ3.lt
  go_wp2_with (first
    | (go_at_call 86; refine (hD _).mono ?_; rintro r w5 ⟨rfl, hb5⟩; have kd := hb5.up (Below.one w5 (.cells #[.int .i64 a, .int .i64 b0] 79)); have hT5 := hT3.below kd; have Z5 := hZ3.below kd hZl; have zl5 := Z5.lt)
    | (go_at_call 87; refine (HV _).mono ?_; rintro r w6 ⟨rfl, hb6⟩; have BZ := Z5.below hb6 zl5; obtain ⟨x0, x1, x2, x3, x4, ⟨s0, t0⟩, ⟨s1, t1⟩, ⟨s2, t2⟩, ⟨s3, t3⟩, s4, t4⟩ := BZ.five (o := 0) (by simp) (.int .i64 u.k) (.int .i64 u.n) (.int .i64 u.x) (.string u.s)))
  have hblk : Blk (set5 w6 w.heap.size 0 u ⟨none, 0, 0, []⟩) w.heap.size 29 _ := Blk.five_ BZ u ⟨none, 0, 0, []⟩
  have hTR3 := (hT5.below hb6).set5_ (g2 := w.heap.size) (o := 0) (t := u) (e := ⟨none, 0, 0, []⟩) hgl
  have hfr4 : Fr [g] w (set5 w6 w.heap.size 0 u ⟨none, 0, 0, []⟩) := fr_new5 ((hfr3.trans (Fr.of_below kd)).trans (Fr.of_below hb6)) (Nat.le_refl _)
  have hres := fun (tm : Array Value) (hp : tm.getD 4 undef = .pointer (some ⟨w.heap.size, 0, none⟩)) => results_blk (P := Tryd.prog) (tmps := tm) Tryd.results49 Tryd.isAgg29 (by exact Tryd.sizeOf29) hp hblk
  refine bodyPost_ret (hres _ rfl) rfl ?_
  exact ⟨rfl, hTR3, hfr4⟩
set_option maxHeartbeats 4000000 in
theorem s_tree_list (g : Nat) (A : Option Addr) (n c : Nat) (l : List Tk) (p : Nat) (dp d : Int) (w : World) (h : TP w g A n c l p dp 0) (hd : d ≤ dp) (t : Tk) (q : Nat) (hnx : NextFrom g A n c l p q dp t) (hk2 : (t.k == 2) = false) (hk3 : (t.k == 3) = false) (hk4 : (t.k == 4) = false) (hk1 : (t.k == 1) = true) (hg91 : (t.s.toList == [91]) = true) (X : Rd) (hM : ∀ w1, TP w1 g A n c l q dp 0 → Calls Tryd.prog 88 #[.pointer (some ⟨g, 0, none⟩), .int .i64 d, .int .i64 9, .string ⟨#[93]⟩] w1 fun r w' => TreeAt w1 w' g A n c l dp X r) :
    Calls Tryd.prog 49 #[.pointer (some ⟨g, 0, none⟩), .int .i64 d] w fun r w' => TreeAt w w' g A n c l dp X r := by
  have k1 := Below.one w (.cells #[.int .i64 0, .int .i64 0, .int .i64 0, .string ⟨#[]⟩, .slice none 0 0] 29)
  have h1 := h.below k1
  have hZ := Blk.new w 29 #[.int .i64 0, .int .i64 0, .int .i64 0, .string ⟨#[]⟩, .slice none 0 0]
  obtain ⟨c0, c1, c2, c3⟩ := h1.cells
  have hgl := h.blk.lt
  have hdd : decide (dp < d) = false := by simp; omega
  have hfr := Fr.of_below (fp := [g]) k1
  go_enter Tryd.func49, Tryd.ntmps49
  go_upto_region 3 with fail
  clear c0 c1 c2 c3
  generalize w.alloc (.cells #[.int .i64 0, .int .i64 0, .int .i64 0, .string ⟨#[]⟩, .slice none 0 0] 29) = wa at h1 hZ hfr ⊢
  have HN := hnx wa h1
  clear hnx h k1
  go_upto_region 4 with (go_at_call 84; refine HN.mono ?_; rintro r w2 ⟨rfl, hT2, hf2⟩)
  have hZ2 := Blk.ofFr hZ hf2 (by omega)
  have kt := Below.one w2 (.cells #[.int .i64 t.k, .string t.s, .int .i64 t.n, .int .i64 t.x] 60)
  have hT3 := hT2.below kt
  have hB3 := Blk.new w2 60 #[.int .i64 t.k, .string t.s, .int .i64 t.n, .int .i64 t.x]
  have hZ3 := hZ2.below kt hZ2.lt
  have hfr3 : Fr [g] w (w2.alloc (.cells #[.int .i64 t.k, .string t.s, .int .i64 t.n, .int .i64 t.x] 60)) := (hfr.trans hf2).trans (Fr.of_below kt)
  have hTz : w.heap.size < w2.heap.size := hZ2.lt
  clear h1 hZ hfr HN hT2 hf2 hZ2 kt
  generalize w2.heap.size = b at hB3 hTz ⊢
  generalize w2.alloc (.cells #[.int .i64 t.k, .string t.s, .int .i64 t.n, .int .i64 t.x] 60) = wb at hT3 hB3 hZ3 hfr3 ⊢
  have e0 := hB3.cell 0
  have e1 := hB3.cell 1
  have e2 := hB3.cell 2
  have e3 := hB3.cell 3
  simp only [List.getElem?_toArray, List.getElem?_cons_succ, List.getElem?_cons_zero] at e0 e1 e2 e3
  have hZl := hZ3.lt
  have HM := hM wb hT3
  clear hM
  go_wp2_with (go_at_call 88; refine HM.mono ?_; rintro r w6 ⟨t6, u6, p6, k6, rfl, hl6, ho6, hT6, hf6, hok⟩; have BZ := Blk.ofFr hZ3 hf6 (by omega); obtain ⟨x0, x1, x2, x3, x4, ⟨s0, t0⟩, ⟨s1, t1⟩, ⟨s2, t2⟩, ⟨s3, t3⟩, s4, t4⟩ := BZ.five (o := 0) (by simp) (.int .i64 t6.k) (.int .i64 t6.n) (.int .i64 t6.x) (.string t6.s))
  have hn0 : w.heap.size ∉ u6.fp := fun hx => by have := (ho6.2 _ hx).1; omega
  have hblk : Blk (set5 w6 w.heap.size 0 t6 u6) w.heap.size 29 _ := Blk.five_ BZ t6 u6
  have hTR3 := hT6.set5_ (g2 := w.heap.size) (o := 0) (t := t6) (e := u6) hgl
  have hfr4 : Fr [g] w (set5 w6 w.heap.size 0 t6 u6) := fr_new5 (hfr3.trans hf6) (Nat.le_refl _)
  have hls5 := hl6.set5_ (e2 := u6) (g := w.heap.size) (o := 0) (t := t6) hn0
  have how5 := (ho6.mono (lo2 := w.heap.size) (by omega)).set5_ (g := w.heap.size) (o := 0) (t := t6) (e := u6) hn0
  have hres := fun (tm : Array Value) (hp : tm.getD 4 undef = .pointer (some ⟨w.heap.size, 0, none⟩)) => results_blk (P := Tryd.prog) (tmps := tm) Tryd.results49 Tryd.isAgg29 (by exact Tryd.sizeOf29) hp hblk
  refine bodyPost_ret (hres _ rfl) rfl ?_
  exact ⟨t6, u6, p6, k6, rfl, hls5, how5, hTR3, hfr4, hok⟩
set_option maxHeartbeats 4000000 in
theorem s_tree_map (g : Nat) (A : Option Addr) (n c : Nat) (l : List Tk) (p : Nat) (dp d : Int) (w : World) (h : TP w g A n c l p dp 0) (hd : d ≤ dp) (t : Tk) (q : Nat) (hnx : NextFrom g A n c l p q dp t) (hk2 : (t.k == 2) = false) (hk3 : (t.k == 3) = false) (hk4 : (t.k == 4) = false) (hk1 : (t.k == 1) = true) (hg91 : (t.s.toList == [91]) = false) (hg123 : (t.s.toList == [123]) = true) (X : Rd) (hM : ∀ w1, TP w1 g A n c l q dp 0 → Calls Tryd.prog 88 #[.pointer (some ⟨g, 0, none⟩), .int .i64 d, .int .i64 10, .string ⟨#[125]⟩] w1 fun r w' => TreeAt w1 w' g A n c l dp X r) :
    Calls Tryd.prog 49 #[.pointer (some ⟨g, 0, none⟩), .int .i64 d] w fun r w' => TreeAt w w' g A n c l dp X r := by
  have k1 := Below.one w (.cells #[.int .i64 0, .int .i64 0, .int .i64 0, .string ⟨#[]⟩, .slice none 0 0] 29)
  have h1 := h.below k1
  have hZ := Blk.new w 29 #[.int .i64 0, .int .i64 0, .int .i64 0, .string ⟨#[]⟩, .slice none 0 0]
  obtain ⟨c0, c1, c2, c3⟩ := h1.cells
  have hgl := h.blk.lt
  have hdd : decide (dp < d) = false := by simp; omega
  have hfr := Fr.of_below (fp := [g]) k1
  go_enter Tryd.func49, Tryd.ntmps49
  go_upto_region 3 with fail
  clear c0 c1 c2 c3
  generalize w.alloc (.cells #[.int .i64 0, .int .i64 0, .int .i64 0, .string ⟨#[]⟩, .slice none 0 0] 29) = wa at h1 hZ hfr ⊢
  have HN := hnx wa h1
  clear hnx h k1
  go_upto_region 4 with (go_at_call 84; refine HN.mono ?_; rintro r w2 ⟨rfl, hT2, hf2⟩)
  have hZ2 := Blk.ofFr hZ hf2 (by omega)
  have kt := Below.one w2 (.cells #[.int .i64 t.k, .string t.s, .int .i64 t.n, .int .i64 t.x] 60)
  have hT3 := hT2.below kt
  have hB3 := Blk.new w2 60 #[.int .i64 t.k, .string t.s, .int .i64 t.n, .int .i64 t.x]
  have hZ3 := hZ2.below kt hZ2.lt
  have hfr3 : Fr [g] w (w2.alloc (.cells #[.int .i64 t.k, .string t.s, .int .i64 t.n, .int .i64 t.x] 60)) := (hfr.trans hf2).trans (Fr.of_below kt)
  have hTz : w.heap.size < w2.heap.size := hZ2.lt
  clear h1 hZ hfr HN hT2 hf2 hZ2 kt
  generalize w2.heap.size = b at hB3 hTz ⊢
  generalize w2.alloc (.cells #[.int .i64 t.k, .string t.s, .int .i64 t.n, .int .i64 t.x] 60) = wb at hT3 hB3 hZ3 hfr3 ⊢
  have e0 := hB3.cell 0
  have e1 := hB3.cell 1
  have e2 := hB3.cell 2
  have e3 := hB3.cell 3
  simp only [List.getElem?_toArray, List.getElem?_cons_succ, List.getElem?_cons_zero] at e0 e1 e2 e3
  have hZl := hZ3.lt
  have HM := hM wb hT3
  clear hM
  go_wp2_with (go_at_call 88; refine HM.mono ?_; rintro r w6 ⟨t6, u6, p6, k6, rfl, hl6, ho6, hT6, hf6, hok⟩; have BZ := Blk.ofFr hZ3 hf6 (by omega); obtain ⟨x0, x1, x2, x3, x4, ⟨s0, t0⟩, ⟨s1, t1⟩, ⟨s2, t2⟩, ⟨s3, t3⟩, s4, t4⟩ := BZ.five (o := 0) (by simp) (.int .i64 t6.k) (.int .i64 t6.n) (.int .i64 t6.x) (.string t6.s))
  have hn0 : w.heap.size ∉ u6.fp := fun hx => by have := (ho6.2 _ hx).1; omega
  have hblk : Blk (set5 w6 w.heap.size 0 t6 u6) w.heap.size 29 _ := Blk.five_ BZ t6 u6
  have hTR3 := hT6.set5_ (g2 := w.heap.size) (o := 0) (t := t6) (e := u6) hgl
  have hfr4 : Fr [g] w (set5 w6 w.heap.size 0 t6 u6) := fr_new5 (hfr3.trans hf6) (Nat.le_refl _)
  have hls5 := hl6.set5_ (e2 := u6) (g := w.heap.size) (o := 0) (t := t6) hn0
  have how5 := (ho6.mono (lo2 := w.heap.size) (by omega)).set5_ (g := w.heap.size) (o := 0) (t := t6) (e := u6) hn0
  have hres := fun (tm : Array Value) (hp : tm.getD 4 undef = .pointer (some ⟨w.heap.size, 0, none⟩)) => results_blk (P := Tryd.prog) (tmps := tm) Tryd.results49 Tryd.isAgg29 (by exact Tryd.sizeOf29) hp hblk
  refine bodyPost_ret (hres _ rfl) rfl ?_
  exact ⟨t6, u6, p6, k6, rfl, hls5, how5, hTR3, hfr4, hok⟩
end Go.Proofs.YticejlknbfhndaaDoor

namespace Go.Proofs.YticejlknbfhndaaDoor
open Go.RowKit

def nxT (l : List Tk) (p : Nat) : Tk × Nat := match l[p]? with
  | none => (⟨0, ⟨#[]⟩, 0, 0⟩, p)
  | some t => (t, p + 1)
def isT (t : Tk) (sg : ByteArray) : Bool := (t.k == 1) && decide (t.s = sg)
theorem nxT_at {l : List Tk} {p : Nat} (h : p < l.length) : nxT l p = (l[p], p + 1) := by unfold nxT; rw [List.getElem?_eq_getElem h]
theorem nxT_end {l : List Tk} {p : Nat} (h : l.length ≤ p) : nxT l p = (⟨0, ⟨#[]⟩, 0, 0⟩, p) := by unfold nxT; rw [List.getElem?_eq_none h]
theorem signB_nx (l : List Tk) (p : Nat) (sg : ByteArray) : signB l p sg = isT (nxT l p).1 sg := by
  rcases Nat.lt_or_ge p l.length with h | h
  · rw [signB_at h, nxT_at h]; rfl
  · rw [signB_none h, nxT_end h]; rfl
theorem nxT_le {l : List Tk} {p : Nat} (h : p ≤ l.length) : p ≤ (nxT l p).2 ∧ (nxT l p).2 ≤ l.length := by
  rcases Nat.lt_or_ge p l.length with h1 | h1
  · rw [nxT_at h1]; exact ⟨Nat.le_succ _, h1⟩
  · rw [nxT_end h1]; exact ⟨Nat.le_refl _, h⟩
theorem sign_nx {l : List Tk} {p : Nat} {sg : ByteArray} (h : isT (nxT l p).1 sg = true) : p < l.length ∧ (nxT l p).2 = p + 1 := by
  rcases Nat.lt_or_ge p l.length with h1 | h1
  · rw [nxT_at h1]; exact ⟨h1, rfl⟩
  · rw [nxT_end h1] at h; cases h
theorem isT_excl {t : Tk} {a b : ByteArray} (h : isT t a = true) (hab : a ≠ b) : isT t b = false := by
  unfold isT at h ⊢
  rw [Bool.and_eq_true, decide_eq_true_eq] at h
  rw [h.2, decide_eq_false hab, Bool.and_false]
theorem many_ten (l : List Tk) (f : Nat) (sh : ByteArray) (d : Int) (q : Nat) (acc : List Tr) :
    (pM l (f + 1) 10 sh d q acc = .bad 1 ∧ ((nxT l q).1.k ≠ 2 ∨ ((nxT l q).1.k = 2 ∧ isT (nxT l (nxT l q).2).1 ⟨#[58]⟩ = false))) ∨
    ((nxT l q).1.k = 2 ∧ isT (nxT l (q + 1)).1 ⟨#[58]⟩ = true ∧ (nxT l q).2 = q + 1 ∧ (nxT l (q + 1)).2 = q + 2 ∧ q + 2 ≤ l.length ∧
      pM l (f + 1) 10 sh d q acc = stepR l f 10 sh d (pV l f (d - 1) (q + 2)) (acc ++ [leafTr 7 0 0 (nxT l q).1.s])) := by
  rw [pM, if_pos rfl]
  unfold nameRd
  rcases Nat.lt_or_ge q l.length with h1 | h1
  rotate_left
  · rw [List.getElem?_eq_none h1, nxT_end h1]
    exact .inl ⟨rfl, .inl (by show (0 : Int) ≠ 2; decide)⟩
  rw [List.getElem?_eq_getElem h1, nxT_at h1]
  by_cases hk : l[q].k = 2
  rotate_left
  · refine .inl ⟨?_, .inl hk⟩
    simp only [hk, false_and, if_false]
  cases hs : signB l (q + 1) ⟨#[58]⟩ with
  | false =>
    refine .inl ⟨?_, .inr ⟨hk, by rw [signB_nx] at hs; exact hs⟩⟩
    simp only [Bool.false_eq_true, and_false, if_false]
  | true =>
    have hs2 := hs
    rw [signB_nx] at hs2
    obtain ⟨h2, h3⟩ := sign_nx hs2
    refine .inr ⟨hk, hs2, rfl, h3, h2, ?_⟩
    simp only [hk, and_self, if_true]
    unfold stepR
    simp only [List.append_assoc, List.cons_append, List.nil_append]
    rfl
theorem step_shut {l : List Tk} {f : Nat} {k : Int} {sh : ByteArray} {d : Int} {acc : List Tr} {v : Tr} {q : Nat} (hsh : sh ≠ ⟨#[44]⟩) (h : isT (nxT l q).1 sh = true) :
    stepR l f k sh d (.good v q) acc = .good (acc ++ [v]) (q + 1) := by
  have h1 := isT_excl h hsh
  rw [← signB_nx] at h h1
  simp only [stepR, h, h1, Bool.false_eq_true, if_false, if_true]
theorem step_comma {l : List Tk} {f : Nat} {k : Int} {sh : ByteArray} {d : Int} {acc : List Tr} {v : Tr} {q : Nat} (h : isT (nxT l q).1 ⟨#[44]⟩ = true) :
    stepR l f k sh d (.good v q) acc = pM l f k sh d (q + 1) (acc ++ [v]) := by
  rw [← signB_nx] at h
  simp only [stepR, h, if_true]
theorem step_none {l : List Tk} {f : Nat} {k : Int} {sh : ByteArray} {d : Int} {acc : List Tr} {v : Tr} {q : Nat} (h1 : isT (nxT l q).1 sh = false) (h : isT (nxT l q).1 ⟨#[44]⟩ = false) :
    stepR l f k sh d (.good v q) acc = .bad 1 := by
  rw [← signB_nx] at h h1
  simp only [stepR, h, h1, Bool.false_eq_true, if_false]
theorem s_next (g : Nat) (A : Option Addr) (n c : Nat) (l : List Tk) (p : Nat) (dp : Int) : NextFrom g A n c l p (nxT l p).2 dp (nxT l p).1 := by
  intro w h
  have hl := h.len
  rcases Nat.lt_or_ge p l.length with h1 | h1
  · rw [nxT_at h1]; exact s_l11Next_yes g A n c l p dp 0 w h h1
  · rw [nxT_end h1]; exact s_l11Next_no g A n c l p dp 0 w h (by omega)
theorem LeafS.tree {w w' : World} {g : Nat} {A : Option Addr} {n c : Nat} {l : List Tk} {p : Nat} {dp k : Int} {t : Tr} {r : Ending} (h : LeafS w w' g A n c l p dp k t r) (hl : t.l = []) {X : Rd} (hx : X.ok t p k) : TreeAt w w' g A n c l dp X r := by
  obtain ⟨h1, h2, h3⟩ := h
  exact ⟨t, ⟨none, 0, 0, []⟩, p, k, h1, by rw [hl]; exact LsAt.nil_ _ _, Own.nil_ _ _, h2, h3, hx⟩
theorem LeafS.bad {w w' : World} {g : Nat} {A : Option Addr} {n c : Nat} {l : List Tk} {p : Nat} {dp k : Int} {r : Ending} (h : LeafS w w' g A n c l p dp k zeroT r) (hk : k ≠ 0) : TreeAt w w' g A n c l dp (.bad k) r := h.tree rfl ⟨rfl, hk⟩
theorem TP.belowB {w w' : World} {g n c p B : Nat} {A : Option Addr} {l : List Tk} {dp code : Int} (h : TP w g A n c l p dp code) (hb : Below B w w') (hg : g < B) : TP w' g A n c l p dp code :=
  ⟨h.blk.below hb hg, h.sl.below (hb.mono (Nat.le_of_lt hg)), h.bd⟩
/-- The row's new slice is written to the tree that is built. -/
theorem el_stepS {w w5 w6 : World} {g n c q m' c' : Nat} {A A' : Option Addr} {l : List Tk} {dp kc k : Int} {s0 : Value} {l' : List Tr} {es' : List El} (hT5 : TP w5 g A n c l q dp kc) (hf5 : Fr [g] w w5)
    (hR5 : Blk w5 w.heap.size 29 #[.int .i64 0, .int .i64 0, .int .i64 0, .string ⟨#[]⟩, .slice none 0 0]) (hO5 : Blk w5 (w.heap.size + 1) 29 #[.int .i64 k, .int .i64 0, .int .i64 0, .string ⟨#[]⟩, s0]) (h2 : RV w6 (w.heap.size + 2) A' m' c' l' es') (h3 : Below (w.heap.size + 2) w5 w6) (hg : g < w.heap.size) (v : Value) :
    TP (w6.setCell ⟨w.heap.size + 1, 4, none⟩ v) g A n c l q dp kc ∧ Blk (w6.setCell ⟨w.heap.size + 1, 4, none⟩ v) w.heap.size 29 #[.int .i64 0, .int .i64 0, .int .i64 0, .string ⟨#[]⟩, .slice none 0 0] ∧ Blk (w6.setCell ⟨w.heap.size + 1, 4, none⟩ v) (w.heap.size + 1) 29 #[.int .i64 k, .int .i64 0, .int .i64 0, .string ⟨#[]⟩, v] ∧ RV (w6.setCell ⟨w.heap.size + 1, 4, none⟩ v) (w.heap.size + 2) A' m' c' l' es' ∧ Fr [g] w (w6.setCell ⟨w.heap.size + 1, 4, none⟩ v) := by
  have hT6 := hT5.belowB h3 (by omega)
  refine ⟨⟨hT6.blk.far (p := ⟨w.heap.size + 1, 4, none⟩) (by show g ≠ w.heap.size + 1; omega) _, hT6.sl.setCell (p := ⟨w.heap.size + 1, 4, none⟩) (by show g ≤ w.heap.size + 1; omega) _, hT6.bd⟩, (hR5.below h3 (by omega)).far (p := ⟨w.heap.size + 1, 4, none⟩) (by show w.heap.size ≠ w.heap.size + 1; omega) _, ?_, ?_, fr_new (q := ⟨w.heap.size + 1, 4, none⟩) (fr_bel hf5 h3 (by omega)) (by show w.heap.size ≤ w.heap.size + 1; omega) _⟩
  · simpa using (hO5.below h3 (by omega)).set_ 4 v
  · exact h2.frg (g := w.heap.size + 1) ((Fr.refl _ _).setCell (by simp) _) (by omega)
end Go.Proofs.YticejlknbfhndaaDoor

namespace Go.Proofs.YticejlknbfhndaaDoor
open Go.RowKit

def TreeSays (g : Nat) (A : Option Addr) (n c : Nat) (l : List Tk) (dp : Int) (f : Nat) : Prop :=
  ∀ (p : Nat) (d : Int) (w : World), TP w g A n c l p dp 0 → p ≤ n → 2 * (n - p) + 1 ≤ f → 1 ≤ d → d ≤ p + 1 →
    Calls Tryd.prog 49 #[.pointer (some ⟨g, 0, none⟩), .int .i64 d] w fun r w' => TreeAt w w' g A n c l dp (pV l f (dp - d + 1) p) r
def ManySays (g : Nat) (A : Option Addr) (n c : Nat) (l : List Tk) (dp : Int) (f : Nat) : Prop :=
  ∀ (k : Int) (sh : ByteArray) (p : Nat) (d : Int) (w : World), k = 9 ∨ k = 10 → sh ≠ ⟨#[44]⟩ → TP w g A n c l (p + 1) dp 0 → p < n → 2 * (n - (p + 1)) + 2 ≤ f → 1 ≤ d → d ≤ p + 1 → d ≤ dp →
    Calls Tryd.prog 88 #[.pointer (some ⟨g, 0, none⟩), .int .i64 d, .int .i64 k, .string sh] w fun r w' => TreeAt w w' g A n c l dp (elRd l f k sh (dp - d + 1) p) r
set_option maxHeartbeats 4000000 in
theorem s_many_none (g : Nat) (A : Option Addr) (n c : Nat) (l : List Tk) (dp : Int) (k : Int) (sh : ByteArray) (p : Nat) (d : Int) (w : World) (h : TP w g A n c l (p + 1) dp 0) (hs : signB l (p + 1) sh = true) :
    Calls Tryd.prog 88 #[.pointer (some ⟨g, 0, none⟩), .int .i64 d, .int .i64 k, .string sh] w fun r w' => LeafS w w' g A n c l (p + 2) dp 0 (leafTr k 0 0 ⟨#[]⟩) r := by
  have hgl := h.blk.lt
  have k2 := Below.two w (.cells #[.int .i64 0, .int .i64 0, .int .i64 0, .string ⟨#[]⟩, .slice none 0 0] 29) (.cells #[.int .i64 k, .int .i64 0, .int .i64 0, .string ⟨#[]⟩, .slice none 0 0] 29)
  have h1 := h.below k2
  have hR : Blk ((w.alloc (.cells #[.int .i64 0, .int .i64 0, .int .i64 0, .string ⟨#[]⟩, .slice none 0 0] 29)).alloc (.cells #[.int .i64 k, .int .i64 0, .int .i64 0, .string ⟨#[]⟩, .slice none 0 0] 29)) w.heap.size 29 #[.int .i64 0, .int .i64 0, .int .i64 0, .string ⟨#[]⟩, .slice none 0 0] := (Blk.new w _ _).alloc _
  have hO : Blk ((w.alloc (.cells #[.int .i64 0, .int .i64 0, .int .i64 0, .string ⟨#[]⟩, .slice none 0 0] 29)).alloc (.cells #[.int .i64 k, .int .i64 0, .int .i64 0, .string ⟨#[]⟩, .slice none 0 0] 29)) (w.heap.size + 1) 29 #[.int .i64 k, .int .i64 0, .int .i64 0, .string ⟨#[]⟩, .slice none 0 0] := by simpa using Blk.new (w.alloc (.cells #[.int .i64 0, .int .i64 0, .int .i64 0, .string ⟨#[]⟩, .slice none 0 0] 29)) 29 #[.int .i64 k, .int .i64 0, .int .i64 0, .string ⟨#[]⟩, .slice none 0 0]
  have hfr := Fr.of_below (fp := [g]) k2
  have hN0 := s_next g A n c l (p + 1) dp
  have hsn := hs
  rw [signB_nx] at hsn
  rw [(sign_nx hsn).2] at hN0
  generalize (nxT l (p + 1)).1 = tk at hN0
  obtain ⟨u, hu⟩ : ∃ u, leafTr k 0 0 ⟨#[]⟩ = u := ⟨_, rfl⟩
  rw [hu]
  have HU := Lib.hid hu.symm
  clear hu hsn
  go_enter Tryd.func88, Tryd.ntmps88
  go_upto_region 2 with fail
  generalize (w.alloc (.cells #[.int .i64 0, .int .i64 0, .int .i64 0, .string ⟨#[]⟩, .slice none 0 0] 29)).alloc (.cells #[.int .i64 k, .int .i64 0, .int .i64 0, .string ⟨#[]⟩, .slice none 0 0] 29) = wa at h1 hR hO hfr ⊢
  have HP := s_l11Peek g A n c l (p + 1) dp 0 sh wa h1
  rw [hs] at HP
  clear k2 h hs
  have hzO := hO.lt
  go_upto_region 4 with (first
    | (go_at_call 125; refine HP.mono ?_; rintro r w4 ⟨rfl, hb4⟩; have h4 := h1.below hb4; have HN := hN0 w4 h4)
    | (go_at_call 84; refine HN.mono ?_; rintro r w5 ⟨rfl, hT5, hf5⟩))
  have R5 := Blk.ofFr (hR.below hb4 hR.lt) hf5 (by omega)
  have O5 := Blk.ofFr (hO.below hb4 hO.lt) hf5 (by omega)
  have f5 := (hfr.trans (Fr.of_below hb4)).trans hf5
  clear h1 hR hO hfr HP h4 HN hb4 hf5
  have b0 := O5.cell 0
  have b1 := O5.cell 1
  have b2 := O5.cell 2
  have b3 := O5.cell 3
  have b4 := O5.cell 4
  simp only [List.getElem?_toArray, List.getElem?_cons_succ, List.getElem?_cons_zero] at b0 b1 b2 b3 b4
  obtain ⟨x0, x1, x2, x3, x4, ⟨s0, t0⟩, ⟨s1, t1⟩, ⟨s2, t2⟩, ⟨s3, t3⟩, s4, t4⟩ := R5.five (o := 0) (by simp) (.int .i64 k) (.int .i64 0) (.int .i64 0) (.string ⟨#[]⟩)
  go_wp2_with fail
  have hblk : Blk (set5 w5 w.heap.size 0 (leafTr k 0 0 ⟨#[]⟩) ⟨none, 0, 0, []⟩) w.heap.size 29 _ := Blk.five_ R5 (leafTr k 0 0 ⟨#[]⟩) ⟨none, 0, 0, []⟩
  have hTR3 := hT5.set5_ (g2 := w.heap.size) (o := 0) (t := leafTr k 0 0 ⟨#[]⟩) (e := ⟨none, 0, 0, []⟩) hgl
  have hfr3 : Fr [g] w (set5 w5 w.heap.size 0 (leafTr k 0 0 ⟨#[]⟩) ⟨none, 0, 0, []⟩) := fr_new5 f5 (Nat.le_refl _)
  have hres := fun (tm : Array Value) (hp : tm.getD 8 undef = .pointer (some ⟨w.heap.size, 0, none⟩)) => results_blk (P := Tryd.prog) (tmps := tm) Tryd.results88 Tryd.isAgg29 (by exact Tryd.sizeOf29) hp hblk
  refine bodyPost_ret (hres _ rfl) rfl ?_
  exact ⟨by rw [HU.out], hTR3, hfr3⟩
set_option maxHeartbeats 8000000 in
theorem s_many_some (g : Nat) (A : Option Addr) (n c : Nat) (l : List Tk) (dp : Int) (F : Nat) (hV : ∀ f, f < F → TreeSays g A n c l dp f) (k : Int) (sh : ByteArray) (p : Nat) (d : Int) (w : World) (h : TP w g A n c l (p + 1) dp 0) (hs : signB l (p + 1) sh = false) (hk : k = 9 ∨ k = 10) (hsh : sh ≠ ⟨#[44]⟩) (hp : p < n) (hF : 2 * (n - (p + 1)) + 2 ≤ F) (hd1 : 1 ≤ d) (hd2 : d ≤ p + 1) (hdp : d ≤ dp) :
    Calls Tryd.prog 88 #[.pointer (some ⟨g, 0, none⟩), .int .i64 d, .int .i64 k, .string sh] w fun r w' => TreeAt w w' g A n c l dp (elRd l F k sh (dp - d + 1) p) r := by
  have hl := h.len
  have hbd := h.bd
  have hgl := h.blk.lt
  have k2 := Below.two w (.cells #[.int .i64 0, .int .i64 0, .int .i64 0, .string ⟨#[]⟩, .slice none 0 0] 29) (.cells #[.int .i64 k, .int .i64 0, .int .i64 0, .string ⟨#[]⟩, .slice none 0 0] 29)
  have h1 := h.below k2
  have hR : Blk ((w.alloc (.cells #[.int .i64 0, .int .i64 0, .int .i64 0, .string ⟨#[]⟩, .slice none 0 0] 29)).alloc (.cells #[.int .i64 k, .int .i64 0, .int .i64 0, .string ⟨#[]⟩, .slice none 0 0] 29)) w.heap.size 29 #[.int .i64 0, .int .i64 0, .int .i64 0, .string ⟨#[]⟩, .slice none 0 0] := (Blk.new w _ _).alloc _
  have hO : Blk ((w.alloc (.cells #[.int .i64 0, .int .i64 0, .int .i64 0, .string ⟨#[]⟩, .slice none 0 0] 29)).alloc (.cells #[.int .i64 k, .int .i64 0, .int .i64 0, .string ⟨#[]⟩, .slice none 0 0] 29)) (w.heap.size + 1) 29 #[.int .i64 k, .int .i64 0, .int .i64 0, .string ⟨#[]⟩, .slice none 0 0] := by simpa using Blk.new (w.alloc (.cells #[.int .i64 0, .int .i64 0, .int .i64 0, .string ⟨#[]⟩, .slice none 0 0] 29)) 29 #[.int .i64 k, .int .i64 0, .int .i64 0, .string ⟨#[]⟩, .slice none 0 0]
  have hfr := Fr.of_below (fp := [g]) k2
  obtain ⟨D, hD⟩ : ∃ D, dp - d + 1 = D := ⟨_, rfl⟩
  rw [hD]
  obtain ⟨R, hR0⟩ : ∃ R, pM l F k sh D (p + 1) [] = R := ⟨_, rfl⟩
  rw [elRd_some hs, hR0]
  have HR0 := Lib.hid hR0
  clear hR0
  go_enter Tryd.func88, Tryd.ntmps88
  go_upto_region 2 with fail
  generalize (w.alloc (.cells #[.int .i64 0, .int .i64 0, .int .i64 0, .string ⟨#[]⟩, .slice none 0 0] 29)).alloc (.cells #[.int .i64 k, .int .i64 0, .int .i64 0, .string ⟨#[]⟩, .slice none 0 0] 29) = wa at h1 hR hO hfr ⊢
  have HP := s_l11Peek g A n c l (p + 1) dp 0 sh wa h1
  rw [hs] at HP
  clear k2 h hs
  have hzO := hO.lt
  go_wp2_with (go_at_call 125; refine HP.mono ?_; rintro r wd ⟨rfl, hb4⟩)
  have hT6 := h1.below hb4
  have R6 := hR.below hb4 hR.lt
  have O6 := hO.below hb4 hO.lt
  have f6 := hfr.trans (Fr.of_below hb4)
  clear h1 hR hO hfr HP hb4 hzO
  have RV0 := RV.nil_ wd (w.heap.size + 2)
  go_loopg [10, 11, 12] n (fun f v10 v11 v12 wr => ∃ (q m' c' fq : Nat) (A' : Option Addr) (acc : List Tr) (es : List El), p + 1 ≤ q ∧ q ≤ n ∧ n - q ≤ f ∧ 2 * (n - q) + 2 ≤ fq ∧ fq ≤ F ∧ m' ≤ 2 * q ∧ Hid (pM l fq k sh D q acc = R) ∧ TP wr g A n c l q dp 0 ∧ Blk wr w.heap.size 29 #[.int .i64 0, .int .i64 0, .int .i64 0, .string ⟨#[]⟩, .slice none 0 0] ∧ Blk wr (w.heap.size + 1) 29 #[.int .i64 k, .int .i64 0, .int .i64 0, .string ⟨#[]⟩, .slice A' m' c'] ∧ RV wr (w.heap.size + 2) A' m' c' acc es ∧ Fr [g] w wr)
  case atStart => exact ⟨p + 1, 0, 0, F, none, [], [], Nat.le_refl _, by omega, by omega, hF, Nat.le_refl _, Nat.zero_le _, HR0, hT6, R6, O6, RV0, f6⟩
  case round =>
    obtain ⟨q, m', c', fq, A', acc, es, hpq, hqn, hqf, hfq, hfF, hm', hP, hT, hR, hO, hRV, hfr⟩ := hrel
    obtain ⟨fq, rfl⟩ : ∃ z, fq = z + 1 := ⟨fq - 1, by omega⟩
    clear hT6 R6 O6 f6 RV0 HR0
    obtain ⟨c0, c1, c2, c3⟩ := hT.cells
    have hsp : (k = 10 ∧ R = .bad 1 ∧ ((nxT l q).1.k ≠ 2 ∨ ((nxT l q).1.k = 2 ∧ isT (nxT l (nxT l q).2).1 ⟨#[58]⟩ = false))) ∨ (∃ (acc2 : List Tr) (q2 : Nat), Hid (stepR l fq k sh D (pV l fq (D - 1) q2) acc2 = R) ∧ q ≤ q2 ∧ q2 ≤ n ∧ ((k = 9 ∧ acc2 = acc ∧ q2 = q) ∨ (k = 10 ∧ (nxT l q).1.k = 2 ∧ isT (nxT l (q + 1)).1 ⟨#[58]⟩ = true ∧ (nxT l q).2 = q + 1 ∧ (nxT l (q + 1)).2 = q + 2 ∧ acc2 = acc ++ [leafTr 7 0 0 (nxT l q).1.s] ∧ q2 = q + 2))) := by
      rcases hk with rfl | rfl
      · exact .inr ⟨acc, q, Lib.hid (by rw [← pM_nine]; exact hP.out), Nat.le_refl _, hqn, .inl ⟨rfl, rfl, rfl⟩⟩
      · rcases many_ten l fq sh D q acc with ⟨h1, h2⟩ | ⟨h1, h2, h3, h4, h5, h6⟩
        · exact .inl ⟨rfl, hP.out.symm.trans h1, h2⟩
        · exact .inr ⟨_, q + 2, Lib.hid (h6.symm.trans hP.out), by omega, by omega, .inr ⟨rfl, h1, h2, h3, h4, rfl, rfl⟩⟩
    have hcz : w.heap.size + 2 ≤ wr.heap.size := hO.lt
    clear hP
    rcases hsp with ⟨rfl, hRb, hbad⟩ | ⟨acc2, q2, hst, hq2, hq2n, hfirst⟩
    · subst hRb
      obtain ⟨u, hu⟩ : ∃ u, zeroT = u := ⟨_, rfl⟩
      have HU := Lib.hid hu
      clear hu
      have HN := s_next g A n c l q dp wr hT
      have HF := fun w1 q1 (h1 : TP w1 g A n c l q1 dp 0) => s_l11Fail g A n c l q1 dp 0 1 w1 h1
      simp only [if_true] at HF
      unfold FailS at HF
      rw [HU.out] at HF
      rcases hbad with hk2 | ⟨hk2, his⟩
      · generalize nxT l q = x at HN hk2
        obtain ⟨tk, q1⟩ := x
        simp only at HN hk2
        have hkb : (tk.k != 2) = true := by simpa using hk2
        clear hk2 hV hO hRV
        go_wp2_with (first
          | (skip; go_at_call 84; refine HN.mono ?_; rintro r w5 ⟨rfl, hT5, hf5⟩; clear HN; have kt := Below.one w5 (.cells #[.int .i64 tk.k, .string tk.s, .int .i64 tk.n, .int .i64 tk.x] 60); have hT6 := hT5.below kt; have e0 := (Blk.new w5 60 #[.int .i64 tk.k, .string tk.s, .int .i64 tk.n, .int .i64 tk.x]).cell 0; simp only [List.getElem?_toArray, List.getElem?_cons_succ, List.getElem?_cons_zero] at  e0; have R6 := (Blk.ofFr hR hf5 (by omega)).below kt (Blk.ofFr hR hf5 (by omega)).lt)
          | (go_at_call 83; refine (HF _ _ hT6).mono ?_; rintro r w9 ⟨rfl, hT9, hf9⟩; have BZ := Blk.ofFr R6 hf9 (by omega); obtain ⟨x0, x1, x2, x3, x4, ⟨s0, t0⟩, ⟨s1, t1⟩, ⟨s2, t2⟩, ⟨s3, t3⟩, s4, t4⟩ := BZ.five (o := 0) (by simp) (.int .i64 u.k) (.int .i64 u.n) (.int .i64 u.x) (.string u.s)))
        have hblk : Blk (set5 w9 w.heap.size 0 u ⟨none, 0, 0, []⟩) w.heap.size 29 _ := Blk.five_ BZ u ⟨none, 0, 0, []⟩
        have hTR3 := (hT9).set5_ (g2 := w.heap.size) (o := 0) (t := u) (e := ⟨none, 0, 0, []⟩) hgl
        have hfr9 : Fr [g] w (set5 w9 w.heap.size 0 u ⟨none, 0, 0, []⟩) := fr_new5 (((hfr.trans hf5).trans (Fr.of_below kt)).trans hf9) (Nat.le_refl _)
        have hres := fun (tm : Array Value) (hp : tm.getD 8 undef = .pointer (some ⟨w.heap.size, 0, none⟩)) => results_blk (P := Tryd.prog) (tmps := tm) Tryd.results88 Tryd.isAgg29 (by exact Tryd.sizeOf29) hp hblk
        refine bodyPost_ret (hres _ rfl) rfl ?_
        exact LeafS.bad (k := 1) ⟨by rw [HU.out], hTR3, hfr9⟩ (by decide)
      · have HN2 := fun w1 q1 (h1 : TP w1 g A n c l q1 dp 0) => s_next g A n c l q1 dp w1 h1
        generalize nxT l q = x at HN hk2 his
        obtain ⟨tk, q1⟩ := x
        simp only at HN hk2 his
        replace HN2 := fun w1 => HN2 w1 q1
        generalize nxT l q1 = y at HN2 his
        obtain ⟨t2, q3⟩ := y
        simp only at HN2 his
        have HIS := fun w1 => s_l11Is t2 ⟨#[58]⟩ w1
        change ∀ w1, Calls _ _ _ _ (fun r w' => r = .returned (.bool (isT t2 ⟨#[58]⟩)) ∧ _) at HIS
        rw [his] at HIS
        have hkb : (tk.k != 2) = false := by simp [hk2]
        clear hk2 hV hO hRV his
        go_wp2_with (first
          | (have hq := HN; clear hq; go_at_call 84; refine HN.mono ?_; rintro r w5 ⟨rfl, hT5, hf5⟩; clear HN; have kt := Below.one w5 (.cells #[.int .i64 tk.k, .string tk.s, .int .i64 tk.n, .int .i64 tk.x] 60); have hT6 := hT5.below kt; have e0 := (Blk.new w5 60 #[.int .i64 tk.k, .string tk.s, .int .i64 tk.n, .int .i64 tk.x]).cell 0; simp only [List.getElem?_toArray, List.getElem?_cons_succ, List.getElem?_cons_zero] at  e0; have R6 := (Blk.ofFr hR hf5 (by omega)).below kt (Blk.ofFr hR hf5 (by omega)).lt; have R6l := R6.lt; have HNN := HN2 _ hT6)
          | (go_at_call 84; refine HNN.mono ?_; rintro r w7 ⟨rfl, hT7, hf7⟩)
          | (go_at_call 126; refine (HIS _).mono ?_; rintro r w8 ⟨rfl, hb8⟩; have hT8 := hT7.below hb8; have R7 := Blk.ofFr R6 hf7 (by omega); have R8 := R7.below hb8 R7.lt)
          | (go_at_call 83; refine (HF _ _ hT8).mono ?_; rintro r w9 ⟨rfl, hT9, hf9⟩; have BZ := Blk.ofFr R8 hf9 (by omega); obtain ⟨x0, x1, x2, x3, x4, ⟨s0, t0⟩, ⟨s1, t1⟩, ⟨s2, t2⟩, ⟨s3, t3⟩, s4, t4⟩ := BZ.five (o := 0) (by simp) (.int .i64 u.k) (.int .i64 u.n) (.int .i64 u.x) (.string u.s)))
        have hblk : Blk (set5 w9 w.heap.size 0 u ⟨none, 0, 0, []⟩) w.heap.size 29 _ := Blk.five_ BZ u ⟨none, 0, 0, []⟩
        have hTR3 := (hT9).set5_ (g2 := w.heap.size) (o := 0) (t := u) (e := ⟨none, 0, 0, []⟩) hgl
        have hfr9 : Fr [g] w (set5 w9 w.heap.size 0 u ⟨none, 0, 0, []⟩) := fr_new5 (((((hfr.trans hf5).trans (Fr.of_below kt)).trans hf7).trans (Fr.of_below hb8)).trans hf9) (Nat.le_refl _)
        have hres := fun (tm : Array Value) (hp : tm.getD 8 undef = .pointer (some ⟨w.heap.size, 0, none⟩)) => results_blk (P := Tryd.prog) (tmps := tm) Tryd.results88 Tryd.isAgg29 (by exact Tryd.sizeOf29) hp hblk
        refine bodyPost_ret (hres _ rfl) rfl ?_
        exact LeafS.bad (k := 1) ⟨by rw [HU.out], hTR3, hfr9⟩ (by decide)
    have hval := fun w1 (h1 : TP w1 g A n c l q2 dp 0) => hV fq (by omega) q2 (d + 1) w1 h1 hq2n (by omega) (by omega) (by omega)
    rw [show dp - (d + 1) + 1 = D - 1 by omega] at hval
    obtain ⟨X, hX⟩ : ∃ X, pV l fq (D - 1) q2 = X := ⟨_, rfl⟩
    rw [hX] at hst hval
    have hXp : ∀ t0 p0, X = .good t0 p0 → q2 < p0 := fun t0 p0 he => (pVM_good l fq).1 _ _ _ _ (hX.trans he)
    clear hX hV
    go_upto_if 27 with fail
    go_cut [] from 21 to 75 (fun w' => ∃ (m2 c2 : Nat) (A2 : Option Addr) (es2 : List El), m2 ≤ 2 * q + 1 ∧ TP w' g A n c l q2 dp 0 ∧ Blk w' w.heap.size 29 #[.int .i64 0, .int .i64 0, .int .i64 0, .string ⟨#[]⟩, .slice none 0 0] ∧ Blk w' (w.heap.size + 1) 29 #[.int .i64 k, .int .i64 0, .int .i64 0, .string ⟨#[]⟩, .slice A2 m2 c2] ∧ RV w' (w.heap.size + 2) A2 m2 c2 acc2 es2 ∧ Fr [g] w w')
    case first =>
      clear hst hval hXp
      rcases hfirst with ⟨rfl, rfl, rfl⟩ | ⟨rfl, hk2, his, hn1, hn2, rfl, rfl⟩
      · go_wp2_with fail
        go_meet
        case rel => exact ⟨m', c', A', es, by omega, hT, hR, hO, hRV, hfr⟩
      · have HN := s_next g A n c l q dp wr hT
        have HN2 := fun w1 (h1 : TP w1 g A n c l (q + 1) dp 0) => s_next g A n c l (q + 1) dp w1 h1
        rw [hn1] at HN
        rw [hn2] at HN2
        obtain ⟨tk, htk⟩ : ∃ tk, (nxT l q).1 = tk := ⟨_, rfl⟩
        rw [htk] at HN hk2
        have Htk := Lib.hid htk
        generalize (nxT l (q + 1)).1 = t2 at HN2 his
        have HIS := fun w1 => s_l11Is t2 ⟨#[58]⟩ w1
        change ∀ w1, Calls _ _ _ _ (fun r w' => r = .returned (.bool (isT t2 ⟨#[58]⟩)) ∧ _) at HIS
        rw [his] at HIS
        have hkb : (tk.k != 2) = false := by simp [hk2]
        have HTV := fun w1 => s_TextVal tk.s w1
        obtain ⟨u, hu⟩ : ∃ u, leafTr 7 0 0 tk.s = u := ⟨_, rfl⟩
        rw [hu] at HTV
        have hul : u.l = [] := by rw [← hu]; rfl
        have HU := Lib.hid hu
        clear hk2 his hn1 hn2 htk hu
        go_upto_region 10 with (first
          | (have hq := HN; clear hq; go_at_call 84; refine HN.mono ?_; rintro r w5 ⟨rfl, hT5, hf5⟩; clear HN; have kt := Below.one w5 (.cells #[.int .i64 tk.k, .string tk.s, .int .i64 tk.n, .int .i64 tk.x] 60); have hT6 := hT5.below kt; have e0 := (Blk.new w5 60 #[.int .i64 tk.k, .string tk.s, .int .i64 tk.n, .int .i64 tk.x]).cell 0; simp only [List.getElem?_toArray, List.getElem?_cons_succ, List.getElem?_cons_zero] at  e0; have R6 := (Blk.ofFr hR hf5 (by omega)).below kt (Blk.ofFr hR hf5 (by omega)).lt; have R6l := R6.lt; have HNN := HN2 _ hT6)
          | (go_at_call 84; refine HNN.mono ?_; rintro r w7 ⟨rfl, hT7, hf7⟩)
          | (go_at_call 126; refine (HIS _).mono ?_; rintro r w8 ⟨rfl, hb8⟩; have hT8 := hT7.below hb8; have R7 := Blk.ofFr R6 hf7 (by omega); have R8 := R7.below hb8 R7.lt))
        have O6 := (Blk.ofFr hO hf5 (by omega)).below kt (Blk.ofFr hO hf5 (by omega)).lt
        have zg : g < w5.heap.size := hT5.blk.lt
        have zb : w.heap.size + 2 ≤ w5.heap.size := Nat.le_trans hcz hf5.size
        have O7 := Blk.ofFr O6 hf7 (by omega)
        have O8 := O7.below hb8 O7.lt
        have B6 := Blk.new w5 60 #[.int .i64 tk.k, .string tk.s, .int .i64 tk.n, .int .i64 tk.x]
        have B7 := Blk.ofFr B6 hf7 (by omega)
        have B8 := B7.below hb8 B7.lt
        have V8 := (((hRV.frg hf5 (by omega)).below kt).frg hf7 (by omega)).below hb8
        have F8 := (((hfr.trans hf5).trans (Fr.of_below kt)).trans hf7).trans (Fr.of_below hb8)
        have z8 : w.heap.size + 2 ≤ w8.heap.size := O8.lt
        clear hT5 hf5 kt hT6 e0 R6 HNN R6l hT7 hf7 R7 hT hR hO hRV hfr O6 O7 B6 B7 hb8 c0 c1 c2 c3
        generalize w5.heap.size = bt at B8 zg zb ⊢
        have p4 := O8.cell 4
        have e1 := B8.cell 1
        simp only [List.getElem?_toArray, List.getElem?_cons_succ, List.getElem?_cons_zero] at p4 e1
        have V8d := V8.below (Below.refl _ w8).drew
        have HT8 := HTV w8.drew
        clear HTV
        have e1d : w8.drew.cell? ⟨bt, 1, none⟩ = some (.string tk.s) := e1
        go_region_law (first
          | (go_simp; go_at_call 85; refine HT8.mono ?_; rintro r w9 ⟨rfl, hb9⟩; have k9 : Below w8.heap.size w8 w9 := (Below.refl w8.heap.size w8).drew.up hb9; have hO9 := O8.below k9 O8.lt; have hR9 := R8.below k9 R8.lt; have hT9 := hT8.below k9; have p5 := hO9.cell 4; have p6 := (hO9.alloc (.cells #[.int .i64 u.k, .int .i64 u.n, .int .i64 u.x, .string u.s, .slice none 0 0] 29)).cell 4; simp only [List.getElem?_toArray, List.getElem?_cons_succ, List.getElem?_cons_zero] at p5 p6)
          | (refine step_val (u := ⟨none, 0, 0, []⟩) rfl (.tmp 42) (.tmp 46) rfl (V8d.below hb9) (by simp [Act.eval, Act.put]) rfl (by simp [Act.eval, Act.put]) (by rw [hul]; exact LsAt.nil_ _ _) (Own.nil_ _ _) (by simp) (by omega) (Nat.le_trans z8 k9.size) ?_; intro A3 c3 w6 h6 hb6 hg6; have hO6 := hO9.below hb6 (by omega); have p7 := hO6.cell 4; have f7 := hO6.frozen 4; simp only [List.getElem?_toArray, List.getElem?_cons_succ, List.getElem?_cons_zero] at p7; obtain ⟨hE1, hE2, hE3, hE4, hE5⟩ := el_stepS hT9 (F8.trans (Fr.of_below k9)) hR9 hO9 h6 hb6 hgl (.slice A3 (m' + 1) c3)))
        all_goals
          go_wp2_with fail
          go_meet
          case rel => rw [Htk.out, HU.out]; exact ⟨m' + 1, c3, A3, es ++ [⟨none, 0, 0, []⟩], by omega, hE1, hE2, hE3, hE4, hE5⟩
    case rest =>
      obtain ⟨m2, c2, A2, es2, hm2, hT2, hR2, hO2, hRV2, hfr2⟩ := hcut
      clear hT hR hO hRV hfr hfirst hcz
      have hcz2 : w.heap.size + 2 ≤ wc.heap.size := hO2.lt
      have HV := hval wc hT2
      have hd3 : IntKind.i64.wrap (d + 1) = d + 1 := by rw [IntKind.wrap_i64]; omega
      have hnm : m2 + 1 ≤ 1099511627776 := by omega
      clear hval
      go_upto_region 13 with (first
        | (go_at_call 49; refine HV.mono ?_; rintro r w5 ⟨t, u, p', kc, rfl, hl5, ho5, hT5, hf5, hok⟩; have kx := Below.one w5 (.cells #[.int .i64 t.k, .int .i64 t.n, .int .i64 t.x, .string t.s, .slice u.A u.n u.c] 29); have hO5 := (Blk.ofFr hO2 hf5 (by omega)).below kx (Blk.ofFr hO2 hf5 (by omega)).lt; have hR5 := (Blk.ofFr hR2 hf5 (by omega)).below kx (Blk.ofFr hR2 hf5 (by omega)).lt; have hT5a := hT5.below kx; have hV5 := (hRV2.frg hf5 (by omega)).below kx; have hl5a := hl5.below (fun g hg => ho5.lt hg) kx; have ho5a := (ho5.below (fun g hg => ho5.lt hg) kx).mono (lo2 := w.heap.size + 2) hcz2; have hdd := hRV2.newOwn ho5; have zb5 : w.heap.size + 2 ≤ (w5.alloc (.cells #[.int .i64 t.k, .int .i64 t.n, .int .i64 t.x, .string t.s, .slice u.A u.n u.c] 29)).heap.size := hO5.lt; have p5 := hO5.cell 4; have v0 := (Blk.new w5 29 #[.int .i64 t.k, .int .i64 t.n, .int .i64 t.x, .string t.s, .slice u.A u.n u.c]).cell 0; have v1 := (Blk.new w5 29 #[.int .i64 t.k, .int .i64 t.n, .int .i64 t.x, .string t.s, .slice u.A u.n u.c]).cell 1; have v2 := (Blk.new w5 29 #[.int .i64 t.k, .int .i64 t.n, .int .i64 t.x, .string t.s, .slice u.A u.n u.c]).cell 2; have v3 := (Blk.new w5 29 #[.int .i64 t.k, .int .i64 t.n, .int .i64 t.x, .string t.s, .slice u.A u.n u.c]).cell 3; have v4 := (Blk.new w5 29 #[.int .i64 t.k, .int .i64 t.n, .int .i64 t.x, .string t.s, .slice u.A u.n u.c]).cell 4; simp only [List.getElem?_toArray, List.getElem?_cons_succ, List.getElem?_cons_zero] at v0 v1 v2 v3 v4 p5)
        | (at_builtin; refine app_val rfl _ _ rfl hV5 rfl (by first | rfl | simp) rfl hl5a ho5a hdd hnm zb5 ?_; intro A3 c3 w6 h6 hb6 hg6; have hO6 := hO5.below hb6 (by omega); have p7 := hO6.cell 4; have f7 := hO6.frozen 4; simp only [List.getElem?_toArray, List.getElem?_cons_succ, List.getElem?_cons_zero] at p7))
      obtain ⟨E1, E2, E3, E4, E5⟩ := el_stepS hT5a ((hfr2.trans hf5).trans (Fr.of_below kx)) hR5 hO5 h6 hb6 hgl (.slice A3 (m2 + 1) c3)
      generalize w6.setCell ⟨w.heap.size + 1, 4, none⟩ (.slice A3 (m2 + 1) c3) = we at E1 E2 E3 E4 E5 ⊢
      clear hT2 hR2 hO2 hRV2 hfr2 hcz2 HV hl5 ho5 hT5 hf5 kx hO5 hR5 hT5a hV5 hl5a ho5a hdd zb5 p5 v0 v1 v2 v3 v4 h6 hb6 hg6 hO6 p7 f7
      have hze : w.heap.size + 2 ≤ we.heap.size := E3.lt
      obtain ⟨d0, d1, d2, d3⟩ := E1.cells
      cases X with
      | bad cd =>
        obtain ⟨hkc, hc0⟩ := hok
        rw [← hkc] at hc0 hst
        have hRb : RdL.bad kc = R := hst.out
        have HRb := Lib.hid hRb
        have hcb : (kc != 0) = true := by simpa using hc0
        have BZ := E2
        obtain ⟨x0, x1, x2, x3, x4, ⟨s0, t0⟩, ⟨s1, t1⟩, ⟨s2, t2⟩, ⟨s3, t3⟩, s4, t4⟩ := BZ.five (o := 0) (by simp) (.int .i64 0) (.int .i64 0) (.int .i64 0) (.string ⟨#[]⟩)
        clear hst hRb hkc
        go_wp2_with fail
        have hblk : Blk (set5 we w.heap.size 0 zeroT ⟨none, 0, 0, []⟩) w.heap.size 29 _ := Blk.five_ BZ zeroT ⟨none, 0, 0, []⟩
        have hTR3 := E1.set5_ (g2 := w.heap.size) (o := 0) (t := zeroT) (e := ⟨none, 0, 0, []⟩) hgl
        have hfr9 : Fr [g] w (set5 we w.heap.size 0 zeroT ⟨none, 0, 0, []⟩) := fr_new5 E5 (Nat.le_refl _)
        have hres := fun (tm : Array Value) (hp : tm.getD 8 undef = .pointer (some ⟨w.heap.size, 0, none⟩)) => results_blk (P := Tryd.prog) (tmps := tm) Tryd.results88 Tryd.isAgg29 (by exact Tryd.sizeOf29) hp hblk
        refine bodyPost_ret (hres _ rfl) rfl ?_
        rw [← HRb.out]
        exact LeafS.bad (k := kc) ⟨rfl, hTR3, hfr9⟩ hc0
      | good v0 q0 =>
        obtain ⟨rfl, rfl, rfl⟩ := hok
        have hqp := hXp _ _ rfl
        clear hXp
        have HN := s_next g A n c l p' dp we E1
        obtain ⟨tk, htk⟩ : ∃ tk, (nxT l p').1 = tk := ⟨_, rfl⟩
        obtain ⟨q4, hq4⟩ : ∃ q4, (nxT l p').2 = q4 := ⟨_, rfl⟩
        rw [htk, hq4] at HN
        have Htk := Lib.hid htk
        have Hq4 := Lib.hid hq4
        clear htk hq4
        go_upto_region 16 with (go_at_call 84; refine HN.mono ?_; rintro r w7 ⟨rfl, hT7, hf7⟩)
        have kt := Below.one w7 (.cells #[.int .i64 tk.k, .string tk.s, .int .i64 tk.n, .int .i64 tk.x] 60)
        have G1 := hT7.below kt
        have G2 := (Blk.ofFr E2 hf7 (by omega)).below kt (Blk.ofFr E2 hf7 (by omega)).lt
        have G3 := (Blk.ofFr E3 hf7 (by omega)).below kt (Blk.ofFr E3 hf7 (by omega)).lt
        have G4 := (E4.frg hf7 (by omega)).below kt
        have G5 := (E5.trans hf7).trans (Fr.of_below kt)
        have GB := Blk.new w7 60 #[.int .i64 tk.k, .string tk.s, .int .i64 tk.n, .int .i64 tk.x]
        generalize w7.heap.size = bt at GB ⊢
        generalize w7.alloc (.cells #[.int .i64 tk.k, .string tk.s, .int .i64 tk.n, .int .i64 tk.x] 60) = wf at G1 G2 G3 G4 G5 GB ⊢
        clear HN hT7 hf7 kt E1 E2 E3 E4 E5 hze d0 d1 d2 d3
        have e0 := GB.cell 0
        have e1 := GB.cell 1
        have e2 := GB.cell 2
        have e3 := GB.cell 3
        simp only [List.getElem?_toArray, List.getElem?_cons_succ, List.getElem?_cons_zero] at e0 e1 e2 e3
        have HIS := fun w1 => s_l11Is tk sh w1
        change ∀ w1, Calls _ _ _ _ (fun r w' => r = .returned (.bool (isT tk sh)) ∧ _) at HIS
        cases hb1 : isT tk sh with
        | true =>
          have hq4 := (sign_nx (by rw [Htk.out]; exact hb1)).2
          rw [Hq4.out] at hq4
          rw [step_shut hsh (by rw [Htk.out]; exact hb1)] at hst
          have HRb := Lib.hid hst.out
          rw [hb1] at HIS
          subst hq4
          go_upto_region 17 with (go_at_call 126; refine (HIS _).mono ?_; rintro r w8 ⟨rfl, hb8⟩)
          have O8 := G3.below hb8 G3.lt
          have R8 := G2.below hb8 G2.lt
          have T8 := G1.below hb8
          have V8 := G4.below hb8
          have F8 := G5.trans (Fr.of_below hb8)
          have b0 := O8.cell 0
          have b1 := O8.cell 1
          have b2 := O8.cell 2
          have b3 := O8.cell 3
          have b4 := O8.cell 4
          simp only [List.getElem?_toArray, List.getElem?_cons_succ, List.getElem?_cons_zero] at b0 b1 b2 b3 b4
          obtain ⟨x0, x1, x2, x3, x4, ⟨s0, t0⟩, ⟨s1, t1⟩, ⟨s2, t2⟩, ⟨s3, t3⟩, s4, t4⟩ := R8.five (o := 0) (by simp) (.int .i64 k) (.int .i64 0) (.int .i64 0) (.string ⟨#[]⟩)
          clear G1 G2 G3 G4 G5 GB e0 e1 e2 e3 hst HIS
          go_wp2_with fail
          obtain ⟨fp, hls, hown, _⟩ := V8.list V8.cap.1 V8.cap.2
          have hn0 : w.heap.size ∉ fp := fun hx => by have := (hown.2 _ hx).1; omega
          have hblk : Blk (set5 w8 w.heap.size 0 ⟨k, 0, 0, ⟨#[]⟩, acc2 ++ [t]⟩ ⟨A3, m2 + 1, c3, fp⟩) w.heap.size 29 _ := Blk.five_ R8 ⟨k, 0, 0, ⟨#[]⟩, acc2 ++ [t]⟩ ⟨A3, m2 + 1, c3, fp⟩
          have hTR3 := T8.set5_ (g2 := w.heap.size) (o := 0) (t := ⟨k, 0, 0, ⟨#[]⟩, acc2 ++ [t]⟩) (e := ⟨A3, m2 + 1, c3, fp⟩) hgl
          have hfr5 : Fr [g] w (set5 w8 w.heap.size 0 ⟨k, 0, 0, ⟨#[]⟩, acc2 ++ [t]⟩ ⟨A3, m2 + 1, c3, fp⟩) := fr_new5 F8 (Nat.le_refl _)
          have hls5 := hls.set5_ (e2 := ⟨A3, m2 + 1, c3, fp⟩) (g := w.heap.size) (o := 0) (t := ⟨k, 0, 0, ⟨#[]⟩, acc2 ++ [t]⟩) hn0
          have how5 := (hown.mono (lo2 := w.heap.size) (by omega)).set5_ (g := w.heap.size) (o := 0) (t := ⟨k, 0, 0, ⟨#[]⟩, acc2 ++ [t]⟩) (e := ⟨A3, m2 + 1, c3, fp⟩) hn0
          have hres := fun (tm : Array Value) (hp : tm.getD 8 undef = .pointer (some ⟨w.heap.size, 0, none⟩)) => results_blk (P := Tryd.prog) (tmps := tm) Tryd.results88 Tryd.isAgg29 (by exact Tryd.sizeOf29) hp hblk
          refine bodyPost_ret (hres _ rfl) rfl ?_
          rw [← HRb.out]
          exact ⟨⟨k, 0, 0, ⟨#[]⟩, acc2 ++ [t]⟩, ⟨A3, m2 + 1, c3, fp⟩, p' + 1, 0, rfl, hls5, how5, hTR3, hfr5, ⟨rfl, rfl, rfl⟩⟩
        | false =>
          rw [hb1] at HIS
          have HI2 := fun w1 => s_l11Is tk ⟨#[44]⟩ w1
          change ∀ w1, Calls _ _ _ _ (fun r w' => r = .returned (.bool (isT tk ⟨#[44]⟩)) ∧ _) at HI2
          cases hb2 : isT tk ⟨#[44]⟩ with
          | true =>
            obtain ⟨hpl, hq4⟩ := sign_nx (by rw [Htk.out]; exact hb2)
            rw [Hq4.out] at hq4
            have HP2 : Hid (pM l fq k sh D (p' + 1) (acc2 ++ [t]) = R) := Lib.hid ((step_comma (by rw [Htk.out]; exact hb2)).symm.trans hst.out)
            rw [hb2] at HI2
            subst hq4
            clear hst Htk hb1 hb2
            obtain ⟨f, rfl⟩ : ∃ f, gk = f + 1 := ⟨gk - 1, by omega⟩
            go_wp2_with (first
              | (have hq := HIS; clear hq; go_at_call 126; refine (HIS _).mono ?_; rintro r w8 ⟨rfl, hb8⟩; clear HIS; have B8 := GB.below hb8 GB.lt; have e0 := B8.cell 0; have e1 := B8.cell 1; have e2 := B8.cell 2; have e3 := B8.cell 3; simp only [List.getElem?_toArray, List.getElem?_cons_succ, List.getElem?_cons_zero] at e0 e1 e2 e3)
              | (go_at_call 126; refine (HI2 _).mono ?_; rintro r w9 ⟨rfl, hb9⟩))
            have k9 := hb8.up hb9
            have T9 := G1.below k9
            have R9 := G2.below k9 G2.lt
            have O9 := G3.below k9 G3.lt
            have V9 := G4.below k9
            have F9 := G5.trans (Fr.of_below k9)
            clear G1 G2 G3 G4 G5 GB
            go_roundg f
            case measure => omega
            case rel => exact ⟨p' + 1, m2 + 1, c3, fq, A3, acc2 ++ [t], es2 ++ [u], by omega, by omega, by omega, by omega, by omega, by omega, HP2, T9, R9, O9, V9, F9⟩
          | false =>
            rw [hb2] at HI2
            rw [step_none (by rw [Htk.out]; exact hb1) (by rw [Htk.out]; exact hb2)] at hst
            have HRb := Lib.hid hst.out
            obtain ⟨u, hu⟩ : ∃ u, zeroT = u := ⟨_, rfl⟩
            have HU := Lib.hid hu
            have HF := fun w1 (h1 : TP w1 g A n c l q4 dp 0) => s_l11Fail g A n c l q4 dp 0 1 w1 h1
            simp only [if_true] at HF
            unfold FailS at HF
            rw [HU.out] at HF
            clear hst Htk hb1 hb2 hu
            go_wp2_with (first
              | (have hq := HIS; clear hq; go_at_call 126; refine (HIS _).mono ?_; rintro r w8 ⟨rfl, hb8⟩; clear HIS; have B8 := GB.below hb8 GB.lt; have e0 := B8.cell 0; have e1 := B8.cell 1; have e2 := B8.cell 2; have e3 := B8.cell 3; simp only [List.getElem?_toArray, List.getElem?_cons_succ, List.getElem?_cons_zero] at e0 e1 e2 e3)
              | (go_at_call 126; refine (HI2 _).mono ?_; rintro r w9 ⟨rfl, hb9⟩; have k9 := hb8.up hb9; have T9 := G1.below k9; have R9 := G2.below k9 G2.lt)
              | (go_at_call 83; refine (HF _ T9).mono ?_; rintro r wg ⟨rfl, hTg, hfg⟩; have BZ := Blk.ofFr R9 hfg (by omega); obtain ⟨x0, x1, x2, x3, x4, ⟨s0, t0⟩, ⟨s1, t1⟩, ⟨s2, t2⟩, ⟨s3, t3⟩, s4, t4⟩ := BZ.five (o := 0) (by simp) (.int .i64 u.k) (.int .i64 u.n) (.int .i64 u.x) (.string u.s)))
            have hblk : Blk (set5 wg w.heap.size 0 u ⟨none, 0, 0, []⟩) w.heap.size 29 _ := Blk.five_ BZ u ⟨none, 0, 0, []⟩
            have hTR3 := (hTg).set5_ (g2 := w.heap.size) (o := 0) (t := u) (e := ⟨none, 0, 0, []⟩) hgl
            have hfr9 : Fr [g] w (set5 wg w.heap.size 0 u ⟨none, 0, 0, []⟩) := fr_new5 ((G5.trans (Fr.of_below k9)).trans hfg) (Nat.le_refl _)
            have hres := fun (tm : Array Value) (hp : tm.getD 8 undef = .pointer (some ⟨w.heap.size, 0, none⟩)) => results_blk (P := Tryd.prog) (tmps := tm) Tryd.results88 Tryd.isAgg29 (by exact Tryd.sizeOf29) hp hblk
            refine bodyPost_ret (hres _ rfl) rfl ?_
            rw [← HRb.out]; exact LeafS.bad (k := 1) ⟨by rw [HU.out], hTR3, hfr9⟩ (by decide)
end Go.Proofs.YticejlknbfhndaaDoor

namespace Go.Proofs.YticejlknbfhndaaDoor
open Go.RowKit

theorem sign_lt {l : List Tk} {p : Nat} {c : ByteArray} (h : signB l p c = true) : p < l.length := by
  rcases Nat.lt_or_ge p l.length with h1 | h1
  · exact h1
  · rw [signB_none h1] at h; cases h
theorem pVM_le (l : List Tk) : ∀ f, (∀ d p t q, pV l f d p = .good t q → q ≤ l.length) ∧ (∀ k sh d p acc m q, pM l f k sh d p acc = .good m q → q ≤ l.length) := by
  intro f
  induction f with
  | zero => exact ⟨fun d p t q h => (by unfold pV at h; cases h), fun k sh d p acc m q h => (by unfold pM at h; cases h)⟩
  | succ f ih =>
    obtain ⟨i1, i2⟩ := ih
    constructor
    · intro d p t q h
      unfold pV at h
      split at h
      · cases h
      split at h
      · cases h
      rename_i tk htk
      have hp := (List.getElem?_eq_some_iff.1 htk).1
      split at h
      · split at h
        · rename_i hs; cases h; have := sign_lt hs; omega
        · split at h
          · cases h
          · rename_i hm; cases h; exact i2 _ _ _ _ _ _ _ hm
      split at h
      · split at h
        · rename_i hs; cases h; have := sign_lt hs; omega
        · split at h
          · cases h
          · rename_i hm; cases h; exact i2 _ _ _ _ _ _ _ hm
      · have := (leafRd_good h).1; omega
    · intro k sh d p acc m q h
      unfold pM at h
      split at h
      · split at h
        · cases h
        split at h
        · cases h
        · rename_i hv
          split at h
          · exact i2 _ _ _ _ _ _ _ h
          split at h
          · rename_i hs; cases h; have := sign_lt hs; omega
          · cases h
      · split at h
        · cases h
        · rename_i hv
          split at h
          · exact i2 _ _ _ _ _ _ _ h
          split at h
          · rename_i hs; cases h; have := sign_lt hs; omega
          · cases h
theorem s_tree_step {g : Nat} {A : Option Addr} {n c : Nat} {l : List Tk} {dp : Int} {f : Nat} (hwf : ∀ t ∈ l, t.wf) (hM : ManySays g A n c l dp f) : TreeSays g A n c l dp (f + 1) := by
  intro p d w h hpn hf hd0 hdp
  have hl := h.len
  obtain ⟨D, hD⟩ : ∃ D, dp - d + 1 = D := ⟨_, rfl⟩
  rw [hD]
  by_cases hd : dp < d
  · have e : pV l (f + 1) D p = .bad 2 := by rw [pV, if_pos (by omega)]
    rw [e]
    exact (s_tree_deep g A n c l p dp d w h hd).mono fun r w' hr => hr.bad (by decide)
  have hd1 : 1 ≤ D := by omega
  have hN := s_next g A n c l p dp
  rcases Nat.lt_or_ge p l.length with hj | hj
  rotate_left
  · have e : pV l (f + 1) D p = .bad 1 := by rw [pV, if_neg (by omega), List.getElem?_eq_none hj]
    rw [e]
    rw [nxT_end hj] at hN
    exact (s_tree_other g A n c l p dp d w h (by omega) _ _ hN rfl rfl rfl rfl).mono fun r w' hr => hr.bad (by decide)
  rw [pV_at hd1 hj]
  rw [nxT_at hj] at hN
  have hG : ∀ (x : UInt8), (l[p].s.toList == [x]) = decide (l[p].s = (⟨#[x]⟩ : ByteArray)) := fun x => wordB (by rw [ByteArray.toList_eq])
  have hsg := fun c => signB_at (c := c) hj
  by_cases k1 : l[p].k = 1
  · have hk1 : (l[p].k == 1) = true := by simpa using k1
    have hk2 : (l[p].k == 2) = false := by rw [k1]; decide
    have hk3 : (l[p].k == 3) = false := by rw [k1]; decide
    have hk4 : (l[p].k == 4) = false := by rw [k1]; decide
    rw [hsg, hsg, hk1, Bool.true_and, Bool.true_and]
    by_cases g1 : l[p].s = (⟨#[91]⟩ : ByteArray)
    · rw [decide_eq_true g1, if_pos rfl]
      exact s_tree_list g A n c l p dp d w h (by omega) _ _ hN hk2 hk3 hk4 hk1 (by rw [hG, decide_eq_true g1]) _ fun w1 h1 => by
        have := hM 9 ⟨#[93]⟩ p d w1 (.inl rfl) (by decide) h1 (by omega) (by omega) hd0 hdp (by omega)
        rw [hD] at this
        exact this
    rw [decide_eq_false g1, if_neg (by decide)]
    by_cases g2 : l[p].s = (⟨#[123]⟩ : ByteArray)
    · rw [decide_eq_true g2, if_pos rfl]
      exact s_tree_map g A n c l p dp d w h (by omega) _ _ hN hk2 hk3 hk4 hk1 (by rw [hG, decide_eq_false g1]) (by rw [hG, decide_eq_true g2]) _ fun w1 h1 => by
        have := hM 10 ⟨#[125]⟩ p d w1 (.inr rfl) (by decide) h1 (by omega) (by omega) hd0 hdp (by omega)
        rw [hD] at this
        exact this
    rw [decide_eq_false g2, if_neg (by decide)]
    have e : leafRd l[p] p = .bad 1 := by
      unfold leafRd
      rw [if_neg (by omega), if_neg (by omega), if_neg (by omega), if_neg (by omega), if_neg (by omega)]
    rw [e]
    exact (s_tree_sign g A n c l p dp d w h (by omega) _ _ hN hk2 hk3 hk4 hk1 (by rw [hG, decide_eq_false g1]) (by rw [hG, decide_eq_false g2])).mono fun r w' hr => hr.bad (by decide)
  have hk1 : (l[p].k == 1) = false := by simpa using k1
  rw [hsg, hsg, hk1, Bool.false_and, Bool.false_and, if_neg (by decide), if_neg (by decide)]
  obtain ⟨_, _, htn, htx⟩ := hwf l[p] (List.getElem_mem hj)
  unfold leafRd
  by_cases k2 : l[p].k = 2
  · rw [if_pos k2]
    exact (s_tree_text g A n c l p dp d w h (by omega) _ _ hN (by simpa using k2)).mono fun r w' hr => hr.tree rfl ⟨rfl, rfl, rfl⟩
  rw [if_neg k2]
  have hk2 : (l[p].k == 2) = false := by simpa using k2
  by_cases k3 : l[p].k = 3
  · rw [if_pos k3]
    have hk3 : (l[p].k == 3) = true := by simpa using k3
    have hDN := fun w1 => s_DecNew l[p].n l[p].x w1 htn htx
    unfold DecNewAt decV at hDN
    unfold numTr
    cases hdn : decNew l[p].n l[p].x with
    | none =>
      rw [hdn] at hDN
      exact (s_tree_numno g A n c l p dp d w h (by omega) _ _ hN hk2 hk3 _ _ hDN).mono fun r w' hr => hr.bad (by decide)
    | some x =>
      rw [hdn] at hDN
      exact (s_tree_numyes g A n c l p dp d w h (by omega) _ _ hN hk2 hk3 _ _ hDN).mono fun r w' hr => hr.tree (numT_l _ _) ⟨rfl, rfl, rfl⟩
  rw [if_neg k3]
  have hk3 : (l[p].k == 3) = false := by simpa using k3
  by_cases k4 : l[p].k = 4
  rotate_left
  · rw [if_neg (fun h => k4 h.1), if_neg (fun h => k4 h.1), if_neg (fun h => k4 h.1)]
    have hk4 : (l[p].k == 4) = false := by simpa using k4
    exact (s_tree_other g A n c l p dp d w h (by omega) _ _ hN hk2 hk3 hk4 hk1).mono fun r w' hr => hr.bad (by decide)
  have hk4 : (l[p].k == 4) = true := by simpa using k4
  by_cases s1 : l[p].s = nullS
  · rw [if_pos ⟨k4, s1⟩]
    exact (s_tree_null g A n c l p dp d w h (by omega) _ _ hN hk2 hk3 hk4 (by rw [wordB nullL]; simpa using s1)).mono fun r w' hr => hr.tree rfl ⟨rfl, rfl, rfl⟩
  rw [if_neg (fun h => s1 h.2)]
  have q1 : (l[p].s.toList == [110, 117, 108, 108]) = false := by rw [wordB nullL]; simpa using s1
  by_cases s2 : l[p].s = trueS
  · rw [if_pos ⟨k4, s2⟩]
    exact (s_tree_true g A n c l p dp d w h (by omega) _ _ hN hk2 hk3 hk4 q1 (by rw [wordB trueL]; simpa using s2)).mono fun r w' hr => hr.tree rfl ⟨rfl, rfl, rfl⟩
  rw [if_neg (fun h => s2 h.2)]
  have q2 : (l[p].s.toList == [116, 114, 117, 101]) = false := by rw [wordB trueL]; simpa using s2
  by_cases s3 : l[p].s = falseS
  · rw [if_pos ⟨k4, s3⟩]
    exact (s_tree_false g A n c l p dp d w h (by omega) _ _ hN hk2 hk3 hk4 q1 q2 (by rw [wordB falseL]; simpa using s3)).mono fun r w' hr => hr.tree rfl ⟨rfl, rfl, rfl⟩
  rw [if_neg (fun h => s3 h.2)]
  have q3 : (l[p].s.toList == [102, 97, 108, 115, 101]) = false := by rw [wordB falseL]; simpa using s3
  exact (s_tree_word g A n c l p dp d w h (by omega) _ _ hN hk2 hk3 hk4 q1 q2 q3).mono fun r w' hr => hr.bad (by decide)
theorem s_many {g : Nat} {A : Option Addr} {n c : Nat} {l : List Tk} {dp : Int} {F : Nat} (hV : ∀ f, f < F → TreeSays g A n c l dp f) : ManySays g A n c l dp F := by
  intro k sh p d w hk hsh h hp hF hd1 hd2 hdp
  cases hs : signB l (p + 1) sh with
  | true =>
    have e : elRd l F k sh (dp - d + 1) p = .good (leafTr k 0 0 ⟨#[]⟩) (p + 2) := by unfold elRd; rw [if_pos hs]
    rw [e]
    exact (s_many_none g A n c l dp k sh p d w h hs).mono fun r w' hr => hr.tree rfl ⟨rfl, rfl, rfl⟩
  | false => exact s_many_some g A n c l dp F hV k sh p d w h hs hk hsh hp hF hd1 hd2 hdp
theorem s_tree {g : Nat} {A : Option Addr} {n c : Nat} {l : List Tk} {dp : Int} (hwf : ∀ t ∈ l, t.wf) (F : Nat) : TreeSays g A n c l dp F := by
  induction F using Nat.strongRecOn with
  | _ F ih =>
    cases F with
    | zero => intro p d w h hpn hf; omega
    | succ F => exact s_tree_step hwf (s_many fun f hf => ih f (by omega))
end Go.Proofs.YticejlknbfhndaaDoor

namespace Go.Proofs.YticejlknbfhndaaDoor
open Go.RowKit

def resR (R : Rd) : Tr × Int := match R with
  | .good t _ => (t, 0)
  | .bad c => (zeroT, c)
def ParseAt (w w' : World) (R : Rd) (r : Ending) : Prop :=
  ∃ u, r = .returned (.tuple #[trV (resR R).1 u, .int .i64 (resR R).2]) ∧ LsAt w' (resR R).1.l u ∧ Own w' w.heap.size u.fp ∧ Below w.heap.size w w'
set_option maxHeartbeats 4000000 in
theorem s_ParseTokens (A : Option Addr) (n c : Nat) (l : List Tk) (dp : Int) (w : World) (hs : Sl w w.heap.size 4 A n c (tkC l)) (hn : n ≤ 1048576) (hwf : ∀ t ∈ l, t.wf) (hd0 : -9223372036854775808 ≤ dp) (hd1 : dp ≤ 9223372036854775807) :
    Calls Tryd.prog 17 #[.slice A n c, .int .i64 dp] w fun r w' => ParseAt w w' (parseT l dp) r := by
  have hl : l.length = n := hs.tklen
  have k2 := Below.two w (.cells #[.int .i64 0, .int .i64 0, .int .i64 0, .string ⟨#[]⟩, .slice none 0 0] 29) (.cells #[.slice A n c, .int .i64 0, .int .i64 dp, .int .i64 0] 58)
  have hR : Blk ((w.alloc (.cells #[.int .i64 0, .int .i64 0, .int .i64 0, .string ⟨#[]⟩, .slice none 0 0] 29)).alloc (.cells #[.slice A n c, .int .i64 0, .int .i64 dp, .int .i64 0] 58)) w.heap.size 29 #[.int .i64 0, .int .i64 0, .int .i64 0, .string ⟨#[]⟩, .slice none 0 0] := (Blk.new w _ _).alloc _
  have hG : Blk ((w.alloc (.cells #[.int .i64 0, .int .i64 0, .int .i64 0, .string ⟨#[]⟩, .slice none 0 0] 29)).alloc (.cells #[.slice A n c, .int .i64 0, .int .i64 dp, .int .i64 0] 58)) (w.heap.size + 1) 58 #[.slice A n c, .int .i64 0, .int .i64 dp, .int .i64 0] := by simpa using Blk.new (w.alloc (.cells #[.int .i64 0, .int .i64 0, .int .i64 0, .string ⟨#[]⟩, .slice none 0 0] 29)) 58 #[.slice A n c, .int .i64 0, .int .i64 dp, .int .i64 0]
  have hT : TP ((w.alloc (.cells #[.int .i64 0, .int .i64 0, .int .i64 0, .string ⟨#[]⟩, .slice none 0 0] 29)).alloc (.cells #[.slice A n c, .int .i64 0, .int .i64 dp, .int .i64 0] 58)) (w.heap.size + 1) A n c l 0 dp 0 := ⟨hG, (hs.below k2).more (Nat.le_succ _), hn⟩
  have hX : parseT l dp = (match pV l (2 * n + 1) dp 0 with | .bad c => .bad c | .good t q => if q = n then .good t q else .bad 1) := by rw [← hl]; rfl
  rw [hX]
  have hqle : ∀ t q, pV l (2 * n + 1) dp 0 = .good t q → q ≤ n := fun t q he => by rw [← hl]; exact (pVM_le l _).1 _ _ _ _ he
  have HV := s_tree hwf (2 * n + 1) 0 1 _ hT (Nat.zero_le _) (by omega) (by omega) (by omega)
  rw [show dp - 1 + 1 = dp by omega] at HV
  obtain ⟨X, hXX⟩ : ∃ X, pV l (2 * n + 1) dp 0 = X := ⟨_, rfl⟩
  rw [hXX] at HV hqle ⊢
  clear hX hXX hs hwf hl
  obtain ⟨RR, hRR⟩ : ∃ RR, (match X with | .bad c => Rd.bad c | .good t q => if q = n then Rd.good t q else Rd.bad 1) = RR := ⟨_, rfl⟩
  rw [hRR]
  go_enter Tryd.func17, Tryd.ntmps17
  go_upto_region 2 with fail
  generalize (w.alloc (.cells #[.int .i64 0, .int .i64 0, .int .i64 0, .string ⟨#[]⟩, .slice none 0 0] 29)).alloc (.cells #[.slice A n c, .int .i64 0, .int .i64 dp, .int .i64 0] 58) = wa at k2 hR hG hT HV ⊢
  go_upto_region 3 with (go_at_call 49; refine HV.mono ?_; rintro r w5 ⟨t, u, p', kc, rfl, hl5, ho5, hT5, hf5, hok⟩)
  have hzG : w.heap.size + 1 < wa.heap.size := hG.lt
  have kx := Below.one w5 (.cells #[.int .i64 t.k, .int .i64 t.n, .int .i64 t.x, .string t.s, .slice u.A u.n u.c] 29)
  have E1 := hT5.below kx
  have E2 := (Blk.ofFr hR hf5 (by omega)).below kx (Blk.ofFr hR hf5 (by omega)).lt
  have EB := Blk.new w5 29 #[.int .i64 t.k, .int .i64 t.n, .int .i64 t.x, .string t.s, .slice u.A u.n u.c]
  have E3 := hl5.below (fun g hg => ho5.lt hg) kx
  have E4 := (ho5.below (fun g hg => ho5.lt hg) kx).mono (lo2 := w.heap.size + 2) hzG
  have E5 : Below w.heap.size w (w5.alloc (.cells #[.int .i64 t.k, .int .i64 t.n, .int .i64 t.x, .string t.s, .slice u.A u.n u.c] 29)) := k2.trans (((hf5.below (B := w.heap.size) (by simp) (by omega))).trans (kx.mono (Nat.le_trans (by omega) hf5.size)))
  have zb : w.heap.size + 1 < w5.heap.size := Nat.lt_of_lt_of_le hzG hf5.size
  generalize w5.heap.size = bx at EB zb ⊢
  generalize w5.alloc (.cells #[.int .i64 t.k, .int .i64 t.n, .int .i64 t.x, .string t.s, .slice u.A u.n u.c] 29) = wb at E1 E2 E3 E4 E5 EB ⊢
  clear hR hG hT k2 HV hl5 ho5 hT5 hf5 kx hzG
  obtain ⟨d0, d1, d2, d3⟩ := E1.cells
  cases X with
  | bad cd =>
    obtain ⟨hkc, hc0⟩ := hok
    rw [← hkc] at hc0 hRR
    simp only at hRR
    have HRR := Lib.hid hRR
    have hcb : (kc != 0) = true := by simpa using hc0
    have hcb2 : (kc == 0) = false := by simpa using hc0
    have BZ := E2
    obtain ⟨x0, x1, x2, x3, x4, ⟨s0, t0⟩, ⟨s1, t1⟩, ⟨s2, t2⟩, ⟨s3, t3⟩, s4, t4⟩ := BZ.five (o := 0) (by simp) (.int .i64 0) (.int .i64 0) (.int .i64 0) (.string ⟨#[]⟩)
    clear hRR hkc hqle
    go_wp2_with fail
    go_region
    go_wp2_with fail
    have hblk : Blk ((set5 wb w.heap.size 0 zeroT ⟨none, 0, 0, []⟩).drew) w.heap.size 29 _ := (Blk.five_ BZ zeroT ⟨none, 0, 0, []⟩).drew
    have hfr9 : Below w.heap.size w ((set5 wb w.heap.size 0 zeroT ⟨none, 0, 0, []⟩).drew) := (below_set5 E5 (Nat.le_refl _)).drew
    have hres := fun (tm : Array Value) (hp : tm.getD 4 undef = .pointer (some ⟨w.heap.size, 0, none⟩)) => results_blk2 (P := Tryd.prog) (tmps := tm) Tryd.results17 Tryd.isAgg29 (by exact Tryd.sizeOf29) hp hblk
    refine bodyPost_ret (hres _ rfl) rfl ?_
    rw [← HRR.out]
    exact ⟨⟨none, 0, 0, []⟩, rfl, LsAt.nil_ _ _, Own.nil_ _ _, hfr9⟩
  | good v0 q0 =>
    obtain ⟨rfl, rfl, rfl⟩ := hok
    have hpn := hqle _ _ rfl
    simp only at hRR
    by_cases hq : p' = n
    · rw [if_pos hq] at hRR
      have HRR := Lib.hid hRR
      subst hq
      have hn0 : w.heap.size ∉ u.fp := fun hx => by have := (E4.2 _ hx).1; omega
      have BZ := E2
      obtain ⟨x0, x1, x2, x3, x4, ⟨s0, t0⟩, ⟨s1, t1⟩, ⟨s2, t2⟩, ⟨s3, t3⟩, s4, t4⟩ := BZ.five (o := 0) (by simp) (.int .i64 t.k) (.int .i64 t.n) (.int .i64 t.x) (.string t.s)
      have v0 := EB.cell 0
      have v1 := EB.cell 1
      have v2 := EB.cell 2
      have v3 := EB.cell 3
      have v4 := EB.cell 4
      simp only [List.getElem?_toArray, List.getElem?_cons_succ, List.getElem?_cons_zero] at v0 v1 v2 v3 v4
      clear hRR hqle
      go_wp2_with fail
      have hblk : Blk (set5 wb w.heap.size 0 t u) w.heap.size 29 _ := Blk.five_ BZ t u
      have hls5 := E3.set5_ (e2 := u) (g := w.heap.size) (o := 0) (t := t) hn0
      have how5 := (E4.mono (lo2 := w.heap.size) (by omega)).set5_ (g := w.heap.size) (o := 0) (t := t) (e := u) hn0
      have hfr9 : Below w.heap.size w (set5 wb w.heap.size 0 t u) := below_set5 E5 (Nat.le_refl _)
      have hres := fun (tm : Array Value) (hp : tm.getD 4 undef = .pointer (some ⟨w.heap.size, 0, none⟩)) => results_blk2 (P := Tryd.prog) (tmps := tm) Tryd.results17 Tryd.isAgg29 (by exact Tryd.sizeOf29) hp hblk
      refine bodyPost_ret (hres _ rfl) rfl ?_
      rw [← HRR.out]
      exact ⟨u, rfl, hls5, how5, hfr9⟩
    · rw [if_neg hq] at hRR
      have HRR := Lib.hid hRR
      have hlt : (p' : Int) < (n : Int) := by omega
      have hne : ((p' : Int) != (n : Int)) = true := by simp; omega
      have hne2 : (p' != n) = true := by simpa using hq
      have hlt2 : decide ((p' : Int) < (n : Int)) = true := by simpa using hlt
      have hlt3 : decide (p' < n) = true := by simp; omega
      have f2 := E1.blk.frozen 3
      have G1 := E1.setCode 1
      have G2 := E2.far (p := ⟨w.heap.size + 1, 3, none⟩) (by show w.heap.size ≠ w.heap.size + 1; omega) (.int .i64 1)
      have G5 : Below w.heap.size w (wb.setCell ⟨w.heap.size + 1, 3, none⟩ (.int .i64 1)) := E5.setCell (p := ⟨w.heap.size + 1, 3, none⟩) (by show w.heap.size ≤ w.heap.size + 1; omega) _
      clear hRR hqle
      go_upto_region 5 with fail
      generalize wb.setCell ⟨w.heap.size + 1, 3, none⟩ (.int .i64 1) = we at G1 G2 G5 ⊢
      clear E1 E2 E3 E4 E5 d0 d1 d2 d3 f2
      obtain ⟨d0, d1, d2, d3⟩ := G1.cells
      obtain ⟨x0, x1, x2, x3, x4, ⟨s0, t0⟩, ⟨s1, t1⟩, ⟨s2, t2⟩, ⟨s3, t3⟩, s4, t4⟩ := G2.five (o := 0) (by simp) (.int .i64 0) (.int .i64 0) (.int .i64 0) (.string ⟨#[]⟩)
      go_wp2_with fail
      go_region
      go_wp2_with fail
      have hblk : Blk ((set5 we w.heap.size 0 zeroT ⟨none, 0, 0, []⟩).drew) w.heap.size 29 _ := (Blk.five_ G2 zeroT ⟨none, 0, 0, []⟩).drew
      have hfr9 : Below w.heap.size w ((set5 we w.heap.size 0 zeroT ⟨none, 0, 0, []⟩).drew) := (below_set5 G5 (Nat.le_refl _)).drew
      have hres := fun (tm : Array Value) (hp : tm.getD 4 undef = .pointer (some ⟨w.heap.size, 0, none⟩)) => results_blk2 (P := Tryd.prog) (tmps := tm) Tryd.results17 Tryd.isAgg29 (by exact Tryd.sizeOf29) hp hblk
      refine bodyPost_ret (hres _ rfl) rfl ?_
      rw [← HRR.out]
      exact ⟨⟨none, 0, 0, []⟩, rfl, LsAt.nil_ _ _, Own.nil_ _ _, hfr9⟩
set_option maxHeartbeats 4000000 in
theorem i_treeOf (A : Option Addr) (n c : Nat) (l : List Tk) (dp : Int) (w : World) (hs : Sl w w.heap.size 4 A n c (tkC l)) (hn : n ≤ 1048576) (hwf : ∀ t ∈ l, t.wf) (hd0 : -9223372036854775808 ≤ dp) (hd1 : dp ≤ 9223372036854775807) (hPW : PowT w) :
    Calls Tryd.prog 51 #[.slice A n c, .int .i64 dp, .func (.func 52) #[] #[]] w fun r w' => ParseAt w w' (parseT l dp) r := by
  have hl : l.length = n := hs.tklen
  have k2 := Below.two w (.cells #[.int .i64 0, .int .i64 0, .int .i64 0, .string ⟨#[]⟩, .slice none 0 0] 29) (.cells #[.slice A n c, .int .i64 0, .int .i64 0, .func (.func 52) #[] #[]] 90)
  have hR : Blk ((w.alloc (.cells #[.int .i64 0, .int .i64 0, .int .i64 0, .string ⟨#[]⟩, .slice none 0 0] 29)).alloc (.cells #[.slice A n c, .int .i64 0, .int .i64 0, .func (.func 52) #[] #[]] 90)) w.heap.size 29 #[.int .i64 0, .int .i64 0, .int .i64 0, .string ⟨#[]⟩, .slice none 0 0] := (Blk.new w _ _).alloc _
  have hG : Blk ((w.alloc (.cells #[.int .i64 0, .int .i64 0, .int .i64 0, .string ⟨#[]⟩, .slice none 0 0] 29)).alloc (.cells #[.slice A n c, .int .i64 0, .int .i64 0, .func (.func 52) #[] #[]] 90)) (w.heap.size + 1) 90 #[.slice A n c, .int .i64 0, .int .i64 0, .func (.func 52) #[] #[]] := by simpa using Blk.new (w.alloc (.cells #[.int .i64 0, .int .i64 0, .int .i64 0, .string ⟨#[]⟩, .slice none 0 0] 29)) 90 #[.slice A n c, .int .i64 0, .int .i64 0, .func (.func 52) #[] #[]]
  have hT : TR ((w.alloc (.cells #[.int .i64 0, .int .i64 0, .int .i64 0, .string ⟨#[]⟩, .slice none 0 0] 29)).alloc (.cells #[.slice A n c, .int .i64 0, .int .i64 0, .func (.func 52) #[] #[]] 90)) (w.heap.size + 1) A n c l 0 0 := ⟨hG, (hs.below k2).more (Nat.le_succ _), hn⟩
  have hX : parseT l dp = (match pV l (2 * n + 1) dp 0 with | .bad c => .bad c | .good t q => if q = n then .good t q else .bad 1) := by rw [← hl]; rfl
  rw [hX]
  have hqle : ∀ t q, pV l (2 * n + 1) dp 0 = .good t q → q ≤ n := fun t q he => by rw [← hl]; exact (pVM_le l _).1 _ _ _ _ he
  have HV := i_value (W := w) (Nat.le_succ _) hwf hPW (2 * n + 1) 0 dp _ hT k2 (by omega) hd0 hd1
  obtain ⟨X, hXX⟩ : ∃ X, pV l (2 * n + 1) dp 0 = X := ⟨_, rfl⟩
  rw [hXX] at HV hqle ⊢
  clear hX hXX hs hwf hl
  obtain ⟨RR, hRR⟩ : ∃ RR, (match X with | .bad c => Rd.bad c | .good t q => if q = n then Rd.good t q else Rd.bad 1) = RR := ⟨_, rfl⟩
  rw [hRR]
  go_enter Tryd.func51, Tryd.ntmps51
  go_upto_region 2 with fail
  generalize (w.alloc (.cells #[.int .i64 0, .int .i64 0, .int .i64 0, .string ⟨#[]⟩, .slice none 0 0] 29)).alloc (.cells #[.slice A n c, .int .i64 0, .int .i64 0, .func (.func 52) #[] #[]] 90) = wa at k2 hR hG hT HV ⊢
  go_upto_region 3 with (go_at_call 89; refine HV.mono ?_; rintro r w5 ⟨t, u, p', kc, rfl, hl5, ho5, hT5, hf5, hok⟩)
  have hzG : w.heap.size + 1 < wa.heap.size := hG.lt
  have kx := Below.one w5 (.cells #[.int .i64 t.k, .int .i64 t.n, .int .i64 t.x, .string t.s, .slice u.A u.n u.c] 29)
  have E1 := hT5.below kx
  have E2 := (Blk.ofFr hR hf5 (by omega)).below kx (Blk.ofFr hR hf5 (by omega)).lt
  have EB := Blk.new w5 29 #[.int .i64 t.k, .int .i64 t.n, .int .i64 t.x, .string t.s, .slice u.A u.n u.c]
  have E3 := hl5.below (fun g hg => ho5.lt hg) kx
  have E4 := (ho5.below (fun g hg => ho5.lt hg) kx).mono (lo2 := w.heap.size + 2) hzG
  have E5 : Below w.heap.size w (w5.alloc (.cells #[.int .i64 t.k, .int .i64 t.n, .int .i64 t.x, .string t.s, .slice u.A u.n u.c] 29)) := k2.trans (((hf5.below (B := w.heap.size) (by simp) (by omega))).trans (kx.mono (Nat.le_trans (by omega) hf5.size)))
  have zb : w.heap.size + 1 < w5.heap.size := Nat.lt_of_lt_of_le hzG hf5.size
  generalize w5.heap.size = bx at EB zb ⊢
  generalize w5.alloc (.cells #[.int .i64 t.k, .int .i64 t.n, .int .i64 t.x, .string t.s, .slice u.A u.n u.c] 29) = wb at E1 E2 E3 E4 E5 EB ⊢
  clear hR hG hT k2 HV hl5 ho5 hT5 hf5 kx hzG
  obtain ⟨d0, d1, d2, d3⟩ := E1.cells
  cases X with
  | bad cd =>
    obtain ⟨hkc, hc0⟩ := hok
    rw [← hkc] at hc0 hRR
    simp only at hRR
    have HRR := Lib.hid hRR
    have hcb : (kc != 0) = true := by simpa using hc0
    have hcb2 : (kc == 0) = false := by simpa using hc0
    have BZ := E2
    obtain ⟨x0, x1, x2, x3, x4, ⟨s0, t0⟩, ⟨s1, t1⟩, ⟨s2, t2⟩, ⟨s3, t3⟩, s4, t4⟩ := BZ.five (o := 0) (by simp) (.int .i64 0) (.int .i64 0) (.int .i64 0) (.string ⟨#[]⟩)
    clear hRR hkc hqle
    go_wp2_with fail
    go_region
    go_wp2_with fail
    have hblk : Blk ((set5 wb w.heap.size 0 zeroT ⟨none, 0, 0, []⟩).drew) w.heap.size 29 _ := (Blk.five_ BZ zeroT ⟨none, 0, 0, []⟩).drew
    have hfr9 : Below w.heap.size w ((set5 wb w.heap.size 0 zeroT ⟨none, 0, 0, []⟩).drew) := (below_set5 E5 (Nat.le_refl _)).drew
    have hres := fun (tm : Array Value) (hp : tm.getD 6 undef = .pointer (some ⟨w.heap.size, 0, none⟩)) => results_blk2 (P := Tryd.prog) (tmps := tm) Tryd.results51 Tryd.isAgg29 (by exact Tryd.sizeOf29) hp hblk
    refine bodyPost_ret (hres _ rfl) rfl ?_
    rw [← HRR.out]
    exact ⟨⟨none, 0, 0, []⟩, rfl, LsAt.nil_ _ _, Own.nil_ _ _, hfr9⟩
  | good v0 q0 =>
    obtain ⟨rfl, rfl, rfl⟩ := hok
    have hpn := hqle _ _ rfl
    simp only at hRR
    by_cases hq : p' = n
    · rw [if_pos hq] at hRR
      have HRR := Lib.hid hRR
      subst hq
      have hn0 : w.heap.size ∉ u.fp := fun hx => by have := (E4.2 _ hx).1; omega
      have BZ := E2
      obtain ⟨x0, x1, x2, x3, x4, ⟨s0, t0⟩, ⟨s1, t1⟩, ⟨s2, t2⟩, ⟨s3, t3⟩, s4, t4⟩ := BZ.five (o := 0) (by simp) (.int .i64 t.k) (.int .i64 t.n) (.int .i64 t.x) (.string t.s)
      have v0 := EB.cell 0
      have v1 := EB.cell 1
      have v2 := EB.cell 2
      have v3 := EB.cell 3
      have v4 := EB.cell 4
      simp only [List.getElem?_toArray, List.getElem?_cons_succ, List.getElem?_cons_zero] at v0 v1 v2 v3 v4
      clear hRR hqle
      go_wp2_with fail
      have hblk : Blk (set5 wb w.heap.size 0 t u) w.heap.size 29 _ := Blk.five_ BZ t u
      have hls5 := E3.set5_ (e2 := u) (g := w.heap.size) (o := 0) (t := t) hn0
      have how5 := (E4.mono (lo2 := w.heap.size) (by omega)).set5_ (g := w.heap.size) (o := 0) (t := t) (e := u) hn0
      have hfr9 : Below w.heap.size w (set5 wb w.heap.size 0 t u) := below_set5 E5 (Nat.le_refl _)
      have hres := fun (tm : Array Value) (hp : tm.getD 6 undef = .pointer (some ⟨w.heap.size, 0, none⟩)) => results_blk2 (P := Tryd.prog) (tmps := tm) Tryd.results51 Tryd.isAgg29 (by exact Tryd.sizeOf29) hp hblk
      refine bodyPost_ret (hres _ rfl) rfl ?_
      rw [← HRR.out]
      exact ⟨u, rfl, hls5, how5, hfr9⟩
    · rw [if_neg hq] at hRR
      have HRR := Lib.hid hRR
      have hlt : (p' : Int) < (n : Int) := by omega
      have hne : ((p' : Int) != (n : Int)) = true := by simp; omega
      have hne2 : (p' != n) = true := by simpa using hq
      have hlt2 : decide ((p' : Int) < (n : Int)) = true := by simpa using hlt
      have hlt3 : decide (p' < n) = true := by simp; omega
      have f2 := E1.blk.frozen 2
      have G1 := E1.setCode 1
      have G2 := E2.far (p := ⟨w.heap.size + 1, 2, none⟩) (by show w.heap.size ≠ w.heap.size + 1; omega) (.int .i64 1)
      have G5 : Below w.heap.size w (wb.setCell ⟨w.heap.size + 1, 2, none⟩ (.int .i64 1)) := E5.setCell (p := ⟨w.heap.size + 1, 2, none⟩) (by show w.heap.size ≤ w.heap.size + 1; omega) _
      clear hRR hqle
      go_upto_region 5 with fail
      generalize wb.setCell ⟨w.heap.size + 1, 2, none⟩ (.int .i64 1) = we at G1 G2 G5 ⊢
      clear E1 E2 E3 E4 E5 d0 d1 d2 d3 f2
      obtain ⟨d0, d1, d2, d3⟩ := G1.cells
      obtain ⟨x0, x1, x2, x3, x4, ⟨s0, t0⟩, ⟨s1, t1⟩, ⟨s2, t2⟩, ⟨s3, t3⟩, s4, t4⟩ := G2.five (o := 0) (by simp) (.int .i64 0) (.int .i64 0) (.int .i64 0) (.string ⟨#[]⟩)
      go_wp2_with fail
      go_region
      go_wp2_with fail
      have hblk : Blk ((set5 we w.heap.size 0 zeroT ⟨none, 0, 0, []⟩).drew) w.heap.size 29 _ := (Blk.five_ G2 zeroT ⟨none, 0, 0, []⟩).drew
      have hfr9 : Below w.heap.size w ((set5 we w.heap.size 0 zeroT ⟨none, 0, 0, []⟩).drew) := (below_set5 G5 (Nat.le_refl _)).drew
      have hres := fun (tm : Array Value) (hp : tm.getD 6 undef = .pointer (some ⟨w.heap.size, 0, none⟩)) => results_blk2 (P := Tryd.prog) (tmps := tm) Tryd.results51 Tryd.isAgg29 (by exact Tryd.sizeOf29) hp hblk
      refine bodyPost_ret (hres _ rfl) rfl ?_
      rw [← HRR.out]
      exact ⟨⟨none, 0, 0, []⟩, rfl, LsAt.nil_ _ _, Own.nil_ _ _, hfr9⟩
theorem i_ParseTokens (A : Option Addr) (n c : Nat) (l : List Tk) (dp : Int) (w : World) (hs : Sl w w.heap.size 4 A n c (tkC l)) (hn : n ≤ 1048576) (hwf : ∀ t ∈ l, t.wf) (hd0 : -9223372036854775808 ≤ dp) (hd1 : dp ≤ 9223372036854775807) (hPW : PowT w) :
    Calls Tryd.prog 19 #[.slice A n c, .int .i64 dp] w fun r w' => ParseAt w w' (parseT l dp) r := by
  have K := Below.one w (.cells #[.int .i64 0, .int .i64 0, .int .i64 0, .string ⟨#[]⟩, .slice none 0 0] 29)
  have hR := Blk.new w 29 #[.int .i64 0, .int .i64 0, .int .i64 0, .string ⟨#[]⟩, .slice none 0 0]
  have HT := i_treeOf A n c l dp (w.alloc (.cells #[.int .i64 0, .int .i64 0, .int .i64 0, .string ⟨#[]⟩, .slice none 0 0] 29)) ((hs.below K).more (by simp)) hn hwf hd0 hd1 (hPW.below K)
  unfold ParseAt at HT ⊢
  generalize resR (parseT l dp) = x at HT ⊢
  obtain ⟨t, kc⟩ := x
  simp only at HT ⊢
  go_enter Tryd.func19, Tryd.ntmps19
  go_wp2_with (go_at_call 51; refine HT.mono ?_; rintro r w5 ⟨u, rfl, hl5, ho5, hb5⟩; have BZ := hR.below hb5 hR.lt; obtain ⟨x0, x1, x2, x3, x4, ⟨s0, t0⟩, ⟨s1, t1⟩, ⟨s2, t2⟩, ⟨s3, t3⟩, s4, t4⟩ := BZ.five (o := 0) (by simp) (.int .i64 t.k) (.int .i64 t.n) (.int .i64 t.x) (.string t.s))
  have hn0 : w.heap.size ∉ u.fp := fun hx => by have := (ho5.2 _ hx).1; simp at this; omega
  have hblk : Blk (set5 w5 w.heap.size 0 t u) w.heap.size 29 _ := Blk.five_ BZ t u
  have hls5 := hl5.set5_ (e2 := u) (g := w.heap.size) (o := 0) (t := t) hn0
  have how5 := (ho5.mono (lo2 := w.heap.size) (by simp)).set5_ (g := w.heap.size) (o := 0) (t := t) (e := u) hn0
  have hfr9 : Below w.heap.size w (set5 w5 w.heap.size 0 t u) := below_set5 (K.up hb5) (Nat.le_refl _)
  have hres := fun (tm : Array Value) (hp : tm.getD 4 undef = .pointer (some ⟨w.heap.size, 0, none⟩)) => results_blk2 (P := Tryd.prog) (tmps := tm) Tryd.results19 Tryd.isAgg29 (by exact Tryd.sizeOf29) hp hblk
  refine bodyPost_ret (hres _ rfl) rfl ?_
  exact ⟨u, rfl, hls5, how5, hfr9⟩
end Go.Proofs.YticejlknbfhndaaDoor

namespace Go.Proofs.YticejlknbfhndaaDoor
open Go.RowKit

theorem cntL_snoc (acc : List Tr) (v : Tr) : cntL (acc ++ [v]) = cntL acc + 4 + cntL v.l := by
  have h := cntT_succ (l := acc ++ [v]) (j := acc.length) (by simp)
  rw [cntT_all (by simp)] at h
  rw [h]
  have e1 : cntT (acc ++ [v]) acc.length = cntL acc := by unfold cntT; rw [List.take_left']; rfl
  have e2 : (acc ++ [v])[acc.length]'(by simp) = v := by simp
  rw [e1, e2]
theorem cntL_nil : cntL [] = 0 := rfl
theorem pVM_cnt (l : List Tk) : ∀ f, (∀ d p t q, pV l f d p = .good t q → p ≤ q ∧ cntL t.l + 8 * p ≤ 8 * q) ∧ (∀ k sh d p acc m q, pM l f k sh d p acc = .good m q → p ≤ q ∧ cntL m + 8 * p ≤ cntL acc + 8 * q) := by
  intro f
  induction f with
  | zero => exact ⟨fun d p t q h => (by unfold pV at h; cases h), fun k sh d p acc m q h => (by unfold pM at h; cases h)⟩
  | succ f ih =>
    obtain ⟨i1, i2⟩ := ih
    constructor
    · intro d p t q h
      unfold pV at h
      split at h
      · cases h
      split at h
      · cases h
      split at h
      · split at h
        · cases h; refine ⟨by omega, ?_⟩; show cntL [] + _ ≤ _; rw [cntL_nil]; omega
        · split at h
          · cases h
          · rename_i hm; cases h; have := i2 _ _ _ _ _ _ _ hm; rw [cntL_nil] at this; refine ⟨by omega, ?_⟩; dsimp only; omega
      split at h
      · split at h
        · cases h; refine ⟨by omega, ?_⟩; show cntL [] + _ ≤ _; rw [cntL_nil]; omega
        · split at h
          · cases h
          · rename_i hm; cases h; have := i2 _ _ _ _ _ _ _ hm; rw [cntL_nil] at this; refine ⟨by omega, ?_⟩; dsimp only; omega
      · have := leafRd_good h; rw [this.2, cntL_nil]; omega
    · intro k sh d p acc m q h
      unfold pM at h
      split at h
      · split at h
        · cases h
        rename_i nm hnm
        have hnl : nm.l = [] := by
          unfold nameRd at hnm
          split at hnm
          · cases hnm
          · split at hnm
            · cases hnm; rfl
            · cases hnm
        split at h
        · cases h
        · rename_i v q' hv
          have h1 := i1 _ _ _ _ hv
          have e : cntL (acc ++ [nm, v]) = cntL acc + 8 + cntL v.l := by
            rw [show acc ++ [nm, v] = (acc ++ [nm]) ++ [v] by simp, cntL_snoc, cntL_snoc, hnl, cntL_nil]
          split at h
          · have h2 := i2 _ _ _ _ _ _ _ h; rw [e] at h2; omega
          split at h
          · cases h; rw [e]; omega
          · cases h
      · split at h
        · cases h
        · rename_i v q' hv
          have h1 := i1 _ _ _ _ hv
          have e := cntL_snoc acc v
          split at h
          · have h2 := i2 _ _ _ _ _ _ _ h; rw [e] at h2; omega
          split at h
          · cases h; rw [e]; omega
          · cases h
theorem parse_cnt (l : List Tk) (d : Int) : cntL (resR (parseT l d)).1.l ≤ 8 * l.length := by
  unfold parseT
  cases h : pV l (2 * l.length + 1) d 0 with
  | bad c => simp only [resR, zeroT, leafTr, cntL_nil]; omega
  | good t q =>
    simp only
    split
    · rename_i hq; have := ((pVM_cnt l _).1 _ _ _ _ h).2; simp only [resR]; omega
    · simp only [resR, zeroT, leafTr, cntL_nil]; omega
set_option maxHeartbeats 2000000 in
theorem l_markTokenS (A : Option Addr) (n c : Nat) (l : List Tk) (k lo : Nat) (w : World) (h : KS w lo A n c l) (hn : n ≤ 1048576) (hk1 : 1 ≤ k) (hk : k ≤ 1048576) :
    Calls Tryd.prog 21 #[.slice A n c, .int .i64 k] w fun r w' => r = .returned (.int .i64 (k + 4 * n : Nat)) ∧ Fr (blkOf A) w w' := by
  rcases h.2 with ⟨hv, h0⟩ | ⟨g, cap, cur, hv, _, hh, hnc, _, hsz, _⟩
  · simp only [Value.slice.injEq] at hv
    obtain ⟨rfl, rfl, rfl⟩ := hv
    go_enter Tryd.func21, Tryd.ntmps21
    go_wp2_with fail
    go_loopg [1, 5] 0 (fun f v1 v5 wr => v1 = .int .i64 k ∧ v5 = .int .i64 0 ∧ wr = w)
    case atStart => exact ⟨rfl, rfl, rfl⟩
    case round =>
      obtain ⟨rfl, rfl, rfl⟩ := hrel
      go_wp2_with fail
      go_ret
      exact ⟨rfl, Fr.refl _ _⟩
  · simp only [Value.slice.injEq] at hv
    obtain ⟨rfl, _, rfl⟩ := hv
    have hB : Blk w g 60 cur := hh
    have hcs : n * 4 ≤ cur.size := by omega
    have hg := hB.lt
    clear h hh
    go_enter Tryd.func21, Tryd.ntmps21
    go_wp2_with fail
    go_loopg [1, 5] n (fun f v1 v5 wr => ∃ (j : Nat) (cs : Array Value), j + f = n ∧ v5 = .int .i64 j ∧ v1 = .int .i64 (k + 4 * j : Nat) ∧ n * 4 ≤ cs.size ∧ Blk wr g 60 cs ∧ Fr [g] w wr)
    case atStart => exact ⟨0, cur, by omega, rfl, rfl, hcs, hB, Fr.refl _ _⟩
    case round =>
      obtain ⟨j, cs, hjf, rfl, rfl, hcz, hBr, hfr⟩ := hrel
      clear hB hcs
      by_cases hlt : j < n
      · obtain ⟨f, rfl⟩ : ∃ f, gk = f + 1 := ⟨gk - 1, by omega⟩
        have hM := fun w1 => l_markText (k + 4 * j + 1) w1 (by omega) (by omega)
        generalize hq : k + 4 * j = q at hM ⊢
        have hj4 : j * 4 + 4 ≤ cs.size := by omega
        have hwq : IntKind.i64.wrap ((q : Int) + 1) = (q : Int) + 1 := by rw [IntKind.wrap_i64]; omega
        have hwq2 : IntKind.i64.wrap ((q : Int) + 1 + 1) = (q : Int) + 2 := by rw [IntKind.wrap_i64]; omega
        have hwq3 : IntKind.i64.wrap ((q : Int) + 2 + 1) = (q : Int) + 3 := by rw [IntKind.wrap_i64]; omega
        have hwq4 : IntKind.i64.wrap ((q : Int) + 3 + 1) = (q : Int) + 4 := by rw [IntKind.wrap_i64]; omega
        obtain ⟨x0, a0⟩ : ∃ v, wr.cell? ⟨g, j * 4, none⟩ = some v := ⟨_, (hBr.cell (j * 4)).trans (Array.getElem?_eq_getElem (by omega))⟩
        have b0 := hBr.frozen (j * 4)
        have hB1 := hBr.set_ (j * 4) (.int .i64 q)
        go_wp2_with (go_at_call 54; refine (hM _).mono ?_; rintro r w2 ⟨rfl, hb2⟩; have hB2 := hB1.below hb2 hB1.lt; obtain ⟨x1, a1⟩ : ∃ v, w2.cell? ⟨g, j * 4 + 1, none⟩ = some v := ⟨_, (hB2.cell (j * 4 + 1)).trans (Array.getElem?_eq_getElem (by simp; omega))⟩; have b1 := hB2.frozen (j * 4 + 1); have hB3 := hB2.set_ (j * 4 + 1) (.string (mkT (q + 1))); obtain ⟨x2, a2⟩ : ∃ v, (w2.setCell ⟨g, j * 4 + 1, none⟩ (.string (mkT (q + 1)))).cell? ⟨g, j * 4 + 2, none⟩ = some v := ⟨_, (hB3.cell (j * 4 + 2)).trans (Array.getElem?_eq_getElem (by simp; omega))⟩; have b2 := hB3.frozen (j * 4 + 2); have hB4 := hB3.set_ (j * 4 + 2) (.int .i64 ((q : Int) + 2)); obtain ⟨x3, a3⟩ : ∃ v, ((w2.setCell ⟨g, j * 4 + 1, none⟩ (.string (mkT (q + 1)))).setCell ⟨g, j * 4 + 2, none⟩ (.int .i64 ((q : Int) + 2))).cell? ⟨g, j * 4 + 3, none⟩ = some v := ⟨_, (hB4.cell (j * 4 + 3)).trans (Array.getElem?_eq_getElem (by simp; omega))⟩; have b3 := hB4.frozen (j * 4 + 3); have hB5 := hB4.set_ (j * 4 + 3) (.int .i64 ((q : Int) + 3)))
        have F5 := ((((hfr.setCell (p := ⟨g, j * 4, none⟩) (by simp) (.int .i64 q)).trans (Fr.of_below hb2)).setCell (p := ⟨g, j * 4 + 1, none⟩) (by simp) (.string (mkT (q + 1)))).setCell (p := ⟨g, j * 4 + 2, none⟩) (by simp) (.int .i64 ((q : Int) + 2))).setCell (p := ⟨g, j * 4 + 3, none⟩) (by simp) (.int .i64 ((q : Int) + 3))
        go_roundg f
        case measure => omega
        case rel => exact ⟨j + 1, _, by omega, by go_num, by rw [show k + 4 * (j + 1) = q + 4 by omega]; go_num, by simp; exact hcz, hB5, F5⟩
      · obtain rfl : j = n := by omega
        go_wp2_with fail
        go_ret
        exact ⟨rfl, by simpa [blkOf] using hfr⟩
end Go.Proofs.YticejlknbfhndaaDoor

namespace Go.Proofs.YticejlknbfhndaaDoor
open Go.RowKit

theorem KS.below_ {w w' : World} {lo n c : Nat} {A : Option Addr} {l : List Tk} (h : KS w lo A n c l) (hb : Below w.heap.size w w') : KS w' lo A n c l :=
  row_heap h fun g hg => hb.block g (row_lt h hg).2
set_option maxHeartbeats 4000000 in
theorem law_ParseTokens (A : Option Addr) (n c : Nat) (l : List Tk) (dp : Int) (w : World) (h : Sl w w.heap.size 4 A n c (tkC l)) (hw : ∀ t ∈ l, t.wf) (hd : -9223372036854775808 ≤ dp ∧ dp ≤ 9223372036854775807) (hP : PowT w) :
    Calls Tryd.prog 4 #[.slice A n c, .int .i64 dp] w fun e w' => e = .returned (.bool true) ∧ Below w.heap.size w w' := by
  have hsz := l_szTokenS A n c l w w.heap.size h (Nat.le_refl _) hw
  by_cases hb : szK l ≤ 1048576
  rotate_left
  · rw [if_neg hb] at hsz
    go_enter Tryd.func4, Tryd.ntmps4
    go_wp2_with (go_at_call 16; refine hsz.mono ?_; rintro e w1 ⟨rfl, hb1⟩)
    go_ret
    exact ⟨rfl, hb1⟩
  rw [if_pos hb] at hsz
  have hng : ¬ (1048576 : Int) - (szK l : Int) < 0 := by omega
  have hll := h.tklen
  have hn : n ≤ 1048576 := by have := szK_sum l; rw [hll] at this; omega
  have hto := fun w1 (hb1 : Below w.heap.size w w1) => l_toTokenS A n c l w1 w.heap.size (h.below hb1) hb1.size hn
  have hcn := parse_cnt l dp
  have hS := fun A1 c1 lo w1 (h1 : KS w1 lo A1 n c1 l) => s_ParseTokens A1 n c1 l dp w1 h1.sl hn hw hd.1 hd.2
  have hI := fun A1 c1 lo w1 (h1 : KS w1 lo A1 n c1 l) (hb1 : Below w.heap.size w w1) => i_ParseTokens A1 n c1 l dp w1 h1.sl hn hw hd.1 hd.2 (hP.below hb1)
  unfold ParseAt at hS hI
  generalize resR (parseT l dp) = x at hcn hS hI
  obtain ⟨T, kc⟩ := x
  simp only at hcn hS hI
  rw [hll] at hcn
  obtain ⟨m, hm⟩ : ∃ m, cntL T.l = m := ⟨_, rfl⟩
  have hmk := fun e lo w1 h1 h2 => l_markVal T e 1 lo w1 h1 h2 (Nat.le_refl _) (by omega)
  have hhd := fun e w1 h1 h2 => l_heldVal T e 1 w1 h1 h2 (Nat.le_refl _) (by omega)
  have hEq := fun e1 e2 w1 h1 h2 h3 h4 => l_eqVal T e1 e2 w1 h1 h2 h3 h4
  rw [hm] at hmk hhd
  have hEK := fun A1 c1 A2 c2 w1 h1 h2 => l_eqTokenS l A1 n c1 A2 n c2 w1 h1 h2
  clear hm hw hd hP hll
  go_enter Tryd.func4, Tryd.ntmps4
  go_wp2_with fail
  refine hsz.mono ?_; rintro e w1 ⟨rfl, K⟩
  clear hsz
  go_wp2_with fail
  refine (hto _ K).mono ?_; rintro e w2 ⟨A2, c2, rfl, h2, hb2⟩
  replace K := K.up hb2
  go_wp2_with fail
  refine (hS _ _ _ _ h2).mono ?_; rintro e w3 ⟨uW, rfl, lW, oW, hb3⟩
  replace K := K.up hb3
  have zw3 := K.size
  clear hS h2
  have BW := Blk.new w3 29 (valCells T uW)
  have zBW := BW.lt
  have kw := Below.one w3 (.cells (valCells T uW) 29)
  have toW := fun g (hg : g ∈ uW.fp) => oW.lt hg
  replace lW := lW.below (fun g hg => oW.lt hg) kw
  replace oW := oW.below (fun g hg => oW.lt hg) kw
  replace K := K.up kw
  have z_kw := kw.size
  go_wp2_with fail
  refine (hto _ K).mono ?_; rintro e w4 ⟨A4, c4, rfl, h4, hb4⟩
  replace BW := BW.below hb4 BW.lt
  replace lW := lW.below (fun g hg => oW.lt hg) hb4
  replace oW := oW.below (fun g hg => oW.lt hg) hb4
  replace K := K.up hb4
  have z_hb4 := hb4.size
  have zw4 := K.size
  have lo4 := fun g (hg : g ∈ blkOf A4) => row_lt h4 hg
  go_wp2_with fail
  refine (hI _ _ _ _ h4 K).mono ?_; rintro e w5 ⟨uG, rfl, lG, oG, hb5⟩
  replace BW := BW.below hb5 BW.lt
  replace lW := lW.below (fun g hg => oW.lt hg) hb5
  replace h4 := KS.below_ h4 hb5
  replace oW := oW.below (fun g hg => oW.lt hg) hb5
  replace K := K.up hb5
  have z_hb5 := hb5.size
  have frG := fun g (hg : g ∈ uG.fp) => (oG.2 g hg).1
  have toG := fun g (hg : g ∈ uG.fp) => oG.lt hg
  have BG := Blk.new w5 29 (valCells T uG)
  have kg := Below.one w5 (.cells (valCells T uG) 29)
  replace BW := BW.below kg BW.lt
  replace lW := lW.below (fun g hg => oW.lt hg) kg
  replace h4 := KS.below_ h4 kg
  replace lG := lG.below (fun g hg => oG.lt hg) kg
  replace oW := oW.below (fun g hg => oW.lt hg) kg
  replace oG := oG.below (fun g hg => oG.lt hg) kg
  replace K := K.up kg
  have z_kg := kg.size
  obtain ⟨v0, v1, v2, v3, v4⟩ := BG.boxV
  obtain ⟨y0, y1, y2, y3, y4⟩ := BW.boxV
  go_wp2_with fail
  clear v0 v1 v2 v3 v4 y0 y1 y2 y3 y4
  refine (hEq uG uW _ lG lW (fun g hg => oG.lt hg) (fun g hg => oW.lt hg)).mono ?_; rintro e w6 ⟨rfl, hb6⟩
  replace BW := BW.below hb6 BW.lt
  replace BG := BG.below hb6 BG.lt
  replace lW := lW.below (fun g hg => oW.lt hg) hb6
  replace h4 := KS.below_ h4 hb6
  replace lG := lG.below (fun g hg => oG.lt hg) hb6
  replace oW := oW.below (fun g hg => oW.lt hg) hb6
  replace oG := oG.below (fun g hg => oG.lt hg) hb6
  replace K := K.up hb6
  have z_hb6 := hb6.size
  go_wp2_with fail
  refine (hto _ K).mono ?_; rintro e w7 ⟨A7, c7, rfl, h7, hb7⟩
  replace BW := BW.below hb7 BW.lt
  replace BG := BG.below hb7 BG.lt
  replace lW := lW.below (fun g hg => oW.lt hg) hb7
  replace h4 := KS.below_ h4 hb7
  replace lG := lG.below (fun g hg => oG.lt hg) hb7
  replace oW := oW.below (fun g hg => oW.lt hg) hb7
  replace oG := oG.below (fun g hg => oG.lt hg) hb7
  replace K := K.up hb7
  have z_hb7 := hb7.size
  go_wp2_with fail
  refine (hEK _ _ _ _ _ h4.sl h7.sl).mono ?_; rintro e w8 ⟨rfl, hb8⟩
  clear h7
  replace BW := BW.below hb8 BW.lt
  replace BG := BG.below hb8 BG.lt
  replace lW := lW.below (fun g hg => oW.lt hg) hb8
  replace h4 := KS.below_ h4 hb8
  replace lG := lG.below (fun g hg => oG.lt hg) hb8
  replace oW := oW.below (fun g hg => oW.lt hg) hb8
  replace oG := oG.below (fun g hg => oG.lt hg) hb8
  replace K := K.up hb8
  have z_hb8 := hb8.size
  go_wp2_with fail
  refine (l_markTokenS A4 n c4 l 1 _ _ h4 hn (Nat.le_refl _) (by omega)).mono ?_; rintro e w9 ⟨rfl, hf9⟩
  have n4W : ∀ g ∈ uW.fp, g ∉ blkOf A4 := fun g hg h5 => by have := toW g hg; have := (lo4 g h5).1; simp at this; omega
  have n4G : ∀ g ∈ uG.fp, g ∉ blkOf A4 := fun g hg h5 => by have := frG g hg; have := (lo4 g h5).2; omega
  have zw8 := K.size
  have kf9 := hf9.below (B := w.heap.size) (fun g hg => by have := (lo4 g hg).1; simp at this; omega) (by omega)
  replace K := K.trans kf9
  replace BW := (hf9.block _ BW.lt (fun h5 => by have := (lo4 _ h5).1; simp at this; omega)).trans BW
  replace BG := (hf9.block _ BG.lt (fun h5 => by have := (lo4 _ h5).2; omega)).trans BG
  replace lW := lW.fr hf9 (fun g hg => oW.lt hg) n4W
  replace oW := oW.fr hf9 n4W
  replace lG := lG.fr hf9 (fun g hg => oG.lt hg) n4G
  replace oG := oG.fr hf9 n4G
  have z_9 := hf9.size
  clear h4 hf9 kf9
  have hng9 : ¬ ((1 + 4 * n : Nat) : Int) < 0 := by omega
  have hng8 : decide (((1 + 4 * n : Nat) : Int) < 0) = false := by simp; omega
  have BG2 : Blk w9 w5.heap.size 29 (valCells T uG) := BG
  have BW2 : Blk w9 w3.heap.size 29 (valCells T uW) := BW
  clear BG BW
  have BG := BG2
  have BW := BW2
  clear BG2 BW2
  obtain ⟨v0, v1, v2, v3, v4⟩ := BG.boxV
  obtain ⟨y0, y1, y2, y3, y4⟩ := BW.boxV
  go_wp2_with fail
  clear v0 v1 v2 v3 v4 y0 y1 y2 y3 y4
  refine (hEq uG uW _ lG lW (fun g hg => oG.lt hg) (fun g hg => oW.lt hg)).mono ?_; rintro e wA ⟨rfl, hbA⟩
  replace BW := BW.below hbA BW.lt
  replace BG := BG.below hbA BG.lt
  replace lW := lW.below (fun g hg => oW.lt hg) hbA
  replace lG := lG.below (fun g hg => oG.lt hg) hbA
  replace oW := oW.below (fun g hg => oW.lt hg) hbA
  replace oG := oG.below (fun g hg => oG.lt hg) hbA
  replace K := K.up hbA
  have z_hbA := hbA.size
  obtain ⟨v0, v1, v2, v3, v4⟩ := BG.boxV
  go_wp2_with fail
  clear v0 v1 v2 v3 v4
  refine (hmk uG _ _ lG oG).mono ?_; rintro e wB ⟨rfl, lM, oM, hfB⟩
  have nWG : ∀ g ∈ uW.fp, g ∉ uG.fp := fun g hg h5 => by have := toW g hg; have := frG g h5; omega
  have zwA := K.size
  have kfB := hfB.below (B := w.heap.size) (fun g hg => by have := frG g hg; omega) (by omega)
  replace K := K.trans kfB
  have BW2 : Blk wB w3.heap.size 29 (valCells T uW) := (hfB.block _ BW.lt (fun h5 => by have := frG _ h5; omega)).trans BW
  have BG2 : Blk wB w5.heap.size 29 (valCells T uG) := (hfB.block _ BG.lt (fun h5 => by have := toG _ h5; omega)).trans BG
  replace lW := lW.fr hfB (fun g hg => oW.lt hg) nWG
  replace oW := oW.fr hfB nWG
  have z_B := hfB.size
  clear lG oG BW BG hfB kfB
  have BW := BW2
  have BG := BG2
  have lG := lM
  have oG := oM
  clear BW2 BG2 lM oM
  obtain ⟨v0, v1, v2, v3, v4⟩ := BG.boxV
  go_wp2_with fail
  clear v0 v1 v2 v3 v4
  refine (hhd uG _ lG (fun g hg => oG.lt hg)).mono ?_; rintro e wC ⟨rfl, hbC⟩
  replace BW := BW.below hbC BW.lt
  replace BG := BG.below hbC BG.lt
  replace lW := lW.below (fun g hg => oW.lt hg) hbC
  replace lG := lG.below (fun g hg => oG.lt hg) hbC
  replace oW := oW.below (fun g hg => oW.lt hg) hbC
  replace oG := oG.below (fun g hg => oG.lt hg) hbC
  replace K := K.up hbC
  have z_hbC := hbC.size
  have hngC : ¬ ((1 + m : Nat) : Int) < 0 := by omega
  go_wp2_with fail
  refine (hto _ K).mono ?_; rintro e wD ⟨AD, cD, rfl, hD, hbD⟩
  replace BW := BW.below hbD BW.lt
  replace BG := BG.below hbD BG.lt
  replace lW := lW.below (fun g hg => oW.lt hg) hbD
  replace lG := lG.below (fun g hg => oG.lt hg) hbD
  replace oW := oW.below (fun g hg => oW.lt hg) hbD
  replace oG := oG.below (fun g hg => oG.lt hg) hbD
  replace K := K.up hbD
  have z_hbD := hbD.size
  go_wp2_with fail
  refine (hI _ _ _ _ hD K).mono ?_; rintro e wE ⟨uH, rfl, lH, oH, hbE⟩
  replace BW := BW.below hbE BW.lt
  replace BG := BG.below hbE BG.lt
  replace lW := lW.below (fun g hg => oW.lt hg) hbE
  replace lG := lG.below (fun g hg => oG.lt hg) hbE
  replace oW := oW.below (fun g hg => oW.lt hg) hbE
  replace oG := oG.below (fun g hg => oG.lt hg) hbE
  replace K := K.up hbE
  have z_hbE := hbE.size
  have BH := Blk.new wE 29 (valCells T uH)
  have kh := Below.one wE (.cells (valCells T uH) 29)
  replace BW := BW.below kh BW.lt
  replace BG := BG.below kh BG.lt
  replace lW := lW.below (fun g hg => oW.lt hg) kh
  replace lG := lG.below (fun g hg => oG.lt hg) kh
  replace lH := lH.below (fun g hg => oH.lt hg) kh
  replace oW := oW.below (fun g hg => oW.lt hg) kh
  replace oG := oG.below (fun g hg => oG.lt hg) kh
  replace oH := oH.below (fun g hg => oH.lt hg) kh
  replace K := K.up kh
  have z_kh := kh.size
  obtain ⟨v0, v1, v2, v3, v4⟩ := BH.boxV
  obtain ⟨y0, y1, y2, y3, y4⟩ := BW.boxV
  go_wp2_with fail
  clear v0 v1 v2 v3 v4 y0 y1 y2 y3 y4
  refine (hEq uH uW _ lH lW (fun g hg => oH.lt hg) (fun g hg => oW.lt hg)).mono ?_; rintro e wF ⟨rfl, hbF⟩
  replace BW := BW.below hbF BW.lt
  replace BG := BG.below hbF BG.lt
  replace BH := BH.below hbF BH.lt
  replace lW := lW.below (fun g hg => oW.lt hg) hbF
  replace lG := lG.below (fun g hg => oG.lt hg) hbF
  replace lH := lH.below (fun g hg => oH.lt hg) hbF
  replace oW := oW.below (fun g hg => oW.lt hg) hbF
  replace oG := oG.below (fun g hg => oG.lt hg) hbF
  replace oH := oH.below (fun g hg => oH.lt hg) hbF
  replace K := K.up hbF
  have z_hbF := hbF.size
  obtain ⟨v0, v1, v2, v3, v4⟩ := BG.boxV
  go_wp2_with fail
  clear v0 v1 v2 v3 v4
  refine (hhd uG _ lG (fun g hg => oG.lt hg)).mono ?_; rintro e wI ⟨rfl, hbI⟩
  replace K := K.up hbI
  go_wp2_with fail
  go_ret
  exact ⟨rfl, K⟩
end Go.Proofs.YticejlknbfhndaaDoor
