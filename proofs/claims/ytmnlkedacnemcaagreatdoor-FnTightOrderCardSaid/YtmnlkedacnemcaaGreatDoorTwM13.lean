/- HeadFor: the shortest head. The packer: head, number, text. -/
import Derived.Test.YtmnlkedacnemcaaGreatDoorTwM10
import Derived.Test.YtmnlkedacnemcaaGreatDoorTwM1
import Derived.Test.YtmnlkedacnemcaaGreatDoorTwM7
import Derived.Test.YtmnlkedacnemcaaGreatDoorTwPutHead
import Derived.Deep.RegionLaw
set_option linter.unusedVariables false
set_option maxRecDepth 100000
set_option linter.unusedSimpArgs false
namespace Go.Proofs.YtmnlkedacnemcaaGreatDoor
open Go.RowKit

def headWide (n : Int) : Int := if 0 ≤ n ∧ n ≤ 23 then 0 else widthFor n
def headForV (mj n : Int) : Value := if headOk mj n (headWide n) = true then headV mj n (headWide n) else headV 0 0 0
theorem headWide_in {n : Int} (h : 0 ≤ n ∧ n ≤ 23) : headWide n = 0 := if_pos h
theorem headWide_out {n : Int} (h : ¬ (0 ≤ n ∧ n ≤ 23)) : headWide n = widthFor n := if_neg h
theorem headOk_neg {mj n wd : Int} (h : n < 0) : headOk mj n wd = false := (headOk_no (by omega)).symm
theorem headForV_yes {mj n v : Int} (h : headWide n = v) (hh : headOk mj n v = true) : headForV mj n = .agg #[.int .i64 mj, .int .i64 n, .int .i64 v] := by
  unfold headForV; rw [h, if_pos hh]; rfl
theorem headForV_no {mj n v : Int} (h : headWide n = v) (hh : headOk mj n v = false) : headForV mj n = .agg #[.int .i64 0, .int .i64 0, .int .i64 0] := by
  unfold headForV; rw [h, if_neg (by rw [hh]; decide)]; rfl
set_option maxHeartbeats 1600000 in
theorem i_HeadFor (mj n : Int) (w : World) (hn : n ≤ 9223372036854775807) :
    Calls Tryz.prog 78 #[.int .i64 mj, .int .i64 n] w fun e w' => e = .returned (headForV mj n) ∧ Below w.heap.size w w' := by
  by_cases hr : 0 ≤ n ∧ n ≤ 23
  · have hb := inR_yes hr.1 hr.2
    have hw := Lib.hid (headWide_in hr)
    clear hr
    cases hk : headOk mj n 0
    all_goals
      have HK := Lib.hid hk
      go_enter Tryz.func78, Tryz.ntmps78
      go_wp2_with (first | (go_at_call 56; refine (i_within _ _ _ _).mono ?_; rintro e w' ⟨rfl, rfl⟩) | (go_at_call 79; refine (i_HeadOk _ _ _ _ hn).mono ?_; rintro e w1 ⟨rfl, hb1⟩; obtain ⟨hc1, hf1⟩ := bcell hb1; have hz1 : w.heap.size + 1 < w1.heap.size := by have := hb1.size; simp at this; omega))
    · rw [headForV_no hw.out HK.out]
      have hblk0 : Blk w1 w.heap.size 60 #[.int .i64 0, .int .i64 0, .int .i64 0] := (Blk.alloc (Blk.new w _ _) _).below hb1 (by simp <;> omega)
      have hblk := hblk0.three (.int .i64 0) (.int .i64 0) (.int .i64 0)
      exact bodyPost_ret (results_blk Tryz.results78 Tryz.isAgg60 (by exact Tryz.sizeOf60) rfl hblk) rfl ⟨rfl, ((((Below.two _ _ _).up hb1).setCell (by simp <;> omega) _).setCell (by simp <;> omega) _).setCell (by simp <;> omega) _⟩
    · rw [headForV_yes hw.out HK.out]
      have hblk0 : Blk w1 w.heap.size 60 #[.int .i64 0, .int .i64 0, .int .i64 0] := (Blk.alloc (Blk.new w _ _) _).below hb1 (by simp <;> omega)
      have hblk := hblk0.three (.int .i64 mj) (.int .i64 n) (.int .i64 0)
      exact bodyPost_ret (results_blk Tryz.results78 Tryz.isAgg60 (by exact Tryz.sizeOf60) rfl hblk) rfl ⟨rfl, ((((Below.two _ _ _).up hb1).setCell (by simp <;> omega) _).setCell (by simp <;> omega) _).setCell (by simp <;> omega) _⟩
  · have hb : inR n 0 23 = false := inR_no (by omega)
    have hw := Lib.hid (headWide_out hr)
    clear hr
    cases hk : headOk mj n (widthFor n)
    all_goals
      have HK := Lib.hid hk
      go_enter Tryz.func78, Tryz.ntmps78
      go_wp2_with (first | (go_at_call 56; refine (i_within _ _ _ _).mono ?_; rintro e w' ⟨rfl, rfl⟩) | (go_at_call 93; refine (i_WidthFor _ _ hn).mono ?_; rintro e w' ⟨rfl, rfl⟩) | (go_at_call 79; refine (i_HeadOk _ _ _ _ hn).mono ?_; rintro e w1 ⟨rfl, hb1⟩; obtain ⟨hc1, hf1⟩ := bcell hb1; have hz1 : w.heap.size + 1 < w1.heap.size := by have := hb1.size; simp at this; omega))
    · rw [headForV_no hw.out HK.out]
      have hblk0 : Blk w1 w.heap.size 60 #[.int .i64 0, .int .i64 0, .int .i64 0] := (Blk.alloc (Blk.new w _ _) _).below hb1 (by simp <;> omega)
      have hblk := hblk0.three (.int .i64 0) (.int .i64 0) (.int .i64 0)
      exact bodyPost_ret (results_blk Tryz.results78 Tryz.isAgg60 (by exact Tryz.sizeOf60) rfl hblk) rfl ⟨rfl, ((((Below.two _ _ _).up hb1).setCell (by simp <;> omega) _).setCell (by simp <;> omega) _).setCell (by simp <;> omega) _⟩
    · rw [headForV_yes hw.out HK.out]
      have hblk0 : Blk w1 w.heap.size 60 #[.int .i64 0, .int .i64 0, .int .i64 0] := (Blk.alloc (Blk.new w _ _) _).below hb1 (by simp <;> omega)
      have hblk := hblk0.three (.int .i64 mj) (.int .i64 n) (.int .i64 (widthFor n))
      exact bodyPost_ret (results_blk Tryz.results78 Tryz.isAgg60 (by exact Tryz.sizeOf60) rfl hblk) rfl ⟨rfl, ((((Below.two _ _ _).up hb1).setCell (by simp <;> omega) _).setCell (by simp <;> omega) _).setCell (by simp <;> omega) _⟩
theorem headWide_23 {n : Int} (h : n ≤ 23) (hh : 0 ≤ n) : headWide n = 0 := if_pos ⟨hh, h⟩
theorem headForV_low {mj n : Int} (h : n < 0) : headForV mj n = .agg #[.int .i64 0, .int .i64 0, .int .i64 0] := headForV_no rfl (headOk_neg h)
set_option maxHeartbeats 1600000 in
theorem s_HeadFor (mj n : Int) (w : World) :
    Calls Tryz.prog 43 #[.int .i64 mj, .int .i64 n] w fun e w' => e = .returned (headForV mj n) ∧ Below w.heap.size w w' := by
  by_cases hr : n ≤ 23
  · cases hk : headOk mj n 0
    all_goals
      have HK := Lib.hid hk
      go_enter Tryz.func43, Tryz.ntmps43
      go_wp2_with (go_at_call 63; refine (s_HeadOk _ _ _ _).mono ?_; rintro e w1 ⟨rfl, hb1⟩; obtain ⟨hc1, hf1⟩ := bcell hb1; have hz1 : w.heap.size + 1 < w1.heap.size := by have := hb1.size; simp at this; omega)
      have hblk0 : Blk w1 w.heap.size 60 #[.int .i64 0, .int .i64 0, .int .i64 0] := (Blk.alloc (Blk.new w _ _) _).below hb1 (by simp <;> omega)
    · have e : headForV mj n = .agg #[.int .i64 0, .int .i64 0, .int .i64 0] := by
        by_cases h0 : n < 0
        · exact headForV_low h0
        · exact headForV_no (headWide_23 hr (by omega)) HK.out
      rw [e]
      have hblk := hblk0.three (.int .i64 0) (.int .i64 0) (.int .i64 0)
      exact bodyPost_ret (results_blk Tryz.results43 Tryz.isAgg60 (by exact Tryz.sizeOf60) rfl hblk) rfl ⟨rfl, ((((Below.two _ _ _).up hb1).setCell (by simp <;> omega) _).setCell (by simp <;> omega) _).setCell (by simp <;> omega) _⟩
    · have h0 : ¬ n < 0 := fun h => by rw [headOk_neg h] at hk; cases hk
      rw [headForV_yes (headWide_23 hr (by omega)) HK.out]
      have hblk := hblk0.three (.int .i64 mj) (.int .i64 n) (.int .i64 0)
      exact bodyPost_ret (results_blk Tryz.results43 Tryz.isAgg60 (by exact Tryz.sizeOf60) rfl hblk) rfl ⟨rfl, ((((Below.two _ _ _).up hb1).setCell (by simp <;> omega) _).setCell (by simp <;> omega) _).setCell (by simp <;> omega) _⟩
  · have hw := Lib.hid (headWide_out (n := n) (by omega))
    cases hk : headOk mj n (widthFor n)
    all_goals
      have HK := Lib.hid hk
      go_enter Tryz.func43, Tryz.ntmps43
      go_wp2_with (first | (go_at_call 65; refine (s_WidthFor _ _).mono ?_; rintro e w' ⟨rfl, rfl⟩) | (go_at_call 63; refine (s_HeadOk _ _ _ _).mono ?_; rintro e w1 ⟨rfl, hb1⟩; obtain ⟨hc1, hf1⟩ := bcell hb1; have hz1 : w.heap.size + 1 < w1.heap.size := by have := hb1.size; simp at this; omega))
      have hblk0 : Blk w1 w.heap.size 60 #[.int .i64 0, .int .i64 0, .int .i64 0] := (Blk.alloc (Blk.new w _ _) _).below hb1 (by simp <;> omega)
    · rw [headForV_no hw.out HK.out]
      have hblk := hblk0.three (.int .i64 0) (.int .i64 0) (.int .i64 0)
      exact bodyPost_ret (results_blk Tryz.results43 Tryz.isAgg60 (by exact Tryz.sizeOf60) rfl hblk) rfl ⟨rfl, ((((Below.two _ _ _).up hb1).setCell (by simp <;> omega) _).setCell (by simp <;> omega) _).setCell (by simp <;> omega) _⟩
    · rw [headForV_yes hw.out HK.out]
      have hblk := hblk0.three (.int .i64 mj) (.int .i64 n) (.int .i64 (widthFor n))
      exact bodyPost_ret (results_blk Tryz.results43 Tryz.isAgg60 (by exact Tryz.sizeOf60) rfl hblk) rfl ⟨rfl, ((((Below.two _ _ _).up hb1).setCell (by simp <;> omega) _).setCell (by simp <;> omega) _).setCell (by simp <;> omega) _⟩
theorem headForV_shape (mj n : Int) : ∃ a b c : Int, headForV mj n = .agg #[.int .i64 a, .int .i64 b, .int .i64 c] := by
  unfold headForV; split <;> exact ⟨_, _, _, rfl⟩
end Go.Proofs.YtmnlkedacnemcaaGreatDoor

namespace Go.Proofs.YtmnlkedacnemcaaGreatDoor
open Go.RowKit

def headP (wd : Bool) (mj n v : Int) : List UInt8 := if headOk mj n v = true then (if wd = true ∧ mj < 7 then headB mj n 8 else headB mj n v) else []
def numP (wd : Bool) (mj n : Int) : List UInt8 := headP wd mj n (headWide n)
theorem headP_len (wd : Bool) (mj n v : Int) : (headP wd mj n v).length ≤ 9 := by
  unfold headP
  have h1 := headB_len mj n 8
  have h2 := headB_len mj n v
  (repeat' split) <;> (try simp only [List.length_nil]) <;> omega
theorem headOk_8 {mj n v : Int} (h : headOk mj n v = true) : headOk mj n 8 = true := by
  have h := headOk_facts h
  unfold headOk; rw [decide_eq_true_eq]; omega
/-- The packer lies in block g: its bytes, and its two flags. -/
structure Pk (w : World) (g : Nat) (A : Option Addr) (n c : Nat) (b : List UInt8) (wd op : Bool) : Prop where
  blk : Blk w g 56 #[.slice A n c, .bool wd, .bool op]
  own : BS w (g + 1) A n c b
/-- From w to w': the packer, the block of A and new blocks alone are written. -/
structure GP (g : Nat) (A A' : Option Addr) (w w' : World) : Prop where
  fr : Fr (g :: blkOf A) w w'
  own : ∀ x ∈ blkOf A', x ∈ blkOf A ∨ w.heap.size ≤ x
section
variable {g n c n' c' : Nat} {A A1 A2 A' : Option Addr} {w w' w1 w2 : World} {b b' : List UInt8} {wd op : Bool}
theorem GP.trans (h : GP g A A1 w w1) (k : GP g A1 A2 w1 w2) : GP g A A2 w w2 :=
  ⟨⟨k.fr.os.trans h.fr.os, k.fr.tape.trans h.fr.tape, k.fr.output.trans h.fr.output, Nat.le_trans h.fr.size k.fr.size, fun i hi hn =>
    (k.fr.block i (Nat.lt_of_lt_of_le hi h.fr.size) fun h2 => by
      rcases List.mem_cons.1 h2 with h3 | h3
      · exact hn (by rw [h3]; exact List.mem_cons_self)
      · rcases h.own i h3 with h4 | h4
        · exact hn (List.mem_cons_of_mem _ h4)
        · exact Nat.lt_irrefl _ (Nat.lt_of_lt_of_le hi h4)).trans (h.fr.block i hi hn)⟩,
   fun x hx => by
    rcases k.own x hx with h2 | h2
    · exact h.own x h2
    · exact .inr (Nat.le_trans h.fr.size h2)⟩
theorem GP.of_below (h : Below w.heap.size w w') : GP g A A w w' := ⟨Fr.of_below h, fun _ hg => .inl hg⟩
theorem GP.of_gr (h : Gr A A' w w') : GP g A A' w w' := ⟨h.fr.mono fun x hx => List.mem_cons_of_mem _ hx, h.own⟩
theorem GP.refl (g : Nat) (A : Option Addr) (w : World) : GP g A A w w := ⟨Fr.refl _ _, fun _ hg => .inl hg⟩
theorem GP.size (h : GP g A A' w w') : w.heap.size ≤ w'.heap.size := h.fr.size
theorem Pk.lt (h : Pk w g A n c b wd op) : g < w.heap.size := h.blk.lt
theorem Pk.notin (h : Pk w g A n c b wd op) : g ∉ blkOf A := fun h2 => Nat.lt_irrefl _ (Nat.lt_of_lt_of_le (Nat.lt_succ_self g) (h.own.from_ g h2))
theorem Pk.below (h : Pk w g A n c b wd op) (hb : Below w.heap.size w w') : Pk w' g A n c b wd op := ⟨h.blk.below hb h.blk.lt, h.own.below hb⟩
theorem Pk.alloc (h : Pk w g A n c b wd op) (o : Obj) : Pk (w.alloc o) g A n c b wd op := h.below (Below.one w o)
theorem Pk.fr {fp : List Nat} (h : Pk w g A n c b wd op) (hf : Fr fp w w') (hg : g ∉ fp) (hA : ∀ x ∈ blkOf A, x ∉ fp) : Pk w' g A n c b wd op :=
  ⟨(hf.block g h.blk.lt hg).trans h.blk, h.own.fr hf hA⟩
theorem Pk.drew (h : Pk w g A n c b wd op) : Pk w.drew g A n c b wd op := ⟨h.blk.drew, h.own.drew⟩
theorem Pk.cells (h : Pk w g A n c b wd op) : w.cell? ⟨g, 0, none⟩ = some (.slice A n c) ∧ w.cell? ⟨g, 1, none⟩ = some (.bool wd) ∧ w.cell? ⟨g, 2, none⟩ = some (.bool op) ∧ w.frozen? ⟨g, 0, none⟩ = false := ⟨h.blk.cell 0, h.blk.cell 1, h.blk.cell 2, h.blk.frozen 0⟩
/-- Blocks that are neither the packer nor its bytes stay. -/
theorem GP.keep {x : Nat} {T : TypeId} {cs : Array Value} (h : GP g A A' w w') (hb : Blk w x T cs) (hg : x ≠ g) (hA : x ∉ blkOf A) : Blk w' x T cs :=
  (h.fr.block x hb.lt fun h2 => by rcases List.mem_cons.1 h2 with h3 | h3; exact hg h3; exact hA h3).trans hb
theorem GP.below (h : GP g A A' w w') (hp : Pk w g A n c b wd op) : Below g w w' :=
  h.fr.below (fun x hx => by
    rcases List.mem_cons.1 hx with h3 | h3
    · exact Nat.le_of_eq h3.symm
    · exact Nat.le_trans (Nat.le_succ _) (hp.own.from_ x h3)) (Nat.le_of_lt hp.lt)
/-- The packer's bytes set anew. -/
theorem Pk.put (h : Pk w g A n c b wd op) (h1 : BS w (g + 1) A' n' c' b') (ho : ∀ x ∈ blkOf A', x ∈ blkOf A ∨ w1.heap.size ≤ x) (hw : GP g A A w1 w) :
    Pk (w.setCell ⟨g, 0, none⟩ (.slice A' n' c')) g A' n' c' b' wd op ∧ GP g A A' w1 (w.setCell ⟨g, 0, none⟩ (.slice A' n' c')) := by
  have hf := (Fr.refl [g] w).setCell (p := ⟨g, 0, none⟩) (by simp) (.slice A' n' c')
  refine ⟨⟨by simpa using h.blk.set_ 0 (.slice A' n' c'), h1.fr hf fun x hx h2 => ?_⟩, ⟨hw.fr.trans (hf.mono fun x hx => by rw [List.mem_singleton] at hx; subst hx; exact List.mem_cons_self), ho⟩⟩
  rw [List.mem_singleton] at h2
  subst h2
  exact Nat.lt_irrefl _ (Nat.lt_of_lt_of_le (Nat.lt_succ_self _) (h1.from_ x hx))
end
set_option maxHeartbeats 1600000 in
theorem i_head (g : Nat) (A : Option Addr) (m c : Nat) (b : List UInt8) (wd op : Bool) (mj n v : Int) (w : World) (h : Pk w g A m c b wd op) (hm : m ≤ 137438953472) (hn : n ≤ 9223372036854775807) :
    Calls Tryz.prog 60 #[.pointer (some ⟨g, 0, none⟩), .agg #[.int .i64 mj, .int .i64 n, .int .i64 v]] w fun r w' => ∃ A' n' c', r = .returned (.tuple #[]) ∧ Pk w' g A' n' c' (b ++ headP wd mj n v) wd op ∧ GP g A A' w w' := by
  have hg := h.lt
  -- the last region: PutHead, and the store
  have hput : ∀ (w1 : World) (v1 : Int), Pk w1 g A m c b wd op → Below w.heap.size w w1 → Blk w1 w.heap.size 60 #[.int .i64 mj, .int .i64 n, .int .i64 v1] → Calls Tryz.prog 80 #[.slice A m c, .agg #[.int .i64 mj, .int .i64 n, .int .i64 v1]] w1.drew fun r w2 => ∃ A' n' c', r = .returned (.slice A' n' c') ∧ (w2.cell? ⟨g, 0, none⟩ = some (.slice A m c) ∧ w2.frozen? ⟨g, 0, none⟩ = false) ∧ (w2.cell? ⟨w.heap.size, 0, none⟩ = some (.int .i64 mj) ∧ w2.cell? ⟨w.heap.size, 1, none⟩ = some (.int .i64 n) ∧ w2.cell? ⟨w.heap.size, 2, none⟩ = some (.int .i64 v1)) ∧ (Pk (w2.setCell ⟨g, 0, none⟩ (.slice A' n' c')) g A' n' c' (b ++ headB mj n v1) wd op ∧ GP g A A' w (w2.setCell ⟨g, 0, none⟩ (.slice A' n' c'))) := by
    intro w1 v1 h1 hb1 hB
    refine (i_PutHead A m c b mj n v1 w1.drew _ h1.own.sl.drew (Nat.le_refl _) (by omega) hn).mono fun r w2 ⟨A', n', c', hr, h2, hb2⟩ => ⟨A', n', c', hr, ?_⟩
    have hb2' : Below w1.heap.size w1 w2 := Below.of_drew hb2
    have h3 := h1.below hb2'
    have hB2 := hB.below hb2' hB.lt
    have hk := hb1.up hb2'
    exact ⟨⟨h3.cells.1, h3.cells.2.2.2⟩, ⟨hB2.cell 0, hB2.cell 1, hB2.cell 2⟩, h3.put (h2.mono (Nat.le_trans hg hb1.size)) (fun x hx => .inr (Nat.le_trans hb1.size (h2.from_ x hx))) (GP.of_below hk)⟩
  have B0 : Blk (w.alloc (.cells #[.int .i64 mj, .int .i64 n, .int .i64 v] 60)) w.heap.size 60 #[.int .i64 mj, .int .i64 n, .int .i64 v] := Blk.new w _ _
  have k0 := Below.one w (.cells #[.int .i64 mj, .int .i64 n, .int .i64 v] 60)
  have h0 := h.below k0
  obtain ⟨q0, q1, q2, q3⟩ := h0.cells
  cases hk : headOk mj n v
  · cases wd
    · have HP := Lib.hid (show headP false mj n v = [] from by unfold headP; rw [hk]; rfl)
      have HK := Lib.hid hk; clear hk
      go_enter Tryz.func60, Tryz.ntmps60
      go_wp2_with (go_at_call 79; refine (i_HeadOk _ _ _ _ hn).mono ?_; rintro r w1 ⟨rfl, hb1⟩; rw [HK.out]; have h1 := h0.below hb1; have B1 := B0.below hb1 B0.lt; have k1 := k0.up hb1; obtain ⟨q0, q1, q2, q3⟩ := h1.cells; obtain ⟨⟨b0, b1, b2⟩, -⟩ := B1.box3 (Below.refl _ _))
      go_wp2_with fail
      refine bodyPost_end (results_none Tryz.results60 _ _ _) rfl ?_
      exact ⟨_, _, _, rfl, by rw [HP.out, List.append_nil]; exact h1, GP.of_below k1⟩
    · have HP := Lib.hid (show headP true mj n v = [] from by unfold headP; rw [hk]; rfl)
      have HK := Lib.hid hk; clear hk
      go_enter Tryz.func60, Tryz.ntmps60
      go_wp2_with (first | (go_at_call 79; refine (i_HeadOk _ _ _ _ hn).mono ?_; rintro r w1 ⟨rfl, hb1⟩; rw [HK.out]; have h1 := h0.below hb1; have B1 := B0.below hb1 B0.lt; have k1 := k0.up hb1; obtain ⟨q0, q1, q2, q3⟩ := h1.cells; obtain ⟨⟨b0, b1, b2⟩, -⟩ := B1.box3 (Below.refl _ _)) | (go_at_call 79; refine (i_HeadOk _ _ _ _ hn).mono ?_; rintro r w2 ⟨rfl, hb2⟩; rw [HK.out]; have h2 := h1.below hb2; have B2 := B1.below hb2 B1.lt; have k2 := k1.up hb2; obtain ⟨q0, q1, q2, q3⟩ := h2.cells; obtain ⟨⟨b0, b1, b2⟩, -⟩ := B2.box3 (Below.refl _ _)))
      go_wp2_with fail
      refine bodyPost_end (results_none Tryz.results60 _ _ _) rfl ?_
      exact ⟨_, _, _, rfl, by rw [HP.out, List.append_nil]; exact h2, GP.of_below k2⟩
  · cases wd
    · have HP := Lib.hid (show headP false mj n v = headB mj n v from by unfold headP; rw [if_pos hk, if_neg (by simp)])
      have HK := Lib.hid hk; clear hk
      go_enter Tryz.func60, Tryz.ntmps60
      go_wp2_with (go_at_call 79; refine (i_HeadOk _ _ _ _ hn).mono ?_; rintro r w1 ⟨rfl, hb1⟩; rw [HK.out]; have h1 := h0.below hb1; have B1 := B0.below hb1 B0.lt; have k1 := k0.up hb1; obtain ⟨q0, q1, q2, q3⟩ := h1.cells; obtain ⟨⟨b0, b1, b2⟩, -⟩ := B1.box3 (Below.refl _ _))
      go_region_law ((go_simp; go_at_call 80; refine (hput w1 v h1 k1 B1).mono ?_; rintro r w9 ⟨A9, n9, c9, rfl, ⟨s0, s1⟩, ⟨b0, b1, b2⟩, hres⟩))
      all_goals
        go_wp2_with fail
        refine bodyPost_end (results_none Tryz.results60 _ _ _) rfl ?_
        exact ⟨_, _, _, rfl, by rw [HP.out]; exact hres.1, hres.2⟩
    · by_cases h7 : mj < 7
      · have HP := Lib.hid (show headP true mj n v = headB mj n 8 from by unfold headP; rw [if_pos hk, if_pos ⟨rfl, h7⟩])
        have HK := Lib.hid hk
        have HK8 := Lib.hid (headOk_8 hk); clear hk
        go_enter Tryz.func60, Tryz.ntmps60
        have hA9 : ∀ x ∈ blkOf A, x ∉ [w.heap.size] := fun x hx hx2 => by rw [List.mem_singleton] at hx2; have := h.own.to_ x hx; omega
        have hg9 : g ∉ [w.heap.size] := fun hx2 => by rw [List.mem_singleton] at hx2; omega
        go_wp2_with (first | (go_at_call 79; refine (i_HeadOk _ _ _ _ hn).mono ?_; rintro r w1 ⟨rfl, hb1⟩; rw [HK.out]; have h1 := h0.below hb1; have B1 := B0.below hb1 B0.lt; have k1 := k0.up hb1; obtain ⟨q0, q1, q2, q3⟩ := h1.cells; obtain ⟨⟨b0, b1, b2⟩, -⟩ := B1.box3 (Below.refl _ _); have f2 := B1.frozen 2; have B3 : Blk (w1.setCell ⟨w.heap.size, 2, none⟩ (.int .i64 8)) w.heap.size 60 #[.int .i64 mj, .int .i64 n, .int .i64 8] := (by simpa using B1.set_ 2 (.int .i64 8)); have h3 := h1.fr ((Fr.refl [w.heap.size] w1).setCell (p := ⟨w.heap.size, 2, none⟩) (by simp) (.int .i64 8)) hg9 hA9; have k3 := k1.setCell (p := ⟨w.heap.size, 2, none⟩) (Nat.le_refl _) (.int .i64 8); obtain ⟨⟨b30, b31, b32⟩, -⟩ := B3.box3 (Below.refl _ _)) | (go_at_call 79; refine (i_HeadOk _ _ _ _ hn).mono ?_; rintro r w4 ⟨rfl, hb4⟩; rw [HK8.out]; have h4 := h3.below hb4; have B4 := B3.below hb4 B3.lt; have k4 := k3.up hb4; obtain ⟨q0, q1, q2, q3⟩ := h4.cells; obtain ⟨⟨b0, b1, b2⟩, -⟩ := B4.box3 (Below.refl _ _)))
        go_region_law ((go_simp; go_at_call 80; refine (hput w4 8 h4 k4 B4).mono ?_; rintro r w9 ⟨A9, n9, c9, rfl, ⟨s0, s1⟩, ⟨b0, b1, b2⟩, hres⟩))
        all_goals
          go_wp2_with fail
          refine bodyPost_end (results_none Tryz.results60 _ _ _) rfl ?_
          exact ⟨_, _, _, rfl, by rw [HP.out]; exact hres.1, hres.2⟩
      · have HP := Lib.hid (show headP true mj n v = headB mj n v from by unfold headP; rw [if_pos hk, if_neg (by omega)])
        have HK := Lib.hid hk; clear hk
        go_enter Tryz.func60, Tryz.ntmps60
        go_wp2_with (first | (go_at_call 79; refine (i_HeadOk _ _ _ _ hn).mono ?_; rintro r w1 ⟨rfl, hb1⟩; rw [HK.out]; have h1 := h0.below hb1; have B1 := B0.below hb1 B0.lt; have k1 := k0.up hb1; obtain ⟨q0, q1, q2, q3⟩ := h1.cells; obtain ⟨⟨b0, b1, b2⟩, -⟩ := B1.box3 (Below.refl _ _)) | (go_at_call 79; refine (i_HeadOk _ _ _ _ hn).mono ?_; rintro r w2 ⟨rfl, hb2⟩; rw [HK.out]; have h2 := h1.below hb2; have B2 := B1.below hb2 B1.lt; have k2 := k1.up hb2; obtain ⟨q0, q1, q2, q3⟩ := h2.cells; obtain ⟨⟨b0, b1, b2⟩, -⟩ := B2.box3 (Below.refl _ _)))
        go_region_law ((go_simp; go_at_call 80; refine (hput w2 v h2 k2 B2).mono ?_; rintro r w9 ⟨A9, n9, c9, rfl, ⟨s0, s1⟩, ⟨b0, b1, b2⟩, hres⟩))
        all_goals
          go_wp2_with fail
          refine bodyPost_end (results_none Tryz.results60 _ _ _) rfl ?_
          exact ⟨_, _, _, rfl, by rw [HP.out]; exact hres.1, hres.2⟩
end Go.Proofs.YtmnlkedacnemcaaGreatDoor
