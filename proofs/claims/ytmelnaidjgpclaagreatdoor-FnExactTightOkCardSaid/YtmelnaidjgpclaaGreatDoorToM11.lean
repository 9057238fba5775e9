/- The packer: head, number, text. The packer: number, text, elements, value. The packer: elements, value; PackTight, OpenUp, LooseTight. The reference's PackTight. impl.LessBytes and spec.LessBytes: the order of bytes. LessTight: impl, spec, law. FitsTight: both sides. Written by gen/fits.py. WriteTight: both sides. Written by gen/writes.py. TightOk: both sides, and the law. The law on TightOk. Arguments opened: from 'it reads as data' to the cells that it holds. -/
import Derived.Test.YtmelnaidjgpclaaGreatDoorGr
import Derived.Test.YtmelnaidjgpclaaGreatDoorPutHead
import Derived.Test.YtmelnaidjgpclaaGreatDoorHeadFor
import Derived.Deep.RegionLaw
import Derived.Test.YtmelnaidjgpclaaGreatDoorFlt
import Derived.Test.YtmelnaidjgpclaaGreatDoorVal
import Derived.Deep.LoopGhost
import Derived.Test.YtmelnaidjgpclaaGreatDoorMarkVal
import Derived.Deep.RegionHeld3
import Derived.Test.YtmelnaidjgpclaaGreatDoorBytes
import Derived.Lib.Bytealg
import Derived.Lib.BytesEntry
import Derived.Lib.UnsafeStr
import Derived.Test.YtmelnaidjgpclaaGreatDoorOkM7
import Derived.Test.YtmelnaidjgpclaaGreatDoorToM8
import Derived.Test.YtmelnaidjgpclaaGreatDoorPkG0
import Derived.Test.YtmelnaidjgpclaaGreatDoorBs
import Derived.Deep.Cut
import Derived.Deep.CutBlock
import Derived.Deep.DeepCutAuto
import Derived.BigRegion
import Derived.Deep.QuietTactic
import Derived.BigQuiet
import Derived.Test.YtmelnaidjgpclaaGreatDoorMem
import Derived.ProofKit
import Derived.OpenShut
import Derived.Deep.Slices
import Derived.Lib.SmallJoins
set_option linter.unusedVariables false
set_option maxRecDepth 100000
set_option linter.unusedSimpArgs false
namespace Go.Proofs.YtmelnaidjgpclaaGreatDoor
open Go.RowKit

def headP (wd : Bool) (mj n v : Int) : List UInt8 := if headOk mj n v = true then (if wd = true ∧ mj < 7 then headB mj n 8 else headB mj n v) else []
def numP (wd : Bool) (mj n : Int) : List UInt8 := headP wd mj n (headWide n)
theorem headP_len (wd : Bool) (mj n v : Int) : (headP wd mj n v).length ≤ 9 := by
  unfold headP
  have h1 := headB_len mj n 8
  have h2 := headB_len mj n v
  (repeat' split) <;> (try simp only [List.length_nil]) <;> omega
theorem headOk_8 {mj n v : Int} (h : headOk mj n v = true) : headOk mj n 8 = true := by
  have h := headOk_facts h
  unfold headOk; rw [decide_eq_true_eq]; omega
/-- The packer lies in block g: its bytes, and its two flags. -/
structure Pk (w : World) (g : Nat) (A : Option Addr) (n c : Nat) (b : List UInt8) (wd op : Bool) : Prop where
  blk : Blk w g 60 #[.slice A n c, .bool wd, .bool op]
  own : BS w (g + 1) A n c b
/-- From w to w': the packer, the block of A and new blocks alone are written. -/
structure GP (g : Nat) (A A' : Option Addr) (w w' : World) : Prop where
  fr : Fr (g :: blkOf A) w w'
  own : ∀ x ∈ blkOf A', x ∈ blkOf A ∨ w.heap.size ≤ x
section
variable {g n c n' c' : Nat} {A A1 A2 A' : Option Addr} {w w' w1 w2 : World} {b b' : List UInt8} {wd op : Bool}
theorem GP.trans (h : GP g A A1 w w1) (k : GP g A1 A2 w1 w2) : GP g A A2 w w2 :=
  ⟨⟨k.fr.os.trans h.fr.os, k.fr.tape.trans h.fr.tape, k.fr.output.trans h.fr.output, Nat.le_trans h.fr.size k.fr.size, fun i hi hn =>
    (k.fr.block i (Nat.lt_of_lt_of_le hi h.fr.size) fun h2 => by
      rcases List.mem_cons.1 h2 with h3 | h3
      · exact hn (by rw [h3]; exact List.mem_cons_self)
      · rcases h.own i h3 with h4 | h4
        · exact hn (List.mem_cons_of_mem _ h4)
        · exact Nat.lt_irrefl _ (Nat.lt_of_lt_of_le hi h4)).trans (h.fr.block i hi hn)⟩,
   fun x hx => by
    rcases k.own x hx with h2 | h2
    · exact h.own x h2
    · exact .inr (Nat.le_trans h.fr.size h2)⟩
theorem GP.of_below (h : Below w.heap.size w w') : GP g A A w w' := ⟨Fr.of_below h, fun _ hg => .inl hg⟩
theorem GP.of_gr (h : Gr A A' w w') : GP g A A' w w' := ⟨h.fr.mono fun x hx => List.mem_cons_of_mem _ hx, h.own⟩
theorem GP.refl (g : Nat) (A : Option Addr) (w : World) : GP g A A w w := ⟨Fr.refl _ _, fun _ hg => .inl hg⟩
theorem GP.size (h : GP g A A' w w') : w.heap.size ≤ w'.heap.size := h.fr.size
theorem Pk.lt (h : Pk w g A n c b wd op) : g < w.heap.size := h.blk.lt
theorem Pk.notin (h : Pk w g A n c b wd op) : g ∉ blkOf A := fun h2 => Nat.lt_irrefl _ (Nat.lt_of_lt_of_le (Nat.lt_succ_self g) (h.own.from_ g h2))
theorem Pk.below (h : Pk w g A n c b wd op) (hb : Below w.heap.size w w') : Pk w' g A n c b wd op := ⟨h.blk.below hb h.blk.lt, h.own.below hb⟩
theorem Pk.alloc (h : Pk w g A n c b wd op) (o : Obj) : Pk (w.alloc o) g A n c b wd op := h.below (Below.one w o)
theorem Pk.fr {fp : List Nat} (h : Pk w g A n c b wd op) (hf : Fr fp w w') (hg : g ∉ fp) (hA : ∀ x ∈ blkOf A, x ∉ fp) : Pk w' g A n c b wd op :=
  ⟨(hf.block g h.blk.lt hg).trans h.blk, h.own.fr hf hA⟩
theorem Pk.drew (h : Pk w g A n c b wd op) : Pk w.drew g A n c b wd op := ⟨h.blk.drew, h.own.drew⟩
theorem Pk.cells (h : Pk w g A n c b wd op) : w.cell? ⟨g, 0, none⟩ = some (.slice A n c) ∧ w.cell? ⟨g, 1, none⟩ = some (.bool wd) ∧ w.cell? ⟨g, 2, none⟩ = some (.bool op) ∧ w.frozen? ⟨g, 0, none⟩ = false := ⟨h.blk.cell 0, h.blk.cell 1, h.blk.cell 2, h.blk.frozen 0⟩
/-- Blocks that are neither the packer nor its bytes stay. -/
theorem GP.keep {x : Nat} {T : TypeId} {cs : Array Value} (h : GP g A A' w w') (hb : Blk w x T cs) (hg : x ≠ g) (hA : x ∉ blkOf A) : Blk w' x T cs :=
  (h.fr.block x hb.lt fun h2 => by rcases List.mem_cons.1 h2 with h3 | h3; exact hg h3; exact hA h3).trans hb
theorem GP.below (h : GP g A A' w w') (hp : Pk w g A n c b wd op) : Below g w w' :=
  h.fr.below (fun x hx => by
    rcases List.mem_cons.1 hx with h3 | h3
    · exact Nat.le_of_eq h3.symm
    · exact Nat.le_trans (Nat.le_succ _) (hp.own.from_ x h3)) (Nat.le_of_lt hp.lt)
/-- The packer's bytes set anew. -/
theorem Pk.put (h : Pk w g A n c b wd op) (h1 : BS w (g + 1) A' n' c' b') (ho : ∀ x ∈ blkOf A', x ∈ blkOf A ∨ w1.heap.size ≤ x) (hw : GP g A A w1 w) :
    Pk (w.setCell ⟨g, 0, none⟩ (.slice A' n' c')) g A' n' c' b' wd op ∧ GP g A A' w1 (w.setCell ⟨g, 0, none⟩ (.slice A' n' c')) := by
  have hf := (Fr.refl [g] w).setCell (p := ⟨g, 0, none⟩) (by simp) (.slice A' n' c')
  refine ⟨⟨by simpa using h.blk.set_ 0 (.slice A' n' c'), h1.fr hf fun x hx h2 => ?_⟩, ⟨hw.fr.trans (hf.mono fun x hx => by rw [List.mem_singleton] at hx; subst hx; exact List.mem_cons_self), ho⟩⟩
  rw [List.mem_singleton] at h2
  subst h2
  exact Nat.lt_irrefl _ (Nat.lt_of_lt_of_le (Nat.lt_succ_self _) (h1.from_ x hx))
end
set_option maxHeartbeats 1600000 in
theorem i_head (g : Nat) (A : Option Addr) (m c : Nat) (b : List UInt8) (wd op : Bool) (mj n v : Int) (w : World) (h : Pk w g A m c b wd op) (hm : m ≤ 137438953472) (hn : n ≤ 9223372036854775807) :
    Calls Tryz.prog 89 #[.pointer (some ⟨g, 0, none⟩), .agg #[.int .i64 mj, .int .i64 n, .int .i64 v]] w fun r w' => ∃ A' n' c', r = .returned (.tuple #[]) ∧ Pk w' g A' n' c' (b ++ headP wd mj n v) wd op ∧ GP g A A' w w' := by
  have hg := h.lt
  -- the last region: PutHead, and the store
  have hput : ∀ (w1 : World) (v1 : Int), Pk w1 g A m c b wd op → Below w.heap.size w w1 → Blk w1 w.heap.size 36 #[.int .i64 mj, .int .i64 n, .int .i64 v1] → Calls Tryz.prog 120 #[.slice A m c, .agg #[.int .i64 mj, .int .i64 n, .int .i64 v1]] w1.drew fun r w2 => ∃ A' n' c', r = .returned (.slice A' n' c') ∧ (w2.cell? ⟨g, 0, none⟩ = some (.slice A m c) ∧ w2.frozen? ⟨g, 0, none⟩ = false) ∧ (w2.cell? ⟨w.heap.size, 0, none⟩ = some (.int .i64 mj) ∧ w2.cell? ⟨w.heap.size, 1, none⟩ = some (.int .i64 n) ∧ w2.cell? ⟨w.heap.size, 2, none⟩ = some (.int .i64 v1)) ∧ (Pk (w2.setCell ⟨g, 0, none⟩ (.slice A' n' c')) g A' n' c' (b ++ headB mj n v1) wd op ∧ GP g A A' w (w2.setCell ⟨g, 0, none⟩ (.slice A' n' c'))) := by
    intro w1 v1 h1 hb1 hB
    refine (i_PutHead A m c b mj n v1 w1.drew _ h1.own.sl.drew (Nat.le_refl _) (by omega) hn).mono fun r w2 ⟨A', n', c', hr, h2, hb2⟩ => ⟨A', n', c', hr, ?_⟩
    have hb2' : Below w1.heap.size w1 w2 := Below.of_drew hb2
    have h3 := h1.below hb2'
    have hB2 := hB.below hb2' hB.lt
    have hk := hb1.up hb2'
    exact ⟨⟨h3.cells.1, h3.cells.2.2.2⟩, ⟨hB2.cell 0, hB2.cell 1, hB2.cell 2⟩, h3.put (h2.mono (Nat.le_trans hg hb1.size)) (fun x hx => .inr (Nat.le_trans hb1.size (h2.from_ x hx))) (GP.of_below hk)⟩
  have B0 : Blk (w.alloc (.cells #[.int .i64 mj, .int .i64 n, .int .i64 v] 36)) w.heap.size 36 #[.int .i64 mj, .int .i64 n, .int .i64 v] := Blk.new w _ _
  have k0 := Below.one w (.cells #[.int .i64 mj, .int .i64 n, .int .i64 v] 36)
  have h0 := h.below k0
  obtain ⟨q0, q1, q2, q3⟩ := h0.cells
  cases hk : headOk mj n v
  · cases wd
    · have HP := Lib.hid (show headP false mj n v = [] from by unfold headP; rw [hk]; rfl)
      have HK := Lib.hid hk; clear hk
      go_enter Tryz.func89, Tryz.ntmps89
      go_wp2_with (go_at_call 119; refine (i_HeadOk _ _ _ _ hn).mono ?_; rintro r w1 ⟨rfl, hb1⟩; rw [HK.out]; have h1 := h0.below hb1; have B1 := B0.below hb1 B0.lt; have k1 := k0.up hb1; obtain ⟨q0, q1, q2, q3⟩ := h1.cells; obtain ⟨⟨b0, b1, b2⟩, -⟩ := B1.box3 (Below.refl _ _))
      go_wp2_with fail
      refine bodyPost_end (results_none Tryz.results89 _ _ _) rfl ?_
      exact ⟨_, _, _, rfl, by rw [HP.out, List.append_nil]; exact h1, GP.of_below k1⟩
    · have HP := Lib.hid (show headP true mj n v = [] from by unfold headP; rw [hk]; rfl)
      have HK := Lib.hid hk; clear hk
      go_enter Tryz.func89, Tryz.ntmps89
      go_wp2_with (first | (go_at_call 119; refine (i_HeadOk _ _ _ _ hn).mono ?_; rintro r w1 ⟨rfl, hb1⟩; rw [HK.out]; have h1 := h0.below hb1; have B1 := B0.below hb1 B0.lt; have k1 := k0.up hb1; obtain ⟨q0, q1, q2, q3⟩ := h1.cells; obtain ⟨⟨b0, b1, b2⟩, -⟩ := B1.box3 (Below.refl _ _)) | (go_at_call 119; refine (i_HeadOk _ _ _ _ hn).mono ?_; rintro r w2 ⟨rfl, hb2⟩; rw [HK.out]; have h2 := h1.below hb2; have B2 := B1.below hb2 B1.lt; have k2 := k1.up hb2; obtain ⟨q0, q1, q2, q3⟩ := h2.cells; obtain ⟨⟨b0, b1, b2⟩, -⟩ := B2.box3 (Below.refl _ _)))
      go_wp2_with fail
      refine bodyPost_end (results_none Tryz.results89 _ _ _) rfl ?_
      exact ⟨_, _, _, rfl, by rw [HP.out, List.append_nil]; exact h2, GP.of_below k2⟩
  · cases wd
    · have HP := Lib.hid (show headP false mj n v = headB mj n v from by unfold headP; rw [if_pos hk, if_neg (by simp)])
      have HK := Lib.hid hk; clear hk
      go_enter Tryz.func89, Tryz.ntmps89
      go_wp2_with (go_at_call 119; refine (i_HeadOk _ _ _ _ hn).mono ?_; rintro r w1 ⟨rfl, hb1⟩; rw [HK.out]; have h1 := h0.below hb1; have B1 := B0.below hb1 B0.lt; have k1 := k0.up hb1; obtain ⟨q0, q1, q2, q3⟩ := h1.cells; obtain ⟨⟨b0, b1, b2⟩, -⟩ := B1.box3 (Below.refl _ _))
      go_region_law ((go_simp; go_at_call 120; refine (hput w1 v h1 k1 B1).mono ?_; rintro r w9 ⟨A9, n9, c9, rfl, ⟨s0, s1⟩, ⟨b0, b1, b2⟩, hres⟩))
      all_goals
        go_wp2_with fail
        refine bodyPost_end (results_none Tryz.results89 _ _ _) rfl ?_
        exact ⟨_, _, _, rfl, by rw [HP.out]; exact hres.1, hres.2⟩
    · by_cases h7 : mj < 7
      · have HP := Lib.hid (show headP true mj n v = headB mj n 8 from by unfold headP; rw [if_pos hk, if_pos ⟨rfl, h7⟩])
        have HK := Lib.hid hk
        have HK8 := Lib.hid (headOk_8 hk); clear hk
        go_enter Tryz.func89, Tryz.ntmps89
        have hA9 : ∀ x ∈ blkOf A, x ∉ [w.heap.size] := fun x hx hx2 => by rw [List.mem_singleton] at hx2; have := h.own.to_ x hx; omega
        have hg9 : g ∉ [w.heap.size] := fun hx2 => by rw [List.mem_singleton] at hx2; omega
        go_wp2_with (first | (go_at_call 119; refine (i_HeadOk _ _ _ _ hn).mono ?_; rintro r w1 ⟨rfl, hb1⟩; rw [HK.out]; have h1 := h0.below hb1; have B1 := B0.below hb1 B0.lt; have k1 := k0.up hb1; obtain ⟨q0, q1, q2, q3⟩ := h1.cells; obtain ⟨⟨b0, b1, b2⟩, -⟩ := B1.box3 (Below.refl _ _); have f2 := B1.frozen 2; have B3 : Blk (w1.setCell ⟨w.heap.size, 2, none⟩ (.int .i64 8)) w.heap.size 36 #[.int .i64 mj, .int .i64 n, .int .i64 8] := (by simpa using B1.set_ 2 (.int .i64 8)); have h3 := h1.fr ((Fr.refl [w.heap.size] w1).setCell (p := ⟨w.heap.size, 2, none⟩) (by simp) (.int .i64 8)) hg9 hA9; have k3 := k1.setCell (p := ⟨w.heap.size, 2, none⟩) (Nat.le_refl _) (.int .i64 8); obtain ⟨⟨b30, b31, b32⟩, -⟩ := B3.box3 (Below.refl _ _)) | (go_at_call 119; refine (i_HeadOk _ _ _ _ hn).mono ?_; rintro r w4 ⟨rfl, hb4⟩; rw [HK8.out]; have h4 := h3.below hb4; have B4 := B3.below hb4 B3.lt; have k4 := k3.up hb4; obtain ⟨q0, q1, q2, q3⟩ := h4.cells; obtain ⟨⟨b0, b1, b2⟩, -⟩ := B4.box3 (Below.refl _ _)))
        go_region_law ((go_simp; go_at_call 120; refine (hput w4 8 h4 k4 B4).mono ?_; rintro r w9 ⟨A9, n9, c9, rfl, ⟨s0, s1⟩, ⟨b0, b1, b2⟩, hres⟩))
        all_goals
          go_wp2_with fail
          refine bodyPost_end (results_none Tryz.results89 _ _ _) rfl ?_
          exact ⟨_, _, _, rfl, by rw [HP.out]; exact hres.1, hres.2⟩
      · have HP := Lib.hid (show headP true mj n v = headB mj n v from by unfold headP; rw [if_pos hk, if_neg (by omega)])
        have HK := Lib.hid hk; clear hk
        go_enter Tryz.func89, Tryz.ntmps89
        go_wp2_with (first | (go_at_call 119; refine (i_HeadOk _ _ _ _ hn).mono ?_; rintro r w1 ⟨rfl, hb1⟩; rw [HK.out]; have h1 := h0.below hb1; have B1 := B0.below hb1 B0.lt; have k1 := k0.up hb1; obtain ⟨q0, q1, q2, q3⟩ := h1.cells; obtain ⟨⟨b0, b1, b2⟩, -⟩ := B1.box3 (Below.refl _ _)) | (go_at_call 119; refine (i_HeadOk _ _ _ _ hn).mono ?_; rintro r w2 ⟨rfl, hb2⟩; rw [HK.out]; have h2 := h1.below hb2; have B2 := B1.below hb2 B1.lt; have k2 := k1.up hb2; obtain ⟨q0, q1, q2, q3⟩ := h2.cells; obtain ⟨⟨b0, b1, b2⟩, -⟩ := B2.box3 (Below.refl _ _)))
        go_region_law ((go_simp; go_at_call 120; refine (hput w2 v h2 k2 B2).mono ?_; rintro r w9 ⟨A9, n9, c9, rfl, ⟨s0, s1⟩, ⟨b0, b1, b2⟩, hres⟩))
        all_goals
          go_wp2_with fail
          refine bodyPost_end (results_none Tryz.results89 _ _ _) rfl ?_
          exact ⟨_, _, _, rfl, by rw [HP.out]; exact hres.1, hres.2⟩
end Go.Proofs.YtmelnaidjgpclaaGreatDoor

namespace Go.Proofs.YtmelnaidjgpclaaGreatDoor
open Go.RowKit

theorem ba_len (s : ByteArray) : s.data.toList.length = s.size := by simp
theorem lit1g (w : World) (g : Nat) (hg : w.heap.size = g) (x : Int) (h : 0 ≤ x ∧ x < 256) : Sl (w.alloc (.cells #[.int .u8 x] 5)) (g + 1) 1 (some ⟨g, 0, none⟩) 1 1 (u8s [UInt8.ofNat x.toNat]) := by subst hg; exact lit1 w x h
theorem numP_len (wd : Bool) (mj n : Int) : (numP wd mj n).length ≤ 9 := headP_len _ _ _ _
theorem Pk.put2 {w w1 : World} {g : Nat} {A A' : Option Addr} {n' c' : Nat} {b' : List UInt8} {v0 : Value} {wd op : Bool} (hb : Blk w g 60 #[v0, .bool wd, .bool op]) (h1 : BS w (g + 1) A' n' c' b') (hw : GP g A A' w1 w) :
    Pk (w.setCell ⟨g, 0, none⟩ (.slice A' n' c')) g A' n' c' b' wd op ∧ GP g A A' w1 (w.setCell ⟨g, 0, none⟩ (.slice A' n' c')) := by
  have hf := (Fr.refl [g] w).setCell (p := ⟨g, 0, none⟩) (by simp) (.slice A' n' c')
  refine ⟨⟨by simpa using hb.set_ 0 (.slice A' n' c'), h1.fr hf fun x hx h2 => ?_⟩, ⟨hw.fr.trans (hf.mono fun x hx => by rw [List.mem_singleton] at hx; subst hx; exact List.mem_cons_self), hw.own⟩⟩
  rw [List.mem_singleton] at h2
  subst h2
  exact Nat.lt_irrefl _ (Nat.lt_of_lt_of_le (Nat.lt_succ_self _) (h1.from_ x hx))
theorem pk_cells {w : World} {g : Nat} {v0 v1 v2 : Value} (h : Blk w g 60 #[v0, v1, v2]) : w.cell? ⟨g, 0, none⟩ = some v0 ∧ w.cell? ⟨g, 1, none⟩ = some v1 ∧ w.cell? ⟨g, 2, none⟩ = some v2 ∧ w.frozen? ⟨g, 0, none⟩ = false := ⟨h.cell 0, h.cell 1, h.cell 2, h.frozen 0⟩
set_option maxHeartbeats 800000 in
theorem i_number (g : Nat) (A : Option Addr) (m c : Nat) (b : List UInt8) (wd op : Bool) (mj n : Int) (w : World) (h : Pk w g A m c b wd op) (hm : m ≤ 137438953472) (hn : n ≤ 9223372036854775807) :
    Calls Tryz.prog 86 #[.pointer (some ⟨g, 0, none⟩), .int .i64 mj, .int .i64 n] w fun r w' => ∃ A' n' c', r = .returned (.tuple #[]) ∧ Pk w' g A' n' c' (b ++ numP wd mj n) wd op ∧ GP g A A' w w' := by
  cases hk : headOk mj n (headWide n)
  · have hF : ∀ w1, Calls Tryz.prog 118 #[.int .i64 mj, .int .i64 n] w1 fun r w' => r = .returned (.agg #[.int .i64 0, .int .i64 0, .int .i64 0]) ∧ Below w1.heap.size w1 w' := fun w1 =>
      (i_HeadFor mj n w1 hn).mono fun r w' ⟨h1, h2⟩ => ⟨by rw [h1, headForV_no rfl hk], h2⟩
    have HP := Lib.hid (show numP wd mj n = [] from by unfold numP headP; rw [hk]; rfl)
    have hne : ((0 : Int) == mj) = false ∨ (((0 : Int) == mj) = true ∧ ((0 : Int) == n) = false) := by
      by_cases h0 : mj = 0
      · right
        refine ⟨by rw [h0]; rfl, ?_⟩
        cases hn0 : ((0 : Int) == n)
        · rfl
        · have hn1 : (0 : Int) = n := eq_of_beq hn0
          exact absurd hk (by rw [h0, ← hn1]; decide)
      · left
        cases hq : ((0 : Int) == mj)
        · rfl
        · exact absurd (eq_of_beq hq).symm h0
    clear hk
    rcases hne with hne | ⟨hne, hne2⟩
    all_goals
      go_enter Tryz.func86, Tryz.ntmps86
      go_wp2_with (go_at_call 118; refine (hF _).mono ?_; rintro r w1 ⟨rfl, hb1⟩)
      refine bodyPost_end (results_none Tryz.results86 _ _ _) rfl ?_
      have hk := hb1.up (Below.one w1 (.cells #[.int .i64 0, .int .i64 0, .int .i64 0] 36))
      exact ⟨_, _, _, rfl, by rw [HP.out, List.append_nil]; exact h.below hk, GP.of_below hk⟩
  · have hF : ∀ w1, Calls Tryz.prog 118 #[.int .i64 mj, .int .i64 n] w1 fun r w' => r = .returned (.agg #[.int .i64 mj, .int .i64 n, .int .i64 (headWide n)]) ∧ Below w1.heap.size w1 w' := fun w1 =>
      (i_HeadFor mj n w1 hn).mono fun r w' ⟨h1, h2⟩ => ⟨by rw [h1, headForV_yes rfl hk], h2⟩
    clear hk
    go_enter Tryz.func86, Tryz.ntmps86
    go_wp2_with (first
      | (go_at_call 118; refine (hF _).mono ?_; rintro r w1 ⟨rfl, hb1⟩; have hk := hb1.up (Below.one w1 (.cells #[.int .i64 mj, .int .i64 n, .int .i64 (headWide n)] 36)))
      | (go_at_call 89; refine (i_head g A m c b wd op mj n _ _ (h.below hk) hm hn).mono ?_; rintro r w2 ⟨A2, n2, c2, rfl, h2, hg2⟩))
    refine bodyPost_end (results_none Tryz.results86 _ _ _) rfl ?_
    exact ⟨_, _, _, rfl, h2, (GP.of_below hk).trans hg2⟩
def textP (wd op : Bool) (mj : Int) (s : ByteArray) : List UInt8 :=
  if op = true then (if s.size = 0 then headP wd mj 0 (-1) ++ [255] else headP wd mj 0 (-1) ++ (numP wd mj s.size ++ s.data.toList) ++ [255]) else numP wd mj s.size ++ s.data.toList
set_option maxHeartbeats 1600000 in
theorem i_text (g : Nat) (A : Option Addr) (m c : Nat) (b : List UInt8) (wd op : Bool) (mj : Int) (s : ByteArray) (w : World) (h : Pk w g A m c b wd op) (hm : m ≤ 68719476736) (hs : s.size ≤ 68719476736) :
    Calls Tryz.prog 87 #[.pointer (some ⟨g, 0, none⟩), .int .i64 mj, .string s] w fun r w' => ∃ A' n' c', r = .returned (.tuple #[]) ∧ Pk w' g A' n' c' (b ++ textP wd op mj s) wd op ∧ GP g A A' w w' := by
  have hlen := h.own.len
  have hl9 := numP_len wd mj s.size
  have hh9 := headP_len wd mj 0 (-1)
  have g0 := GP.refl g A w
  obtain ⟨q0, q1, q2, q3⟩ := h.cells
  cases op
  · have HP := Lib.hid (show textP wd false mj s = numP wd mj s.size ++ s.data.toList from if_neg (by simp))
    go_enter Tryz.func87, Tryz.ntmps87
    go_wp2_with (first
      | (go_at_call 86; refine (i_number g _ _ _ _ _ _ mj (s.size : Nat) _ h (by omega) (by omega)).mono ?_; rintro r w1 ⟨A1, n1, c1, rfl, h1, hg1⟩; have g1 := g0.trans hg1; have l1 := h1.own.len; simp only [List.length_append] at l1; obtain ⟨q0, q1, q2, q3⟩ := h1.cells)
      | (at_builtin; refine app_strg rfl _ _ rfl h1.own rfl rfl (by omega) h1.lt ?_; intro A2 c2 w2 h2 hg2; have B2 := hg2.blk h1.blk h1.notin; have g2 := g1.trans (GP.of_gr hg2); obtain ⟨q0, q1, q2, q3⟩ := pk_cells B2))
    refine bodyPost_ret (results_none Tryz.results87 _ _ _) rfl ?_
    obtain ⟨r1, r2⟩ := Pk.put2 B2 h2 g2
    exact ⟨_, _, _, rfl, by rw [HP.out, ← List.append_assoc]; exact r1, r2⟩
  · by_cases h0 : s.size = 0
    · have HP := Lib.hid (show textP wd true mj s = headP wd mj 0 (-1) ++ [255] from by unfold textP; rw [if_pos rfl, if_pos h0])
      have hs0 : s = ⟨#[]⟩ := by
        apply ByteArray.ext
        exact Array.eq_empty_of_size_eq_zero h0
      subst hs0
      go_enter Tryz.func87, Tryz.ntmps87
      go_wp2_with (first
        | (go_at_call 89; refine (i_head g _ _ _ _ _ _ mj 0 (-1) _ h (by omega) (by omega)).mono ?_; rintro r w1 ⟨A1, n1, c1, rfl, h1, hg1⟩; have g1 := g0.trans hg1; have l1 := h1.own.len; simp only [List.length_append] at l1; obtain ⟨q0, q1, q2, q3⟩ := h1.cells)
        | (at_builtin; refine app_u8g rfl _ _ rfl (h1.own.alloc _) rfl (lit1g _ _ (by first | rfl | exact size_setCell _ _ _) _ (by decide)) rfl (by omega) (Nat.le_trans h1.lt (Below.one _ _).size) ?_; intro A2 c2 w2 h2 hg2; have B2 := hg2.blk (h1.blk.alloc _) h1.notin; have g2 := (g1.trans (GP.of_below (Below.one _ _))).trans (GP.of_gr hg2); obtain ⟨q0, q1, q2, q3⟩ := pk_cells B2))
      refine bodyPost_end (results_none Tryz.results87 _ _ _) rfl ?_
      obtain ⟨r1, r2⟩ := Pk.put2 B2 h2 g2
      exact ⟨_, _, _, rfl, by rw [HP.out, ← List.append_assoc]; exact r1, r2⟩
    · have HP := Lib.hid (show textP wd true mj s = headP wd mj 0 (-1) ++ (numP wd mj s.size ++ s.data.toList) ++ [255] from by unfold textP; rw [if_pos rfl, if_neg h0])
      have hne : s.toList.isEmpty = false := by
        rw [ByteArray.toList_eq]
        cases hx : s.data.toList.isEmpty
        · rfl
        · exact absurd (by rw [← ba_len, List.isEmpty_iff.1 hx]; rfl) h0
      go_enter Tryz.func87, Tryz.ntmps87
      go_wp2_with (first
        | (go_at_call 89; refine (i_head g _ _ _ _ _ _ mj 0 (-1) _ h (by omega) (by omega)).mono ?_; rintro r w1 ⟨A1, n1, c1, rfl, h1, hg1⟩; have g1 := g0.trans hg1; have l1 := h1.own.len; simp only [List.length_append] at l1; obtain ⟨q0, q1, q2, q3⟩ := h1.cells)
        | (go_at_call 86; refine (i_number g _ _ _ _ _ _ mj (s.size : Nat) _ h1 (by omega) (by omega)).mono ?_; rintro r w2 ⟨A2, n2, c2, rfl, h2, hg2⟩; have g2 := g1.trans hg2; have l2 := h2.own.len; simp only [List.length_append] at l2; obtain ⟨q0, q1, q2, q3⟩ := h2.cells)
        | (at_builtin; refine app_strg rfl _ _ rfl h2.own rfl rfl (by omega) h2.lt ?_; intro A3 c3 w3 h3 hg3; have B3 := hg3.blk h2.blk h2.notin; have g3 := g2.trans (GP.of_gr hg3); obtain ⟨q0, q1, q2, q3⟩ := pk_cells B3; have hx := Pk.put2 B3 h3 g3; have h4 := hx.1; have g4 := hx.2; have l4 := h4.own.len; simp only [List.length_append, ba_len] at l4; obtain ⟨q0, q1, q2, q3⟩ := h4.cells)
        | (at_builtin; refine app_u8g rfl _ _ rfl (h4.own.alloc _) rfl (lit1g _ _ (by first | rfl | exact size_setCell _ _ _) _ (by decide)) rfl (by omega) (Nat.le_trans h4.lt (Below.one _ _).size) ?_; intro A5 c5 w5 h5 hg5; have B5 := hg5.blk (h4.blk.alloc _) h4.notin; have g5 := (g4.trans (GP.of_below (Below.one _ _))).trans (GP.of_gr hg5); obtain ⟨q0, q1, q2, q3⟩ := pk_cells B5))
      refine bodyPost_end (results_none Tryz.results87 _ _ _) rfl ?_
      obtain ⟨r1, r2⟩ := Pk.put2 B5 h5 g5
      have r3 : Pk _ g _ _ _ (b ++ headP wd mj 0 (-1) ++ numP wd mj s.size ++ s.data.toList ++ [255]) wd true := r1
      exact ⟨_, _, _, rfl, by rw [HP.out]; simpa only [List.append_assoc] using r3, r2⟩
end Go.Proofs.YtmelnaidjgpclaaGreatDoor

namespace Go.Proofs.YtmelnaidjgpclaaGreatDoor
open Go.RowKit

def elemP (wd op : Bool) (mj n : Int) (kids : List UInt8) : List UInt8 := if op = true ∧ mj ≠ 6 then headP wd mj 0 (-1) ++ kids ++ [255] else numP wd mj n ++ kids
def tightGo (wd op : Bool) (k n x : Int) (s : ByteArray) (m : Nat) (ih : List (List UInt8)) : List UInt8 :=
  if k = 3 then (if inR n (-1000000000000000) 1000000000000000 = true then (if n < 0 then numP wd 1 (-1 - n) else numP wd 0 n) else [])
  else if k = 8 then textP wd op 2 s else if k = 7 then textP wd op 3 s
  else if k = 9 then elemP wd op 4 m ih.flatten else if k = 10 then elemP wd op 5 ((m : Int) / 2) ih.flatten
  else if k = 11 then (if inR n 0 1000000000000000 = true then elemP wd op 6 n ih.flatten else [])
  else if k = 2 then headP wd 7 (if n = 1 then 21 else 20) 0 else if k = 1 then headP wd 7 22 0
  else if k = 5 then (if inR n 0 2 = true then headP wd 7 (32 + n) 1 else []) else if k = 4 then headP wd 7 (fltBits n x) 4 else []
noncomputable def tightT (wd op : Bool) : Tr → List UInt8 := Tr.fold fun k n x s l ih => tightGo wd op k n x s l.length ih
noncomputable def tights (wd op : Bool) (l : List Tr) (j : Nat) : List UInt8 := ((l.take j).map (tightT wd op)).flatten
theorem tightT_eq (wd op : Bool) (t : Tr) : tightT wd op t = tightGo wd op t.k t.n t.x t.s t.l.length (t.l.map (tightT wd op)) := by
  obtain ⟨k, n, x, s, l⟩ := t
  exact Tr.fold_mk _ _ _ _ _ _
theorem tights_zero (wd op : Bool) (l : List Tr) : tights wd op l 0 = [] := rfl
theorem tights_succ {wd op : Bool} {l : List Tr} {j : Nat} (h : j < l.length) : tights wd op l (j + 1) = tights wd op l j ++ tightT wd op l[j] := by
  unfold tights
  rw [List.take_succ_eq_append_getElem h, List.map_append, List.flatten_append]; simp
theorem tights_all {wd op : Bool} {l : List Tr} {j : Nat} (h : l.length ≤ j) : tights wd op l j = (l.map (tightT wd op)).flatten := by unfold tights; rw [List.take_of_length_le h]
theorem flat20 {l : List Tr} (f : Tr → List UInt8) (h : ∀ u ∈ l, (f u).length ≤ 20 + 20 * u.sz) : ((l.map f).flatten).length ≤ 20 * szL l := by
  unfold szL
  induction l with
  | nil => simp
  | cons t l ih =>
    have h1 := h t List.mem_cons_self
    have h2 := ih fun u hu => h u (List.mem_cons_of_mem _ hu)
    simp only [List.map_cons, List.flatten_cons, List.length_append, List.length_cons, List.sum_cons]
    omega
theorem textP_len (wd op : Bool) (mj : Int) (s : ByteArray) : (textP wd op mj s).length ≤ 19 + s.size := by
  unfold textP
  have h1 := headP_len wd mj 0 (-1)
  have h2 := numP_len wd mj s.size
  have h3 := ba_len s
  (repeat' split) <;> simp only [List.length_append, List.length_singleton] <;> omega
theorem elemP_len (wd op : Bool) (mj n : Int) (k : List UInt8) : (elemP wd op mj n k).length ≤ 10 + k.length := by
  unfold elemP
  have h1 := headP_len wd mj 0 (-1)
  have h2 := numP_len wd mj n
  (repeat' split) <;> simp only [List.length_append, List.length_singleton] <;> omega
theorem tightT_len (wd op : Bool) (t : Tr) : (tightT wd op t).length ≤ 20 + 20 * t.sz := by
  refine Tr.ind (P := fun t => (tightT wd op t).length ≤ 20 + 20 * t.sz) (fun t ih => ?_) t
  rw [tightT_eq, t.sz_eq]
  have h1 := flat20 (tightT wd op) ih
  have h2 := fun mj n => elemP_len wd op mj n (t.l.map (tightT wd op)).flatten
  have h3 := fun mj => textP_len wd op mj t.s
  have h4 := fun mj n => numP_len wd mj n
  have h5 := fun mj n v => headP_len wd mj n v
  unfold tightGo
  (repeat' split) <;> first | (simp; done) | exact Nat.le_trans (h4 _ _) (by omega) | exact Nat.le_trans (h5 _ _ _) (by omega) | exact Nat.le_trans (h3 _) (by omega) | exact Nat.le_trans (h2 _ _) (by omega)
theorem szL_take2 (l : List Tr) (j : Nat) (h : j ≤ l.length) : szL (l.take j) = j + szT l j := by
  unfold szL szT; rw [List.length_take, Nat.min_eq_left h]
theorem tights_len (wd op : Bool) (l : List Tr) (j : Nat) : (tights wd op l j).length ≤ 20 * szL (l.take j) := flat20 _ fun u _ => tightT_len wd op u
theorem box5 {w : World} {g : Nat} {T : TypeId} {a b c d e : Value} (h : Blk w g T #[a, b, c, d, e]) :
    w.cell? ⟨g, 0, none⟩ = some a ∧ w.cell? ⟨g, 1, none⟩ = some b ∧ w.cell? ⟨g, 2, none⟩ = some c ∧ w.cell? ⟨g, 3, none⟩ = some d ∧ w.cell? ⟨g, 4, none⟩ = some e := ⟨h.cell 0, h.cell 1, h.cell 2, h.cell 3, h.cell 4⟩
def VSays (t : Tr) : Prop := ∀ (g : Nat) (A : Option Addr) (m c : Nat) (b : List UInt8) (wd op : Bool) (e : El) (w : World), t.wf → Pk w g A m c b wd op → LsAt w t.l e → e.lt g → m + 20 + 20 * t.sz ≤ 34359738368 →
  Calls Tryz.prog 50 #[.pointer (some ⟨g, 0, none⟩), trV t e] w fun r w' => ∃ A' n' c', r = .returned (.tuple #[]) ∧ Pk w' g A' n' c' (b ++ tightT wd op t) wd op ∧ GP g A A' w w'
set_option maxHeartbeats 1600000 in
theorem i_elements (l : List Tr) (ih : ∀ u ∈ l, VSays u) (hwf : ∀ u ∈ l, u.wf) (g : Nat) (A : Option Addr) (m c : Nat) (b : List UInt8) (wd op : Bool) (mj n : Int) (e : El) (w : World) (h : Pk w g A m c b wd op) (hl : LsAt w l e) (hel : e.lt g) (hn : n ≤ 9223372036854775807) (hm : m + 20 + 20 * szL l ≤ 34359738368) :
    Calls Tryz.prog 88 #[.pointer (some ⟨g, 0, none⟩), .int .i64 mj, .int .i64 n, .slice e.A e.n e.c] w fun r w' => ∃ A' n' c', r = .returned (.tuple #[]) ∧ Pk w' g A' n' c' (b ++ elemP wd op mj n (l.map (tightT wd op)).flatten) wd op ∧ GP g A A' w w' := by
  obtain ⟨eA, en, ec, efp⟩ := e
  have hen : l.length = en := hl.len
  have hlen := h.own.len
  have hl9 := numP_len wd mj n
  have hh9 := headP_len wd mj 0 (-1)
  have hec : en ≤ ec ∧ ec ≤ maxLen := ⟨((lsAt_iff _ _).1 hl).2.1, ((lsAt_iff _ _).1 hl).2.2.1⟩
  have hsz := szT_le l 0
  have g0 := GP.refl g A w
  obtain ⟨q0, q1, q2, q3⟩ := h.cells
  by_cases hop : op = true ∧ mj ≠ 6
  · have HP := Lib.hid (show elemP wd op mj n (l.map (tightT wd op)).flatten = headP wd mj 0 (-1) ++ (l.map (tightT wd op)).flatten ++ [255] from if_pos hop)
    obtain ⟨rfl, h6⟩ := hop
    have h6 : (mj != 6) = true := by simpa using h6
    go_enter Tryz.func88, Tryz.ntmps88
    go_wp2_with (go_at_call 89; refine (i_head g _ _ _ _ _ _ mj 0 (-1) _ h (by omega) (by omega)).mono ?_; rintro r w1 ⟨A1, n1, c1, rfl, h1, hg1⟩; have g1 := g0.trans hg1; have l1 := h1.own.len; simp only [List.length_append] at l1; obtain ⟨q0, q1, q2, q3⟩ := h1.cells)
    have hl0 := GP.below g1 h
    go_loopg [30] en (fun f y wr => ∃ (j n' c' : Nat) (A' : Option Addr), j + f = en ∧ y = .int .i64 j ∧ Pk wr g A' n' c' (b ++ headP wd mj 0 (-1) ++ tights wd true l j) wd true ∧ GP g A A' w wr)
    case atStart => exact ⟨0, _, _, A1, by omega, rfl, by rw [tights_zero, List.append_nil]; exact h1, g1⟩
    case round =>
      obtain ⟨j, n', c', A', hjf, rfl, hP, hG⟩ := hrel
      by_cases hlt : j < en
      · obtain ⟨f, rfl⟩ : ∃ f, gk = f + 1 := ⟨gk - 1, by omega⟩
        have hkr : Below g w wr := hG.below h
        obtain ⟨g2, o, u, hj, hAe, hgm, ⟨c0, c1, c2, c3, c4⟩, hch, hsub⟩ := (hl.below hel hkr).elem hlt
        have hAe : eA = some ⟨g2, o, none⟩ := hAe
        subst hAe
        have hul : u.lt g := fun x hx => hel x (hsub x hx)
        have hnl := hP.own.len
        simp only [List.length_append] at hnl
        have hpl := tights_len wd true l j
        rw [szL_take2 l j (by omega)] at hpl
        have hz1 := szT_succ hj
        have hz2 := szT_le l (j + 1)
        have hih := fun (o : Obj) => ih l[j] (List.getElem_mem hj) g A' n' c' _ wd true u (wr.alloc o) (hwf _ (List.getElem_mem hj)) (hP.alloc o) (hch.below hul ((Below.one wr o).mono (Nat.le_of_lt hP.lt))) hul (by omega)
        clear ih hwf hch q0 q1 q2 q3 hP
        go_wp2_with (go_at_call 50; refine (hih _).mono ?_; rintro r w5 ⟨A5, n5, c5, rfl, h5, hg5⟩)
        clear hih
        go_roundg f
        case measure => omega
        case rel => exact ⟨j + 1, n5, c5, A5, by omega, by go_num, by rw [tights_succ hj, ← List.append_assoc]; exact h5, (hG.trans (GP.of_below (Below.one wr _))).trans hg5⟩
      · obtain rfl : j = en := by omega
        clear q0 q1 q2 q3
        obtain ⟨q0, q1, q2, q3⟩ := hP.cells
        have lP := hP.own.len
        simp only [List.length_append] at lP
        have hpl := tights_len wd true l j
        rw [szL_take2 l j (by omega)] at hpl
        have hz2 := szT_le l j
        go_wp2_with (at_builtin; refine app_u8g rfl _ _ rfl (hP.own.alloc _) rfl (lit1g _ _ (by first | rfl | exact size_setCell _ _ _) _ (by decide)) rfl (by omega) (Nat.le_trans hP.lt (Below.one _ _).size) ?_; intro A9 c9 w9 h9 hg9; have B9 := hg9.blk (hP.blk.alloc _) hP.notin; have g9 := (hG.trans (GP.of_below (Below.one _ _))).trans (GP.of_gr hg9); obtain ⟨q0, q1, q2, q3⟩ := pk_cells B9)
        refine bodyPost_end (results_none Tryz.results88 _ _ _) rfl ?_
        obtain ⟨r1, r2⟩ := Pk.put2 B9 h9 g9
        have r3 : Pk _ g _ _ _ (b ++ headP wd mj 0 (-1) ++ tights wd true l j ++ [255]) wd true := r1
        exact ⟨_, _, _, rfl, by rw [HP.out, ← tights_all (l := l) (j := j) (by omega)]; simpa only [List.append_assoc] using r3, r2⟩
  · have HP := Lib.hid (show elemP wd op mj n (l.map (tightT wd op)).flatten = numP wd mj n ++ (l.map (tightT wd op)).flatten from if_neg hop)
    have hop2 : op = false ∨ (op = true ∧ (mj != 6) = false) := by
      cases op
      · exact .inl rfl
      · right
        refine ⟨rfl, ?_⟩
        cases hq : (mj != 6)
        · rfl
        · exact absurd ⟨rfl, by simpa using hq⟩ hop
    clear hop
    rcases hop2 with hop2 | ⟨hop2, h6⟩
    all_goals
      go_enter Tryz.func88, Tryz.ntmps88
      go_wp2_with (go_at_call 86; refine (i_number g _ _ _ _ _ _ mj n _ h (by omega) (by omega)).mono ?_; rintro r w1 ⟨A1, n1, c1, rfl, h1, hg1⟩; have g1 := g0.trans hg1; have l1 := h1.own.len; simp only [List.length_append] at l1; obtain ⟨q0, q1, q2, q3⟩ := h1.cells)
      have hl0 := GP.below g1 h
      go_loopg [30] en (fun f y wr => ∃ (j n' c' : Nat) (A' : Option Addr), j + f = en ∧ y = .int .i64 j ∧ Pk wr g A' n' c' (b ++ numP wd mj n ++ tights wd op l j) wd op ∧ GP g A A' w wr)
      case atStart => exact ⟨0, _, _, A1, by omega, rfl, by rw [tights_zero, List.append_nil]; exact h1, g1⟩
      case round =>
        obtain ⟨j, n', c', A', hjf, rfl, hP, hG⟩ := hrel
        by_cases hlt : j < en
        · obtain ⟨f, rfl⟩ : ∃ f, gk = f + 1 := ⟨gk - 1, by omega⟩
          have hkr : Below g w wr := hG.below h
          obtain ⟨g2, o, u, hj, hAe, hgm, ⟨c0, c1, c2, c3, c4⟩, hch, hsub⟩ := (hl.below hel hkr).elem hlt
          have hAe : eA = some ⟨g2, o, none⟩ := hAe
          subst hAe
          have hul : u.lt g := fun x hx => hel x (hsub x hx)
          have hnl := hP.own.len
          simp only [List.length_append] at hnl
          have hpl := tights_len wd op l j
          rw [szL_take2 l j (by omega)] at hpl
          have hz1 := szT_succ hj
          have hz2 := szT_le l (j + 1)
          have hih := fun (o : Obj) => ih l[j] (List.getElem_mem hj) g A' n' c' _ wd op u (wr.alloc o) (hwf _ (List.getElem_mem hj)) (hP.alloc o) (hch.below hul ((Below.one wr o).mono (Nat.le_of_lt hP.lt))) hul (by omega)
          clear ih hwf hch q0 q1 q2 q3 hP
          go_wp2_with (go_at_call 50; refine (hih _).mono ?_; rintro r w5 ⟨A5, n5, c5, rfl, h5, hg5⟩)
          clear hih
          go_roundg f
          case measure => omega
          case rel => exact ⟨j + 1, n5, c5, A5, by omega, by go_num, by rw [tights_succ hj, ← List.append_assoc]; exact h5, (hG.trans (GP.of_below (Below.one wr _))).trans hg5⟩
        · obtain rfl : j = en := by omega
          clear q0 q1 q2 q3
          obtain ⟨q0, q1, q2, q3⟩ := hP.cells
          have lP := hP.own.len
          simp only [List.length_append] at lP
          have hpl := tights_len wd op l j
          rw [szL_take2 l j (by omega)] at hpl
          have hz2 := szT_le l j
          go_wp2_with fail
          refine bodyPost_end (results_none Tryz.results88 _ _ _) rfl ?_
          exact ⟨_, _, _, rfl, by rw [HP.out, ← tights_all (l := l) (j := j) (by omega), ← List.append_assoc]; exact hP, hG⟩

theorem i_flag (b : Bool) (w : World) : Calls Tryz.prog 90 #[.bool b] w fun e w' => e = .returned (.int .i64 (if b = true then 1 else 0)) ∧ w = w' := by
  cases b
  all_goals
    go_enter Tryz.func90, Tryz.ntmps90
    go_wp2_with fail
    go_ret
    exact ⟨rfl, rfl⟩
set_option maxHeartbeats 1600000 in
theorem i_value (t : Tr) : VSays t := by
  refine Tr.ind (P := VSays) (fun t ih => ?_) t
  intro g A m c b wd op e w hwf h hl hel hm
  have hw := (Tr.wf_iff t).1 hwf
  have hq := tightT_eq wd op t
  have hsz := t.sz_eq
  obtain ⟨k, n, x, s, l⟩ := t
  obtain ⟨eA, en, ec, efp⟩ := e
  simp only at hw hq hsz ih hl
  have hen : l.length = en := hl.len
  have hss : s.size ≤ 34359738368 := by omega
  have hszl := szT_le l 0
  have hww := hw.2.2.2.2
  have hn9 := hw.2.1
  have hx9 := hw.2.2.1
  have h0 := h.alloc (.cells #[.int .i64 k, .int .i64 n, .int .i64 x, .string s, .slice eA en ec] 28)
  have k0 : GP g A A w (w.alloc (.cells #[.int .i64 k, .int .i64 n, .int .i64 x, .string s, .slice eA en ec] 28)) := GP.of_below (Below.one w _)
  have hl0 := hl.below hel ((Below.one w (.cells #[.int .i64 k, .int .i64 n, .int .i64 x, .string s, .slice eA en ec] 28)).mono (Nat.le_of_lt h.lt))
  have hcut : True := trivial
  rw [hq]
  clear hw hq hwf
  by_cases h3 : k = 3
  · subst h3
    by_cases hr : -1000000000000000 ≤ n ∧ n ≤ 1000000000000000
    · have hb := inR_yes hr.1 hr.2
      by_cases hn : n < 0
      · have HP := Lib.hid (show tightGo wd op 3 n x s l.length (l.map (tightT wd op)) = numP wd 1 (-1 - n) from by unfold tightGo; rw [if_pos rfl, if_pos hb, if_pos hn])
        clear hcut
        go_enter Tryz.func50, Tryz.ntmps50
        go_wp2_with (first | (go_at_call 85; refine (i_within _ _ _ _).mono ?_; rintro e w' ⟨rfl, rfl⟩) | (go_at_call 86; refine (i_number g _ _ _ _ _ _ 1 (-1 - n) _ h0 (by omega) (by omega)).mono ?_; rintro r w1 ⟨A1, n1, c1, rfl, h1, hg1⟩))
        refine bodyPost_end (results_none Tryz.results50 _ _ _) rfl ?_
        exact ⟨_, _, _, rfl, by rw [HP.out]; exact h1, k0.trans hg1⟩
      · have HP := Lib.hid (show tightGo wd op 3 n x s l.length (l.map (tightT wd op)) = numP wd 0 n from by unfold tightGo; rw [if_pos rfl, if_pos hb, if_neg hn])
        clear hcut
        go_enter Tryz.func50, Tryz.ntmps50
        go_wp2_with (first | (go_at_call 85; refine (i_within _ _ _ _).mono ?_; rintro e w' ⟨rfl, rfl⟩) | (go_at_call 86; refine (i_number g _ _ _ _ _ _ 0 n _ h0 (by omega) (by omega)).mono ?_; rintro r w1 ⟨A1, n1, c1, rfl, h1, hg1⟩))
        refine bodyPost_end (results_none Tryz.results50 _ _ _) rfl ?_
        exact ⟨_, _, _, rfl, by rw [HP.out]; exact h1, k0.trans hg1⟩
    · have hb : inR n (-1000000000000000) 1000000000000000 = false := inR_no (by omega)
      have HP := Lib.hid (show tightGo wd op 3 n x s l.length (l.map (tightT wd op)) = [] from by unfold tightGo; rw [if_pos rfl, if_neg (by rw [hb]; decide)])
      clear hcut
      go_enter Tryz.func50, Tryz.ntmps50
      go_wp2_with (go_at_call 85; refine (i_within _ _ _ _).mono ?_; rintro e w' ⟨rfl, rfl⟩)
      first | refine bodyPost_end (results_none Tryz.results50 _ _ _) rfl ?_ | refine bodyPost_ret (results_none Tryz.results50 _ _ _) rfl ?_
      exact ⟨_, _, _, rfl, by rw [HP.out, List.append_nil]; exact h0, k0⟩
  by_cases h8 : k = 8
  · subst h8
    have HP := Lib.hid (show tightGo wd op 8 n x s l.length (l.map (tightT wd op)) = textP wd op 2 s from rfl)
    clear hcut
    go_enter Tryz.func50, Tryz.ntmps50
    go_wp2_with (first | (go_at_call 85; refine (i_within _ _ _ _).mono ?_; rintro e w' ⟨rfl, rfl⟩) | (go_at_call 87; refine (i_text g _ _ _ _ _ _ 2 s _ h0 (by omega) (by omega)).mono ?_; rintro r w1 ⟨A1, n1, c1, rfl, h1, hg1⟩))
    refine bodyPost_end (results_none Tryz.results50 _ _ _) rfl ?_
    exact ⟨_, _, _, rfl, by rw [HP.out]; exact h1, k0.trans hg1⟩
  by_cases h7 : k = 7
  · subst h7
    have HP := Lib.hid (show tightGo wd op 7 n x s l.length (l.map (tightT wd op)) = textP wd op 3 s from rfl)
    clear hcut
    go_enter Tryz.func50, Tryz.ntmps50
    go_wp2_with (first | (go_at_call 85; refine (i_within _ _ _ _).mono ?_; rintro e w' ⟨rfl, rfl⟩) | (go_at_call 87; refine (i_text g _ _ _ _ _ _ 3 s _ h0 (by omega) (by omega)).mono ?_; rintro r w1 ⟨A1, n1, c1, rfl, h1, hg1⟩))
    refine bodyPost_end (results_none Tryz.results50 _ _ _) rfl ?_
    exact ⟨_, _, _, rfl, by rw [HP.out]; exact h1, k0.trans hg1⟩
  by_cases h9 : k = 9
  · subst h9
    have HP := Lib.hid (show tightGo wd op 9 n x s l.length (l.map (tightT wd op)) = elemP wd op 4 (en : Int) (l.map (tightT wd op)).flatten from by rw [← hen]; rfl)
    clear hcut
    go_enter Tryz.func50, Tryz.ntmps50
    go_wp2_with (first | (go_at_call 85; refine (i_within _ _ _ _).mono ?_; rintro e w' ⟨rfl, rfl⟩) | (go_at_call 88; refine (i_elements l ih hww g _ _ _ _ _ _ 4 (en : Int) ⟨eA, en, ec, efp⟩ _ h0 hl0 hel (by omega) (by omega)).mono ?_; rintro r w1 ⟨A1, n1, c1, rfl, h1, hg1⟩))
    refine bodyPost_end (results_none Tryz.results50 _ _ _) rfl ?_
    exact ⟨_, _, _, rfl, by rw [HP.out]; exact h1, k0.trans hg1⟩
  by_cases h10 : k = 10
  · subst h10
    have HP := Lib.hid (show tightGo wd op 10 n x s l.length (l.map (tightT wd op)) = elemP wd op 5 ((en : Int) / 2) (l.map (tightT wd op)).flatten from by rw [← hen]; rfl)
    clear hcut
    go_enter Tryz.func50, Tryz.ntmps50
    go_wp2_with (first | (go_at_call 85; refine (i_within _ _ _ _).mono ?_; rintro e w' ⟨rfl, rfl⟩) | (go_at_call 88; refine (i_elements l ih hww g _ _ _ _ _ _ 5 ((en : Int) / 2) ⟨eA, en, ec, efp⟩ _ h0 hl0 hel (by omega) (by omega)).mono ?_; rintro r w1 ⟨A1, n1, c1, rfl, h1, hg1⟩))
    refine bodyPost_end (results_none Tryz.results50 _ _ _) rfl ?_
    exact ⟨_, _, _, rfl, by rw [HP.out]; exact h1, k0.trans hg1⟩
  by_cases h11 : k = 11
  · subst h11
    by_cases hr : 0 ≤ n ∧ n ≤ 1000000000000000
    · have hb := inR_yes hr.1 hr.2
      have HP := Lib.hid (show tightGo wd op 11 n x s l.length (l.map (tightT wd op)) = elemP wd op 6 n (l.map (tightT wd op)).flatten from by rw [show tightGo wd op 11 n x s l.length (l.map (tightT wd op)) = (if inR n 0 1000000000000000 = true then elemP wd op 6 n (l.map (tightT wd op)).flatten else []) from rfl, if_pos hb])
      clear hcut
      go_enter Tryz.func50, Tryz.ntmps50
      go_wp2_with (first | (go_at_call 85; refine (i_within _ _ _ _).mono ?_; rintro e w' ⟨rfl, rfl⟩) | (go_at_call 88; refine (i_elements l ih hww g _ _ _ _ _ _ 6 n ⟨eA, en, ec, efp⟩ _ h0 hl0 hel (by omega) (by omega)).mono ?_; rintro r w1 ⟨A1, n1, c1, rfl, h1, hg1⟩))
      refine bodyPost_end (results_none Tryz.results50 _ _ _) rfl ?_
      exact ⟨_, _, _, rfl, by rw [HP.out]; exact h1, k0.trans hg1⟩
    · have hb : inR n 0 1000000000000000 = false := inR_no (by omega)
      have HP := Lib.hid (show tightGo wd op 11 n x s l.length (l.map (tightT wd op)) = [] from by rw [show tightGo wd op 11 n x s l.length (l.map (tightT wd op)) = (if inR n 0 1000000000000000 = true then elemP wd op 6 n (l.map (tightT wd op)).flatten else []) from rfl, if_neg (by rw [hb]; decide)])
      clear hcut
      go_enter Tryz.func50, Tryz.ntmps50
      go_wp2_with (go_at_call 85; refine (i_within _ _ _ _).mono ?_; rintro e w' ⟨rfl, rfl⟩)
      first | refine bodyPost_end (results_none Tryz.results50 _ _ _) rfl ?_ | refine bodyPost_ret (results_none Tryz.results50 _ _ _) rfl ?_
      exact ⟨_, _, _, rfl, by rw [HP.out, List.append_nil]; exact h0, k0⟩
  by_cases h2 : k = 2
  · subst h2
    by_cases hn : n = 1
    · subst hn
      have HP := Lib.hid (show tightGo wd op 2 1 x s l.length (l.map (tightT wd op)) = headP wd 7 21 0 from rfl)
      clear hcut
      go_enter Tryz.func50, Tryz.ntmps50
      go_wp2_with (first | (go_at_call 85; refine (i_within _ _ _ _).mono ?_; rintro e w' ⟨rfl, rfl⟩) | (go_at_call 90; refine (i_flag _ _).mono ?_; rintro r w' ⟨rfl, rfl⟩) | (go_at_call 89; refine (i_head g _ _ _ _ _ _ 7 21 0 _ h0 (by omega) (by omega)).mono ?_; rintro r w1 ⟨A1, n1, c1, rfl, h1, hg1⟩))
      refine bodyPost_end (results_none Tryz.results50 _ _ _) rfl ?_
      exact ⟨_, _, _, rfl, by rw [HP.out]; exact h1, k0.trans hg1⟩
    · have hb : (n == 1) = false := by simpa using hn
      have HP := Lib.hid (show tightGo wd op 2 n x s l.length (l.map (tightT wd op)) = headP wd 7 20 0 from by rw [show tightGo wd op 2 n x s l.length (l.map (tightT wd op)) = headP wd 7 (if n = 1 then 21 else 20) 0 from rfl, if_neg hn])
      clear hcut
      go_enter Tryz.func50, Tryz.ntmps50
      go_wp2_with (first | (go_at_call 85; refine (i_within _ _ _ _).mono ?_; rintro e w' ⟨rfl, rfl⟩) | (go_at_call 90; refine (i_flag _ _).mono ?_; rintro r w' ⟨rfl, rfl⟩) | (go_at_call 89; refine (i_head g _ _ _ _ _ _ 7 20 0 _ h0 (by omega) (by omega)).mono ?_; rintro r w1 ⟨A1, n1, c1, rfl, h1, hg1⟩))
      refine bodyPost_end (results_none Tryz.results50 _ _ _) rfl ?_
      exact ⟨_, _, _, rfl, by rw [HP.out]; exact h1, k0.trans hg1⟩
  by_cases h1 : k = 1
  · subst h1
    have HP := Lib.hid (show tightGo wd op 1 n x s l.length (l.map (tightT wd op)) = headP wd 7 22 0 from rfl)
    clear hcut
    go_enter Tryz.func50, Tryz.ntmps50
    go_wp2_with (first | (go_at_call 85; refine (i_within _ _ _ _).mono ?_; rintro e w' ⟨rfl, rfl⟩) | (go_at_call 89; refine (i_head g _ _ _ _ _ _ 7 22 0 _ h0 (by omega) (by omega)).mono ?_; rintro r w1 ⟨A1, n1, c1, rfl, h1, hg1⟩))
    refine bodyPost_end (results_none Tryz.results50 _ _ _) rfl ?_
    exact ⟨_, _, _, rfl, by rw [HP.out]; exact h1, k0.trans hg1⟩
  by_cases h5 : k = 5
  · subst h5
    by_cases hr : 0 ≤ n ∧ n ≤ 2
    · have hb := inR_yes hr.1 hr.2
      have HP := Lib.hid (show tightGo wd op 5 n x s l.length (l.map (tightT wd op)) = headP wd 7 (32 + n) 1 from by rw [show tightGo wd op 5 n x s l.length (l.map (tightT wd op)) = (if inR n 0 2 = true then headP wd 7 (32 + n) 1 else []) from rfl, if_pos hb])
      clear hcut
      go_enter Tryz.func50, Tryz.ntmps50
      go_wp2_with (first | (go_at_call 85; refine (i_within _ _ _ _).mono ?_; rintro e w' ⟨rfl, rfl⟩) | (go_at_call 89; refine (i_head g _ _ _ _ _ _ 7 (32 + n) 1 _ h0 (by omega) (by omega)).mono ?_; rintro r w1 ⟨A1, n1, c1, rfl, h1, hg1⟩))
      refine bodyPost_end (results_none Tryz.results50 _ _ _) rfl ?_
      exact ⟨_, _, _, rfl, by rw [HP.out]; exact h1, k0.trans hg1⟩
    · have hb : inR n 0 2 = false := inR_no (by omega)
      have HP := Lib.hid (show tightGo wd op 5 n x s l.length (l.map (tightT wd op)) = [] from by rw [show tightGo wd op 5 n x s l.length (l.map (tightT wd op)) = (if inR n 0 2 = true then headP wd 7 (32 + n) 1 else []) from rfl, if_neg (by rw [hb]; decide)])
      clear hcut
      go_enter Tryz.func50, Tryz.ntmps50
      go_wp2_with (go_at_call 85; refine (i_within _ _ _ _).mono ?_; rintro e w' ⟨rfl, rfl⟩)
      first | refine bodyPost_end (results_none Tryz.results50 _ _ _) rfl ?_ | refine bodyPost_ret (results_none Tryz.results50 _ _ _) rfl ?_
      exact ⟨_, _, _, rfl, by rw [HP.out, List.append_nil]; exact h0, k0⟩
  by_cases h4 : k = 4
  · subst h4
    have hfb : fltBits n x ≤ 9223372036854775807 := by
      unfold fltBits
      split
      · rename_i h
        have := fltOk_bounds h
        split <;> omega
      · omega
    have HP := Lib.hid (show tightGo wd op 4 n x s l.length (l.map (tightT wd op)) = headP wd 7 (fltBits n x) 4 from rfl)
    clear hcut
    go_enter Tryz.func50, Tryz.ntmps50
    go_wp2_with (first | (go_at_call 85; refine (i_within _ _ _ _).mono ?_; rintro e w' ⟨rfl, rfl⟩) | (go_at_call 91; refine (i_FltBits _ _ _ hx9.2).mono ?_; rintro r wf ⟨rfl, hbf⟩; replace h0 := h0.below hbf; replace k0 := k0.trans (GP.of_below hbf)) | (go_at_call 89; refine (i_head g _ _ _ _ _ _ 7 (fltBits n x) 4 _ h0 (by omega) (by omega)).mono ?_; rintro r w1 ⟨A1, n1, c1, rfl, h1, hg1⟩))
    refine bodyPost_end (results_none Tryz.results50 _ _ _) rfl ?_
    exact ⟨_, _, _, rfl, by rw [HP.out]; exact h1, k0.trans hg1⟩
  have HP := Lib.hid (show tightGo wd op k n x s l.length (l.map (tightT wd op)) = [] from by unfold tightGo; rw [if_neg h3, if_neg h8, if_neg h7, if_neg h9, if_neg h10, if_neg h11, if_neg h2, if_neg h1, if_neg h5, if_neg h4])
  have f3 : (k == 3) = false := by simpa using h3
  have f8 : (k == 8) = false := by simpa using h8
  have f7 : (k == 7) = false := by simpa using h7
  have f9 : (k == 9) = false := by simpa using h9
  have f10 : (k == 10) = false := by simpa using h10
  have f11 : (k == 11) = false := by simpa using h11
  have f2 : (k == 2) = false := by simpa using h2
  have f1 : (k == 1) = false := by simpa using h1
  have f5 : (k == 5) = false := by simpa using h5
  have f4 : (k == 4) = false := by simpa using h4
  clear h3 h8 h7 h9 h10 h11 h2 h1 h5 h4
  go_enter Tryz.func50, Tryz.ntmps50
  go_wp2_with fail
  refine bodyPost_end (results_none Tryz.results50 _ _ _) rfl ?_
  exact ⟨_, _, _, rfl, by rw [HP.out, List.append_nil]; exact h0, k0⟩
theorem i_PackTight (t : Tr) (e : El) (w : World) (hwf : t.wf) (hl : LsAt w t.l e) (hel : e.lt w.heap.size) (hm : t.sz ≤ 1048576) :
    Calls Tryz.prog 24 #[trV t e] w fun r w' => ∃ A' n' c', r = .returned (.slice A' n' c') ∧ BS w' w.heap.size A' n' c' (tightT false false t) ∧ Below w.heap.size w w' := by
  have hk := Below.two w (.cells (valCells t e) 28) (.cells #[.slice none 0 0, .bool false, .bool false] 60)
  have hP : Pk ((w.alloc (.cells (valCells t e) 28)).alloc (.cells #[.slice none 0 0, .bool false, .bool false] 60)) (w.heap.size + 1) none 0 0 [] false false :=
    ⟨by simpa using Blk.new (w.alloc (.cells (valCells t e) 28)) 60 #[.slice none 0 0, .bool false, .bool false], BS.nil_ _ _⟩
  have hV := i_value t (w.heap.size + 1) none 0 0 [] false false e _ hwf hP (hl.below hel hk) (hel.mono (Nat.le_succ _)) (by omega)
  go_enter Tryz.func24, Tryz.ntmps24
  go_wp2_with (go_at_call 50; refine hV.mono ?_; rintro r w1 ⟨A1, n1, c1, rfl, h1, hg1⟩; obtain ⟨q0, q1, q2, q3⟩ := h1.cells)
  go_ret
  exact ⟨_, _, _, rfl, h1.own.mono (by omega), hk.trans ((hg1.below hP).mono (Nat.le_succ _))⟩
end Go.Proofs.YtmelnaidjgpclaaGreatDoor

namespace Go.Proofs.YtmelnaidjgpclaaGreatDoor
open Go.RowKit

theorem headP_false (mj n v : Int) : headP false mj n v = headB mj n v := by
  unfold headP
  cases h : headOk mj n v
  · rw [headB_no h]; rfl
  · rw [if_pos rfl, if_neg (by simp)]
theorem headOk_for {mj n : Int} (h : 0 ≤ mj ∧ mj ≤ 7) (hn : 0 ≤ n ∧ n ≤ 1000000000000000) : headOk mj n (headWide n) = true := by
  unfold headOk headWide widthFor
  rw [decide_eq_true_eq]
  (repeat' split) <;> omega
theorem nilSl (w : World) (g : Nat) : Sl w 0 1 (some ⟨g, 0, none⟩) 0 0 (u8s []) := ⟨rfl, Nat.le_refl _, by decide, fun h => absurd h (Nat.lt_irrefl 0)⟩
theorem s_HeadFor2 {mj n : Int} (h : 0 ≤ mj ∧ mj ≤ 7) (hn : 0 ≤ n ∧ n ≤ 1000000000000000) (w : World) :
    Calls Tryz.prog 41 #[.int .i64 mj, .int .i64 n] w fun r w' => r = .returned (.agg #[.int .i64 mj, .int .i64 n, .int .i64 (headWide n)]) ∧ Below w.heap.size w w' :=
  (s_HeadFor mj n w).mono fun r w' ⟨h1, h2⟩ => ⟨by rw [h1, headForV_yes rfl (headOk_for h hn)], h2⟩
theorem s_PutHead2 {A : Option Addr} {m c : Nat} {b : List UInt8} {mj n v : Int} {w : World} {B : Nat} (h : Sl w B 1 A m c (u8s b)) (hB : B ≤ w.heap.size) (hm : m ≤ 137438953472) (hn : n ≤ 9223372036854775807) :
    Calls Tryz.prog 39 #[.slice A m c, .agg #[.int .i64 mj, .int .i64 n, .int .i64 v]] w fun r w' => ∃ A' n' c', r = .returned (.slice A' n' c') ∧ BS w' w.heap.size A' n' c' (b ++ headP false mj n v) ∧ Below w.heap.size w w' := by
  rw [headP_false]
  exact s_PutHead A m c b mj n v w B h hB (by omega) hn
def TsSays (t : Tr) : Prop := ∀ (e : El) (w : World), t.wf → LsAt w t.l e → e.lt w.heap.size → t.sz ≤ 1048576 →
  Calls Tryz.prog 21 #[trV t e] w fun r w' => ∃ A' n' c', r = .returned (.slice A' n' c') ∧ BS w' w.heap.size A' n' c' (tightT false false t) ∧ Below w.heap.size w w'
set_option maxHeartbeats 1600000 in
theorem s_l13All (l : List Tr) (ih : ∀ u ∈ l, TsSays u) (hwf : ∀ u ∈ l, u.wf) (A : Option Addr) (m c : Nat) (b : List UInt8) (e : El) (lo : Nat) (w : World) (h : BS w lo A m c b) (hlo : lo ≤ w.heap.size) (hl : LsAt w l e) (hel : e.lt lo) (hsz : szL l ≤ 1048576) (hm : m ≤ 17179869184) :
    Calls Tryz.prog 43 #[.slice A m c, .slice e.A e.n e.c] w fun r w' => ∃ A' n' c', r = .returned (.slice A' n' c') ∧ BS w' lo A' n' c' (b ++ (l.map (tightT false false)).flatten) ∧ Below lo w w' := by
  obtain ⟨eA, en, ec, efp⟩ := e
  have hen : l.length = en := hl.len
  have hlen := h.len
  have hec : en ≤ ec ∧ ec ≤ maxLen := ⟨((lsAt_iff _ _).1 hl).2.1, ((lsAt_iff _ _).1 hl).2.2.1⟩
  have hsz0 := szT_le l 0
  go_enter Tryz.func43, Tryz.ntmps43
  go_wp2_with fail
  go_loopg [0, 5] en (fun f x y wr => ∃ (j n' c' : Nat) (A' : Option Addr), j + f = en ∧ x = .slice A' n' c' ∧ y = .int .i64 j ∧ BS wr lo A' n' c' (b ++ tights false false l j) ∧ Below lo w wr)
  case atStart => exact ⟨0, _, _, A, by omega, rfl, rfl, by rw [tights_zero, List.append_nil]; exact h, Below.refl _ _⟩
  case round =>
    obtain ⟨j, n', c', A', hjf, rfl, rfl, hB, hk⟩ := hrel
    by_cases hlt : j < en
    · obtain ⟨f, rfl⟩ : ∃ f, gk = f + 1 := ⟨gk - 1, by omega⟩
      obtain ⟨g, o, u, hj, hAe, hgm, ⟨c0, c1, c2, c3, c4⟩, hch, hsub⟩ := (hl.below hel hk).elem hlt
      have hAe : eA = some ⟨g, o, none⟩ := hAe
      subst hAe
      have hul : u.lt lo := fun x hx => hel x (hsub x hx)
      have hlo2 : lo ≤ wr.heap.size := Nat.le_trans hlo hk.size
      have hnl := hB.len
      rw [List.length_append] at hnl
      have hpl := tights_len false false l j
      rw [szL_take2 l j (by omega)] at hpl
      have hz1 := szT_succ hj
      have hz2 := szT_le l (j + 1)
      have hpu := tightT_len false false l[j]
      have hih := ih l[j] (List.getElem_mem hj) u wr (hwf _ (List.getElem_mem hj)) hch (hul.mono hlo2) (by omega)
      clear ih hwf hch
      go_wp2_with (first
        | (go_at_call 21; refine hih.mono ?_; rintro r w5 ⟨A5, n5, c5, rfl, h5, hb5⟩; have hl5 := h5.len; have hB5 := hB.below hb5; have k5 := hk.trans (hb5.mono hlo2))
        | (at_builtin; refine app_u8 rfl _ _ rfl hB5 rfl h5.sl rfl (by omega) (Nat.le_trans hlo k5.size) ?_; intro A6 c6 w6 h6 hb6))
      clear hih hB5 hB h5
      go_roundg f
      case measure => omega
      case rel => exact ⟨j + 1, _, c6, A6, by omega, rfl, by go_num, by rw [tights_succ hj, ← List.append_assoc]; exact h6, k5.trans hb6⟩
    · obtain rfl : j = en := by omega
      go_wp2_with fail
      go_ret
      exact ⟨_, _, _, rfl, by rw [← tights_all (l := l) (j := j) (by omega)]; exact hB, hk⟩
set_option maxHeartbeats 1600000 in
theorem s_PackTight (t : Tr) : TsSays t := by
  refine Tr.ind (P := TsSays) (fun t ih => ?_) t
  intro e w hwf hl hel hm
  have hw := (Tr.wf_iff t).1 hwf
  have hq := tightT_eq false false t
  have hsz := t.sz_eq
  obtain ⟨k, n, x, s, l⟩ := t
  obtain ⟨eA, en, ec, efp⟩ := e
  simp only at hw hq hsz ih hl
  have hen : l.length = en := hl.len
  have hss : s.size ≤ 1048576 := by omega
  have hszl := szT_le l 0
  have hww := hw.2.2.2.2
  have hn9 := hw.2.1
  have hx9 := hw.2.2.1
  have hec : en ≤ ec ∧ ec ≤ maxLen := ⟨((lsAt_iff _ _).1 hl).2.1, ((lsAt_iff _ _).1 hl).2.2.1⟩
  rw [hq]
  clear hw hq hwf
  by_cases h3 : k = 3
  · subst h3
    by_cases hr : -1000000000000000 ≤ n ∧ n ≤ 1000000000000000
    · have hb := inR_yes hr.1 hr.2
      by_cases hn : n < 0
      · skip
        have HP := Lib.hid (show tightGo false false 3 n x s l.length (l.map (tightT false false)) = numP false 1 (-1 - n) from by unfold tightGo; rw [if_pos rfl, if_pos hb, if_pos hn])
        have k2 := Below.two w (.cells #[.int .i64 3, .int .i64 n, .int .i64 x, .string s, .slice eA en ec] 28) (.cells #[] 5)
        go_enter Tryz.func21, Tryz.ntmps21
        go_wp2_with (first | (go_at_call 40; refine (s_l1In _ _ _ _).mono ?_; rintro e w' ⟨rfl, rfl⟩) | (go_at_call 41; refine (s_HeadFor2 (by decide) (by omega) _).mono ?_; rintro r w3 ⟨rfl, hb3⟩; replace k2 := k2.up hb3) | (go_at_call 39; refine (s_PutHead2 (nilSl _ _) (Nat.zero_le _) (by decide) (by omega)).mono ?_; rintro r w4 ⟨A4, n4, c4, rfl, h4, hb4⟩; rw [List.nil_append] at h4; have k4 := k2.up hb4))
        go_ret
        exact ⟨_, _, _, rfl, by rw [HP.out]; exact h4.mono k2.size, k4⟩
      · skip
        have HP := Lib.hid (show tightGo false false 3 n x s l.length (l.map (tightT false false)) = numP false 0 n from by unfold tightGo; rw [if_pos rfl, if_pos hb, if_neg hn])
        have k2 := Below.two w (.cells #[.int .i64 3, .int .i64 n, .int .i64 x, .string s, .slice eA en ec] 28) (.cells #[] 5)
        go_enter Tryz.func21, Tryz.ntmps21
        go_wp2_with (first | (go_at_call 40; refine (s_l1In _ _ _ _).mono ?_; rintro e w' ⟨rfl, rfl⟩) | (go_at_call 41; refine (s_HeadFor2 (by decide) (by omega) _).mono ?_; rintro r w3 ⟨rfl, hb3⟩; replace k2 := k2.up hb3) | (go_at_call 39; refine (s_PutHead2 (nilSl _ _) (Nat.zero_le _) (by decide) (by omega)).mono ?_; rintro r w4 ⟨A4, n4, c4, rfl, h4, hb4⟩; rw [List.nil_append] at h4; have k4 := k2.up hb4))
        go_ret
        exact ⟨_, _, _, rfl, by rw [HP.out]; exact h4.mono k2.size, k4⟩
    · have hb : inR n (-1000000000000000) 1000000000000000 = false := inR_no (by omega)
      have HP := Lib.hid (show tightGo false false 3 n x s l.length (l.map (tightT false false)) = [] from by unfold tightGo; rw [if_pos rfl, if_neg (by rw [hb]; decide)])
      have k2 := Below.two w (.cells #[.int .i64 3, .int .i64 n, .int .i64 x, .string s, .slice eA en ec] 28) (.cells #[] 5)
      go_enter Tryz.func21, Tryz.ntmps21
      go_wp2_with (go_at_call 40; refine (s_l1In _ _ _ _).mono ?_; rintro e w' ⟨rfl, rfl⟩)
      go_ret
      exact ⟨_, _, _, rfl, by rw [HP.out]; exact BS.mono (BS.new' (w.alloc (.cells #[.int .i64 3, .int .i64 n, .int .i64 x, .string s, .slice eA en ec] 28)) (w.heap.size + 1) (by simp)) (Nat.le_succ _), k2⟩
  by_cases h7 : k = 7
  · subst h7
    have HP := Lib.hid (show tightGo false false 7 n x s l.length (l.map (tightT false false)) = numP false 3 s.size ++ s.data.toList from by show textP false false 3 s = _; unfold textP; rw [if_neg (by simp)])
    have k2 := Below.two w (.cells #[.int .i64 7, .int .i64 n, .int .i64 x, .string s, .slice eA en ec] 28) (.cells #[] 5)
    have BV : Blk ((w.alloc (.cells #[.int .i64 7, .int .i64 n, .int .i64 x, .string s, .slice eA en ec] 28)).alloc (.cells #[] 5)) w.heap.size 28 (valCells (⟨7, n, x, s, l⟩ : Tr) (⟨eA, en, ec, efp⟩ : El)) := (Blk.new w _ _).alloc _
    have hel2 : (⟨eA, en, ec, efp⟩ : El).lt ((w.alloc (.cells #[.int .i64 7, .int .i64 n, .int .i64 x, .string s, .slice eA en ec] 28)).alloc (.cells #[] 5)).heap.size := hel.mono k2.size
    have hS0 := fun (w' : World) (hb : Below ((w.alloc (.cells #[.int .i64 7, .int .i64 n, .int .i64 x, .string s, .slice eA en ec] 28)).alloc (.cells #[] 5)).heap.size ((w.alloc (.cells #[.int .i64 7, .int .i64 n, .int .i64 x, .string s, .slice eA en ec] 28)).alloc (.cells #[] 5)) w') => (show BoxV w' w.heap.size (⟨7, n, x, s, l⟩ : Tr) (⟨eA, en, ec, efp⟩ : El) ∧ Below ((w.alloc (.cells #[.int .i64 7, .int .i64 n, .int .i64 x, .string s, .slice eA en ec] 28)).alloc (.cells #[] 5)).heap.size ((w.alloc (.cells #[.int .i64 7, .int .i64 n, .int .i64 x, .string s, .slice eA en ec] 28)).alloc (.cells #[] 5)) w' from ⟨(BV.below hb BV.lt).boxV, hb⟩)
    have hS2 := fun (w' w'' : World) (h : BoxV w' w.heap.size (⟨7, n, x, s, l⟩ : Tr) (⟨eA, en, ec, efp⟩ : El) ∧ Below ((w.alloc (.cells #[.int .i64 7, .int .i64 n, .int .i64 x, .string s, .slice eA en ec] 28)).alloc (.cells #[] 5)).heap.size ((w.alloc (.cells #[.int .i64 7, .int .i64 n, .int .i64 x, .string s, .slice eA en ec] 28)).alloc (.cells #[] 5)) w') (hb : Below w'.heap.size w' w'') => hS0 w'' (h.2.up hb)
    have hS3 := fun (w' w'' : World) (h : BoxV w' w.heap.size (⟨7, n, x, s, l⟩ : Tr) (⟨eA, en, ec, efp⟩ : El) ∧ Below ((w.alloc (.cells #[.int .i64 7, .int .i64 n, .int .i64 x, .string s, .slice eA en ec] 28)).alloc (.cells #[] 5)).heap.size ((w.alloc (.cells #[.int .i64 7, .int .i64 n, .int .i64 x, .string s, .slice eA en ec] 28)).alloc (.cells #[] 5)) w') (hb : Below ((w.alloc (.cells #[.int .i64 7, .int .i64 n, .int .i64 x, .string s, .slice eA en ec] 28)).alloc (.cells #[] 5)).heap.size w' w'') => hS0 w'' (h.2.trans hb)
    have hSz := fun (w' : World) (h : BoxV w' w.heap.size (⟨7, n, x, s, l⟩ : Tr) (⟨eA, en, ec, efp⟩ : El) ∧ Below ((w.alloc (.cells #[.int .i64 7, .int .i64 n, .int .i64 x, .string s, .slice eA en ec] 28)).alloc (.cells #[] 5)).heap.size ((w.alloc (.cells #[.int .i64 7, .int .i64 n, .int .i64 x, .string s, .slice eA en ec] 28)).alloc (.cells #[] 5)) w') => h.2.size
    have hSl := fun (w' : World) (h : BoxV w' w.heap.size (⟨7, n, x, s, l⟩ : Tr) (⟨eA, en, ec, efp⟩ : El) ∧ Below ((w.alloc (.cells #[.int .i64 7, .int .i64 n, .int .i64 x, .string s, .slice eA en ec] 28)).alloc (.cells #[] 5)).heap.size ((w.alloc (.cells #[.int .i64 7, .int .i64 n, .int .i64 x, .string s, .slice eA en ec] 28)).alloc (.cells #[] 5)) w') => (hl.below hel ((k2.trans (h.2.mono k2.size))))
    go_enter Tryz.func21, Tryz.ntmps21
    go_wp2_with (go_at_call 40; refine (s_l1In _ _ _ _).mono ?_; rintro e w' ⟨rfl, rfl⟩)
    go_region_held3 (fun w' => BoxV w' w.heap.size (⟨7, n, x, s, l⟩ : Tr) (⟨eA, en, ec, efp⟩ : El) ∧ Below ((w.alloc (.cells #[.int .i64 7, .int .i64 n, .int .i64 x, .string s, .slice eA en ec] 28)).alloc (.cells #[] 5)).heap.size ((w.alloc (.cells #[.int .i64 7, .int .i64 n, .int .i64 x, .string s, .slice eA en ec] 28)).alloc (.cells #[] 5)) w')
      (first | exact hS0 _ (Below.refl _ _).drew | (refine hS2 _ _ ?_ hbA; assumption) | (refine hS2 _ _ ?_ hbB; assumption) | (refine hS3 _ _ ?_ hbC; assumption))
      (first
        | (go_simp; go_at_call 41; (try rw [hwr]); refine (s_HeadFor2 (by decide) (by omega) _).mono ?_; rintro r w3 ⟨rfl, hbA⟩; have z3 := hSz _ (hS2 _ _ (by assumption) hbA))
        | (go_simp; go_at_call 39; refine (s_PutHead2 (nilSl _ _) (Nat.zero_le _) (by decide) (by omega)).mono ?_; rintro r w4 ⟨A4, n4, c4, rfl, h4, hbB⟩; rw [List.nil_append] at h4; replace h4 := h4.mono z3; have z4 := Nat.le_trans z3 hbB.size; have l4 := h4.len; have p4 : n4 ≤ 9 := (by rw [← l4]; exact headP_len _ _ _ _))
        | (refine app_strs rfl (.tmp 75) (.tmp 77) rfl h4 rfl rfl (by omega) z4 ?_; intro A5 c5 w5 h5 hbC))
    rename_i hHeld
    have kb := k2.trans (hHeld.2.mono k2.size)
    clear hS0 hS2 hS3 hSz hSl hHeld
    go_wp2_with fail
    go_ret
    exact ⟨_, _, _, rfl, by rw [HP.out]; exact h5.mono k2.size, kb⟩
  by_cases h8 : k = 8
  · subst h8
    have HP := Lib.hid (show tightGo false false 8 n x s l.length (l.map (tightT false false)) = numP false 2 s.size ++ s.data.toList from by show textP false false 2 s = _; unfold textP; rw [if_neg (by simp)])
    have k2 := Below.two w (.cells #[.int .i64 8, .int .i64 n, .int .i64 x, .string s, .slice eA en ec] 28) (.cells #[] 5)
    have BV : Blk ((w.alloc (.cells #[.int .i64 8, .int .i64 n, .int .i64 x, .string s, .slice eA en ec] 28)).alloc (.cells #[] 5)) w.heap.size 28 (valCells (⟨8, n, x, s, l⟩ : Tr) (⟨eA, en, ec, efp⟩ : El)) := (Blk.new w _ _).alloc _
    have hel2 : (⟨eA, en, ec, efp⟩ : El).lt ((w.alloc (.cells #[.int .i64 8, .int .i64 n, .int .i64 x, .string s, .slice eA en ec] 28)).alloc (.cells #[] 5)).heap.size := hel.mono k2.size
    have hS0 := fun (w' : World) (hb : Below ((w.alloc (.cells #[.int .i64 8, .int .i64 n, .int .i64 x, .string s, .slice eA en ec] 28)).alloc (.cells #[] 5)).heap.size ((w.alloc (.cells #[.int .i64 8, .int .i64 n, .int .i64 x, .string s, .slice eA en ec] 28)).alloc (.cells #[] 5)) w') => (show BoxV w' w.heap.size (⟨8, n, x, s, l⟩ : Tr) (⟨eA, en, ec, efp⟩ : El) ∧ Below ((w.alloc (.cells #[.int .i64 8, .int .i64 n, .int .i64 x, .string s, .slice eA en ec] 28)).alloc (.cells #[] 5)).heap.size ((w.alloc (.cells #[.int .i64 8, .int .i64 n, .int .i64 x, .string s, .slice eA en ec] 28)).alloc (.cells #[] 5)) w' from ⟨(BV.below hb BV.lt).boxV, hb⟩)
    have hS2 := fun (w' w'' : World) (h : BoxV w' w.heap.size (⟨8, n, x, s, l⟩ : Tr) (⟨eA, en, ec, efp⟩ : El) ∧ Below ((w.alloc (.cells #[.int .i64 8, .int .i64 n, .int .i64 x, .string s, .slice eA en ec] 28)).alloc (.cells #[] 5)).heap.size ((w.alloc (.cells #[.int .i64 8, .int .i64 n, .int .i64 x, .string s, .slice eA en ec] 28)).alloc (.cells #[] 5)) w') (hb : Below w'.heap.size w' w'') => hS0 w'' (h.2.up hb)
    have hS3 := fun (w' w'' : World) (h : BoxV w' w.heap.size (⟨8, n, x, s, l⟩ : Tr) (⟨eA, en, ec, efp⟩ : El) ∧ Below ((w.alloc (.cells #[.int .i64 8, .int .i64 n, .int .i64 x, .string s, .slice eA en ec] 28)).alloc (.cells #[] 5)).heap.size ((w.alloc (.cells #[.int .i64 8, .int .i64 n, .int .i64 x, .string s, .slice eA en ec] 28)).alloc (.cells #[] 5)) w') (hb : Below ((w.alloc (.cells #[.int .i64 8, .int .i64 n, .int .i64 x, .string s, .slice eA en ec] 28)).alloc (.cells #[] 5)).heap.size w' w'') => hS0 w'' (h.2.trans hb)
    have hSz := fun (w' : World) (h : BoxV w' w.heap.size (⟨8, n, x, s, l⟩ : Tr) (⟨eA, en, ec, efp⟩ : El) ∧ Below ((w.alloc (.cells #[.int .i64 8, .int .i64 n, .int .i64 x, .string s, .slice eA en ec] 28)).alloc (.cells #[] 5)).heap.size ((w.alloc (.cells #[.int .i64 8, .int .i64 n, .int .i64 x, .string s, .slice eA en ec] 28)).alloc (.cells #[] 5)) w') => h.2.size
    have hSl := fun (w' : World) (h : BoxV w' w.heap.size (⟨8, n, x, s, l⟩ : Tr) (⟨eA, en, ec, efp⟩ : El) ∧ Below ((w.alloc (.cells #[.int .i64 8, .int .i64 n, .int .i64 x, .string s, .slice eA en ec] 28)).alloc (.cells #[] 5)).heap.size ((w.alloc (.cells #[.int .i64 8, .int .i64 n, .int .i64 x, .string s, .slice eA en ec] 28)).alloc (.cells #[] 5)) w') => (hl.below hel ((k2.trans (h.2.mono k2.size))))
    go_enter Tryz.func21, Tryz.ntmps21
    go_wp2_with (go_at_call 40; refine (s_l1In _ _ _ _).mono ?_; rintro e w' ⟨rfl, rfl⟩)
    go_region_held3 (fun w' => BoxV w' w.heap.size (⟨8, n, x, s, l⟩ : Tr) (⟨eA, en, ec, efp⟩ : El) ∧ Below ((w.alloc (.cells #[.int .i64 8, .int .i64 n, .int .i64 x, .string s, .slice eA en ec] 28)).alloc (.cells #[] 5)).heap.size ((w.alloc (.cells #[.int .i64 8, .int .i64 n, .int .i64 x, .string s, .slice eA en ec] 28)).alloc (.cells #[] 5)) w')
      (first | exact hS0 _ (Below.refl _ _).drew | (refine hS2 _ _ ?_ hbA; assumption) | (refine hS2 _ _ ?_ hbB; assumption) | (refine hS3 _ _ ?_ hbC; assumption))
      (first
        | (go_simp; go_at_call 41; (try rw [hwr]); refine (s_HeadFor2 (by decide) (by omega) _).mono ?_; rintro r w3 ⟨rfl, hbA⟩; have z3 := hSz _ (hS2 _ _ (by assumption) hbA))
        | (go_simp; go_at_call 39; refine (s_PutHead2 (nilSl _ _) (Nat.zero_le _) (by decide) (by omega)).mono ?_; rintro r w4 ⟨A4, n4, c4, rfl, h4, hbB⟩; rw [List.nil_append] at h4; replace h4 := h4.mono z3; have z4 := Nat.le_trans z3 hbB.size; have l4 := h4.len; have p4 : n4 ≤ 9 := (by rw [← l4]; exact headP_len _ _ _ _))
        | (refine app_strs rfl (.tmp 86) (.tmp 88) rfl h4 rfl rfl (by omega) z4 ?_; intro A5 c5 w5 h5 hbC))
    rename_i hHeld
    have kb := k2.trans (hHeld.2.mono k2.size)
    clear hS0 hS2 hS3 hSz hSl hHeld
    go_wp2_with fail
    go_ret
    exact ⟨_, _, _, rfl, by rw [HP.out]; exact h5.mono k2.size, kb⟩
  by_cases h9 : k = 9
  · subst h9
    have HP := Lib.hid (show tightGo false false 9 n x s l.length (l.map (tightT false false)) = numP false 4 (en : Int) ++ (l.map (tightT false false)).flatten from by rw [← hen]; show elemP false false 4 (l.length : Int) _ = _; unfold elemP; rw [if_neg (by simp)])
    have k2 := Below.two w (.cells #[.int .i64 9, .int .i64 n, .int .i64 x, .string s, .slice eA en ec] 28) (.cells #[] 5)
    have BV : Blk ((w.alloc (.cells #[.int .i64 9, .int .i64 n, .int .i64 x, .string s, .slice eA en ec] 28)).alloc (.cells #[] 5)) w.heap.size 28 (valCells (⟨9, n, x, s, l⟩ : Tr) (⟨eA, en, ec, efp⟩ : El)) := (Blk.new w _ _).alloc _
    have hel2 : (⟨eA, en, ec, efp⟩ : El).lt ((w.alloc (.cells #[.int .i64 9, .int .i64 n, .int .i64 x, .string s, .slice eA en ec] 28)).alloc (.cells #[] 5)).heap.size := hel.mono k2.size
    have hS0 := fun (w' : World) (hb : Below ((w.alloc (.cells #[.int .i64 9, .int .i64 n, .int .i64 x, .string s, .slice eA en ec] 28)).alloc (.cells #[] 5)).heap.size ((w.alloc (.cells #[.int .i64 9, .int .i64 n, .int .i64 x, .string s, .slice eA en ec] 28)).alloc (.cells #[] 5)) w') => (show BoxV w' w.heap.size (⟨9, n, x, s, l⟩ : Tr) (⟨eA, en, ec, efp⟩ : El) ∧ Below ((w.alloc (.cells #[.int .i64 9, .int .i64 n, .int .i64 x, .string s, .slice eA en ec] 28)).alloc (.cells #[] 5)).heap.size ((w.alloc (.cells #[.int .i64 9, .int .i64 n, .int .i64 x, .string s, .slice eA en ec] 28)).alloc (.cells #[] 5)) w' from ⟨(BV.below hb BV.lt).boxV, hb⟩)
    have hS2 := fun (w' w'' : World) (h : BoxV w' w.heap.size (⟨9, n, x, s, l⟩ : Tr) (⟨eA, en, ec, efp⟩ : El) ∧ Below ((w.alloc (.cells #[.int .i64 9, .int .i64 n, .int .i64 x, .string s, .slice eA en ec] 28)).alloc (.cells #[] 5)).heap.size ((w.alloc (.cells #[.int .i64 9, .int .i64 n, .int .i64 x, .string s, .slice eA en ec] 28)).alloc (.cells #[] 5)) w') (hb : Below w'.heap.size w' w'') => hS0 w'' (h.2.up hb)
    have hS3 := fun (w' w'' : World) (h : BoxV w' w.heap.size (⟨9, n, x, s, l⟩ : Tr) (⟨eA, en, ec, efp⟩ : El) ∧ Below ((w.alloc (.cells #[.int .i64 9, .int .i64 n, .int .i64 x, .string s, .slice eA en ec] 28)).alloc (.cells #[] 5)).heap.size ((w.alloc (.cells #[.int .i64 9, .int .i64 n, .int .i64 x, .string s, .slice eA en ec] 28)).alloc (.cells #[] 5)) w') (hb : Below ((w.alloc (.cells #[.int .i64 9, .int .i64 n, .int .i64 x, .string s, .slice eA en ec] 28)).alloc (.cells #[] 5)).heap.size w' w'') => hS0 w'' (h.2.trans hb)
    have hSz := fun (w' : World) (h : BoxV w' w.heap.size (⟨9, n, x, s, l⟩ : Tr) (⟨eA, en, ec, efp⟩ : El) ∧ Below ((w.alloc (.cells #[.int .i64 9, .int .i64 n, .int .i64 x, .string s, .slice eA en ec] 28)).alloc (.cells #[] 5)).heap.size ((w.alloc (.cells #[.int .i64 9, .int .i64 n, .int .i64 x, .string s, .slice eA en ec] 28)).alloc (.cells #[] 5)) w') => h.2.size
    have hSl := fun (w' : World) (h : BoxV w' w.heap.size (⟨9, n, x, s, l⟩ : Tr) (⟨eA, en, ec, efp⟩ : El) ∧ Below ((w.alloc (.cells #[.int .i64 9, .int .i64 n, .int .i64 x, .string s, .slice eA en ec] 28)).alloc (.cells #[] 5)).heap.size ((w.alloc (.cells #[.int .i64 9, .int .i64 n, .int .i64 x, .string s, .slice eA en ec] 28)).alloc (.cells #[] 5)) w') => (hl.below hel ((k2.trans (h.2.mono k2.size))))
    go_enter Tryz.func21, Tryz.ntmps21
    go_wp2_with (go_at_call 40; refine (s_l1In _ _ _ _).mono ?_; rintro e w' ⟨rfl, rfl⟩)
    go_region_held3 (fun w' => BoxV w' w.heap.size (⟨9, n, x, s, l⟩ : Tr) (⟨eA, en, ec, efp⟩ : El) ∧ Below ((w.alloc (.cells #[.int .i64 9, .int .i64 n, .int .i64 x, .string s, .slice eA en ec] 28)).alloc (.cells #[] 5)).heap.size ((w.alloc (.cells #[.int .i64 9, .int .i64 n, .int .i64 x, .string s, .slice eA en ec] 28)).alloc (.cells #[] 5)) w')
      (first | exact hS0 _ (Below.refl _ _).drew | (refine hS2 _ _ ?_ hbA; assumption) | (refine hS2 _ _ ?_ hbB; assumption) | (refine hS3 _ _ ?_ hbC; assumption))
      (first
        | (go_simp; go_at_call 41; (try rw [hwr]); refine (s_HeadFor2 (by decide) (by omega) _).mono ?_; rintro r w3 ⟨rfl, hbA⟩; have z3 := hSz _ (hS2 _ _ (by assumption) hbA))
        | (go_simp; go_at_call 39; refine (s_PutHead2 (nilSl _ _) (Nat.zero_le _) (by decide) (by omega)).mono ?_; rintro r w4 ⟨A4, n4, c4, rfl, h4, hbB⟩; rw [List.nil_append] at h4; replace h4 := h4.mono z3; have z4 := Nat.le_trans z3 hbB.size; have l4 := h4.len; have p4 : n4 ≤ 9 := (by rw [← l4]; exact headP_len _ _ _ _))
        | (go_simp; go_at_call 43; refine (s_l13All l ih hww A4 n4 c4 _ ⟨eA, en, ec, efp⟩ _ _ h4 z4 (hSl _ (by assumption)) hel2 (by omega) (by omega)).mono ?_; rintro r w5 ⟨A5, n5, c5, rfl, h5, hbC⟩))
    rename_i hHeld
    have kb := k2.trans (hHeld.2.mono k2.size)
    clear hS0 hS2 hS3 hSz hSl hHeld
    go_wp2_with fail
    go_ret
    exact ⟨_, _, _, rfl, by rw [HP.out]; exact h5.mono k2.size, kb⟩
  by_cases h10 : k = 10
  · subst h10
    have HP := Lib.hid (show tightGo false false 10 n x s l.length (l.map (tightT false false)) = numP false 5 ((en : Int) / 2) ++ (l.map (tightT false false)).flatten from by rw [← hen]; show elemP false false 5 ((l.length : Int) / 2) _ = _; unfold elemP; rw [if_neg (by simp)])
    have hwr : IntKind.i64.wrap ((en : Int) / 2) = (en : Int) / 2 := by rw [IntKind.wrap_i64]; omega
    have k2 := Below.two w (.cells #[.int .i64 10, .int .i64 n, .int .i64 x, .string s, .slice eA en ec] 28) (.cells #[] 5)
    have BV : Blk ((w.alloc (.cells #[.int .i64 10, .int .i64 n, .int .i64 x, .string s, .slice eA en ec] 28)).alloc (.cells #[] 5)) w.heap.size 28 (valCells (⟨10, n, x, s, l⟩ : Tr) (⟨eA, en, ec, efp⟩ : El)) := (Blk.new w _ _).alloc _
    have hel2 : (⟨eA, en, ec, efp⟩ : El).lt ((w.alloc (.cells #[.int .i64 10, .int .i64 n, .int .i64 x, .string s, .slice eA en ec] 28)).alloc (.cells #[] 5)).heap.size := hel.mono k2.size
    have hS0 := fun (w' : World) (hb : Below ((w.alloc (.cells #[.int .i64 10, .int .i64 n, .int .i64 x, .string s, .slice eA en ec] 28)).alloc (.cells #[] 5)).heap.size ((w.alloc (.cells #[.int .i64 10, .int .i64 n, .int .i64 x, .string s, .slice eA en ec] 28)).alloc (.cells #[] 5)) w') => (show BoxV w' w.heap.size (⟨10, n, x, s, l⟩ : Tr) (⟨eA, en, ec, efp⟩ : El) ∧ Below ((w.alloc (.cells #[.int .i64 10, .int .i64 n, .int .i64 x, .string s, .slice eA en ec] 28)).alloc (.cells #[] 5)).heap.size ((w.alloc (.cells #[.int .i64 10, .int .i64 n, .int .i64 x, .string s, .slice eA en ec] 28)).alloc (.cells #[] 5)) w' from ⟨(BV.below hb BV.lt).boxV, hb⟩)
    have hS2 := fun (w' w'' : World) (h : BoxV w' w.heap.size (⟨10, n, x, s, l⟩ : Tr) (⟨eA, en, ec, efp⟩ : El) ∧ Below ((w.alloc (.cells #[.int .i64 10, .int .i64 n, .int .i64 x, .string s, .slice eA en ec] 28)).alloc (.cells #[] 5)).heap.size ((w.alloc (.cells #[.int .i64 10, .int .i64 n, .int .i64 x, .string s, .slice eA en ec] 28)).alloc (.cells #[] 5)) w') (hb : Below w'.heap.size w' w'') => hS0 w'' (h.2.up hb)
    have hS3 := fun (w' w'' : World) (h : BoxV w' w.heap.size (⟨10, n, x, s, l⟩ : Tr) (⟨eA, en, ec, efp⟩ : El) ∧ Below ((w.alloc (.cells #[.int .i64 10, .int .i64 n, .int .i64 x, .string s, .slice eA en ec] 28)).alloc (.cells #[] 5)).heap.size ((w.alloc (.cells #[.int .i64 10, .int .i64 n, .int .i64 x, .string s, .slice eA en ec] 28)).alloc (.cells #[] 5)) w') (hb : Below ((w.alloc (.cells #[.int .i64 10, .int .i64 n, .int .i64 x, .string s, .slice eA en ec] 28)).alloc (.cells #[] 5)).heap.size w' w'') => hS0 w'' (h.2.trans hb)
    have hSz := fun (w' : World) (h : BoxV w' w.heap.size (⟨10, n, x, s, l⟩ : Tr) (⟨eA, en, ec, efp⟩ : El) ∧ Below ((w.alloc (.cells #[.int .i64 10, .int .i64 n, .int .i64 x, .string s, .slice eA en ec] 28)).alloc (.cells #[] 5)).heap.size ((w.alloc (.cells #[.int .i64 10, .int .i64 n, .int .i64 x, .string s, .slice eA en ec] 28)).alloc (.cells #[] 5)) w') => h.2.size
    have hSl := fun (w' : World) (h : BoxV w' w.heap.size (⟨10, n, x, s, l⟩ : Tr) (⟨eA, en, ec, efp⟩ : El) ∧ Below ((w.alloc (.cells #[.int .i64 10, .int .i64 n, .int .i64 x, .string s, .slice eA en ec] 28)).alloc (.cells #[] 5)).heap.size ((w.alloc (.cells #[.int .i64 10, .int .i64 n, .int .i64 x, .string s, .slice eA en ec] 28)).alloc (.cells #[] 5)) w') => (hl.below hel ((k2.trans (h.2.mono k2.size))))
    go_enter Tryz.func21, Tryz.ntmps21
    go_wp2_with (go_at_call 40; refine (s_l1In _ _ _ _).mono ?_; rintro e w' ⟨rfl, rfl⟩)
    go_region_held3 (fun w' => BoxV w' w.heap.size (⟨10, n, x, s, l⟩ : Tr) (⟨eA, en, ec, efp⟩ : El) ∧ Below ((w.alloc (.cells #[.int .i64 10, .int .i64 n, .int .i64 x, .string s, .slice eA en ec] 28)).alloc (.cells #[] 5)).heap.size ((w.alloc (.cells #[.int .i64 10, .int .i64 n, .int .i64 x, .string s, .slice eA en ec] 28)).alloc (.cells #[] 5)) w')
      (first | exact hS0 _ (Below.refl _ _).drew | (refine hS2 _ _ ?_ hbA; assumption) | (refine hS2 _ _ ?_ hbB; assumption) | (refine hS3 _ _ ?_ hbC; assumption))
      (first
        | (go_simp; go_at_call 41; (try rw [hwr]); refine (s_HeadFor2 (by decide) (by omega) _).mono ?_; rintro r w3 ⟨rfl, hbA⟩; have z3 := hSz _ (hS2 _ _ (by assumption) hbA))
        | (go_simp; go_at_call 39; refine (s_PutHead2 (nilSl _ _) (Nat.zero_le _) (by decide) (by omega)).mono ?_; rintro r w4 ⟨A4, n4, c4, rfl, h4, hbB⟩; rw [List.nil_append] at h4; replace h4 := h4.mono z3; have z4 := Nat.le_trans z3 hbB.size; have l4 := h4.len; have p4 : n4 ≤ 9 := (by rw [← l4]; exact headP_len _ _ _ _))
        | (go_simp; go_at_call 43; refine (s_l13All l ih hww A4 n4 c4 _ ⟨eA, en, ec, efp⟩ _ _ h4 z4 (hSl _ (by assumption)) hel2 (by omega) (by omega)).mono ?_; rintro r w5 ⟨A5, n5, c5, rfl, h5, hbC⟩))
    rename_i hHeld
    have kb := k2.trans (hHeld.2.mono k2.size)
    clear hS0 hS2 hS3 hSz hSl hHeld
    go_wp2_with fail
    go_ret
    exact ⟨_, _, _, rfl, by rw [HP.out]; exact h5.mono k2.size, kb⟩
  by_cases h11 : k = 11
  · subst h11
    by_cases hr : 0 ≤ n ∧ n ≤ 1000000000000000
    · have hb := inR_yes hr.1 hr.2
      have HP := Lib.hid (show tightGo false false 11 n x s l.length (l.map (tightT false false)) = numP false 6 n ++ (l.map (tightT false false)).flatten from by rw [show tightGo false false 11 n x s l.length (l.map (tightT false false)) = (if inR n 0 1000000000000000 = true then elemP false false 6 n (l.map (tightT false false)).flatten else []) from rfl, if_pos hb]; unfold elemP; rw [if_neg (by simp)])
      have k2 := Below.two w (.cells #[.int .i64 11, .int .i64 n, .int .i64 x, .string s, .slice eA en ec] 28) (.cells #[] 5)
      have BV : Blk ((w.alloc (.cells #[.int .i64 11, .int .i64 n, .int .i64 x, .string s, .slice eA en ec] 28)).alloc (.cells #[] 5)) w.heap.size 28 (valCells (⟨11, n, x, s, l⟩ : Tr) (⟨eA, en, ec, efp⟩ : El)) := (Blk.new w _ _).alloc _
      have hel2 : (⟨eA, en, ec, efp⟩ : El).lt ((w.alloc (.cells #[.int .i64 11, .int .i64 n, .int .i64 x, .string s, .slice eA en ec] 28)).alloc (.cells #[] 5)).heap.size := hel.mono k2.size
      have hS0 := fun (w' : World) (hb : Below ((w.alloc (.cells #[.int .i64 11, .int .i64 n, .int .i64 x, .string s, .slice eA en ec] 28)).alloc (.cells #[] 5)).heap.size ((w.alloc (.cells #[.int .i64 11, .int .i64 n, .int .i64 x, .string s, .slice eA en ec] 28)).alloc (.cells #[] 5)) w') => (show BoxV w' w.heap.size (⟨11, n, x, s, l⟩ : Tr) (⟨eA, en, ec, efp⟩ : El) ∧ Below ((w.alloc (.cells #[.int .i64 11, .int .i64 n, .int .i64 x, .string s, .slice eA en ec] 28)).alloc (.cells #[] 5)).heap.size ((w.alloc (.cells #[.int .i64 11, .int .i64 n, .int .i64 x, .string s, .slice eA en ec] 28)).alloc (.cells #[] 5)) w' from ⟨(BV.below hb BV.lt).boxV, hb⟩)
      have hS2 := fun (w' w'' : World) (h : BoxV w' w.heap.size (⟨11, n, x, s, l⟩ : Tr) (⟨eA, en, ec, efp⟩ : El) ∧ Below ((w.alloc (.cells #[.int .i64 11, .int .i64 n, .int .i64 x, .string s, .slice eA en ec] 28)).alloc (.cells #[] 5)).heap.size ((w.alloc (.cells #[.int .i64 11, .int .i64 n, .int .i64 x, .string s, .slice eA en ec] 28)).alloc (.cells #[] 5)) w') (hb : Below w'.heap.size w' w'') => hS0 w'' (h.2.up hb)
      have hS3 := fun (w' w'' : World) (h : BoxV w' w.heap.size (⟨11, n, x, s, l⟩ : Tr) (⟨eA, en, ec, efp⟩ : El) ∧ Below ((w.alloc (.cells #[.int .i64 11, .int .i64 n, .int .i64 x, .string s, .slice eA en ec] 28)).alloc (.cells #[] 5)).heap.size ((w.alloc (.cells #[.int .i64 11, .int .i64 n, .int .i64 x, .string s, .slice eA en ec] 28)).alloc (.cells #[] 5)) w') (hb : Below ((w.alloc (.cells #[.int .i64 11, .int .i64 n, .int .i64 x, .string s, .slice eA en ec] 28)).alloc (.cells #[] 5)).heap.size w' w'') => hS0 w'' (h.2.trans hb)
      have hSz := fun (w' : World) (h : BoxV w' w.heap.size (⟨11, n, x, s, l⟩ : Tr) (⟨eA, en, ec, efp⟩ : El) ∧ Below ((w.alloc (.cells #[.int .i64 11, .int .i64 n, .int .i64 x, .string s, .slice eA en ec] 28)).alloc (.cells #[] 5)).heap.size ((w.alloc (.cells #[.int .i64 11, .int .i64 n, .int .i64 x, .string s, .slice eA en ec] 28)).alloc (.cells #[] 5)) w') => h.2.size
      have hSl := fun (w' : World) (h : BoxV w' w.heap.size (⟨11, n, x, s, l⟩ : Tr) (⟨eA, en, ec, efp⟩ : El) ∧ Below ((w.alloc (.cells #[.int .i64 11, .int .i64 n, .int .i64 x, .string s, .slice eA en ec] 28)).alloc (.cells #[] 5)).heap.size ((w.alloc (.cells #[.int .i64 11, .int .i64 n, .int .i64 x, .string s, .slice eA en ec] 28)).alloc (.cells #[] 5)) w') => (hl.below hel ((k2.trans (h.2.mono k2.size))))
      go_enter Tryz.func21, Tryz.ntmps21
      go_wp2_with (go_at_call 40; refine (s_l1In _ _ _ _).mono ?_; rintro e w' ⟨rfl, rfl⟩)
      go_region_held3 (fun w' => BoxV w' w.heap.size (⟨11, n, x, s, l⟩ : Tr) (⟨eA, en, ec, efp⟩ : El) ∧ Below ((w.alloc (.cells #[.int .i64 11, .int .i64 n, .int .i64 x, .string s, .slice eA en ec] 28)).alloc (.cells #[] 5)).heap.size ((w.alloc (.cells #[.int .i64 11, .int .i64 n, .int .i64 x, .string s, .slice eA en ec] 28)).alloc (.cells #[] 5)) w')
        (first | exact hS0 _ (Below.refl _ _).drew | (refine hS2 _ _ ?_ hbA; assumption) | (refine hS2 _ _ ?_ hbB; assumption) | (refine hS3 _ _ ?_ hbC; assumption))
        (first
          | (go_simp; go_at_call 41; (try rw [hwr]); refine (s_HeadFor2 (by decide) (by omega) _).mono ?_; rintro r w3 ⟨rfl, hbA⟩; have z3 := hSz _ (hS2 _ _ (by assumption) hbA))
          | (go_simp; go_at_call 39; refine (s_PutHead2 (nilSl _ _) (Nat.zero_le _) (by decide) (by omega)).mono ?_; rintro r w4 ⟨A4, n4, c4, rfl, h4, hbB⟩; rw [List.nil_append] at h4; replace h4 := h4.mono z3; have z4 := Nat.le_trans z3 hbB.size; have l4 := h4.len; have p4 : n4 ≤ 9 := (by rw [← l4]; exact headP_len _ _ _ _))
          | (go_simp; go_at_call 43; refine (s_l13All l ih hww A4 n4 c4 _ ⟨eA, en, ec, efp⟩ _ _ h4 z4 (hSl _ (by assumption)) hel2 (by omega) (by omega)).mono ?_; rintro r w5 ⟨A5, n5, c5, rfl, h5, hbC⟩))
      rename_i hHeld
      have kb := k2.trans (hHeld.2.mono k2.size)
      clear hS0 hS2 hS3 hSz hSl hHeld
      go_wp2_with fail
      go_ret
      exact ⟨_, _, _, rfl, by rw [HP.out]; exact h5.mono k2.size, kb⟩
    · have hb : inR n 0 1000000000000000 = false := inR_no (by omega)
      have HP := Lib.hid (show tightGo false false 11 n x s l.length (l.map (tightT false false)) = [] from by rw [show tightGo false false 11 n x s l.length (l.map (tightT false false)) = (if inR n 0 1000000000000000 = true then elemP false false 6 n (l.map (tightT false false)).flatten else []) from rfl, if_neg (by rw [hb]; decide)])
      have k2 := Below.two w (.cells #[.int .i64 11, .int .i64 n, .int .i64 x, .string s, .slice eA en ec] 28) (.cells #[] 5)
      go_enter Tryz.func21, Tryz.ntmps21
      go_wp2_with (go_at_call 40; refine (s_l1In _ _ _ _).mono ?_; rintro e w' ⟨rfl, rfl⟩)
      go_ret
      exact ⟨_, _, _, rfl, by rw [HP.out]; exact BS.mono (BS.new' (w.alloc (.cells #[.int .i64 11, .int .i64 n, .int .i64 x, .string s, .slice eA en ec] 28)) (w.heap.size + 1) (by simp)) (Nat.le_succ _), k2⟩
  by_cases h2 : k = 2
  · subst h2
    by_cases hn : n = 1
    · subst hn
      have HP := Lib.hid (show tightGo false false 2 1 x s l.length (l.map (tightT false false)) = headP false 7 21 0 from rfl)
      have k2 := Below.two w (.cells #[.int .i64 2, .int .i64 1, .int .i64 x, .string s, .slice eA en ec] 28) (.cells #[] 5)
      go_enter Tryz.func21, Tryz.ntmps21
      go_wp2_with (first | (go_at_call 40; refine (s_l1In _ _ _ _).mono ?_; rintro e w' ⟨rfl, rfl⟩) | (go_at_call 39; refine (s_PutHead2 (nilSl _ _) (Nat.zero_le _) (by decide) (by omega)).mono ?_; rintro r w4 ⟨A4, n4, c4, rfl, h4, hb4⟩; rw [List.nil_append] at h4; have k4 := k2.up hb4))
      go_ret
      exact ⟨_, _, _, rfl, by rw [HP.out]; exact h4.mono k2.size, k4⟩
    · have hb : (n == 1) = false := by simpa using hn
      have HP := Lib.hid (show tightGo false false 2 n x s l.length (l.map (tightT false false)) = headP false 7 20 0 from by rw [show tightGo false false 2 n x s l.length (l.map (tightT false false)) = headP false 7 (if n = 1 then 21 else 20) 0 from rfl, if_neg hn])
      have k2 := Below.two w (.cells #[.int .i64 2, .int .i64 n, .int .i64 x, .string s, .slice eA en ec] 28) (.cells #[] 5)
      go_enter Tryz.func21, Tryz.ntmps21
      go_wp2_with (first | (go_at_call 40; refine (s_l1In _ _ _ _).mono ?_; rintro e w' ⟨rfl, rfl⟩) | (go_at_call 39; refine (s_PutHead2 (nilSl _ _) (Nat.zero_le _) (by decide) (by omega)).mono ?_; rintro r w4 ⟨A4, n4, c4, rfl, h4, hb4⟩; rw [List.nil_append] at h4; have k4 := k2.up hb4))
      go_ret
      exact ⟨_, _, _, rfl, by rw [HP.out]; exact h4.mono k2.size, k4⟩
  by_cases h1 : k = 1
  · subst h1
    have HP := Lib.hid (show tightGo false false 1 n x s l.length (l.map (tightT false false)) = headP false 7 22 0 from rfl)
    have k2 := Below.two w (.cells #[.int .i64 1, .int .i64 n, .int .i64 x, .string s, .slice eA en ec] 28) (.cells #[] 5)
    go_enter Tryz.func21, Tryz.ntmps21
    go_wp2_with (first | (go_at_call 40; refine (s_l1In _ _ _ _).mono ?_; rintro e w' ⟨rfl, rfl⟩) | (go_at_call 39; refine (s_PutHead2 (nilSl _ _) (Nat.zero_le _) (by decide) (by omega)).mono ?_; rintro r w4 ⟨A4, n4, c4, rfl, h4, hb4⟩; rw [List.nil_append] at h4; have k4 := k2.up hb4))
    go_ret
    exact ⟨_, _, _, rfl, by rw [HP.out]; exact h4.mono k2.size, k4⟩
  by_cases h5 : k = 5
  · subst h5
    by_cases hr : 0 ≤ n ∧ n ≤ 2
    · have hb := inR_yes hr.1 hr.2
      have HP := Lib.hid (show tightGo false false 5 n x s l.length (l.map (tightT false false)) = headP false 7 (32 + n) 1 from by rw [show tightGo false false 5 n x s l.length (l.map (tightT false false)) = (if inR n 0 2 = true then headP false 7 (32 + n) 1 else []) from rfl, if_pos hb])
      have k2 := Below.two w (.cells #[.int .i64 5, .int .i64 n, .int .i64 x, .string s, .slice eA en ec] 28) (.cells #[] 5)
      go_enter Tryz.func21, Tryz.ntmps21
      go_wp2_with (first | (go_at_call 40; refine (s_l1In _ _ _ _).mono ?_; rintro e w' ⟨rfl, rfl⟩) | (go_at_call 39; refine (s_PutHead2 (nilSl _ _) (Nat.zero_le _) (by decide) (by omega)).mono ?_; rintro r w4 ⟨A4, n4, c4, rfl, h4, hb4⟩; rw [List.nil_append] at h4; have k4 := k2.up hb4))
      go_ret
      exact ⟨_, _, _, rfl, by rw [HP.out]; exact h4.mono k2.size, k4⟩
    · have hb : inR n 0 2 = false := inR_no (by omega)
      have HP := Lib.hid (show tightGo false false 5 n x s l.length (l.map (tightT false false)) = [] from by rw [show tightGo false false 5 n x s l.length (l.map (tightT false false)) = (if inR n 0 2 = true then headP false 7 (32 + n) 1 else []) from rfl, if_neg (by rw [hb]; decide)])
      have k2 := Below.two w (.cells #[.int .i64 5, .int .i64 n, .int .i64 x, .string s, .slice eA en ec] 28) (.cells #[] 5)
      go_enter Tryz.func21, Tryz.ntmps21
      go_wp2_with (go_at_call 40; refine (s_l1In _ _ _ _).mono ?_; rintro e w' ⟨rfl, rfl⟩)
      go_ret
      exact ⟨_, _, _, rfl, by rw [HP.out]; exact BS.mono (BS.new' (w.alloc (.cells #[.int .i64 5, .int .i64 n, .int .i64 x, .string s, .slice eA en ec] 28)) (w.heap.size + 1) (by simp)) (Nat.le_succ _), k2⟩
  by_cases h4 : k = 4
  · subst h4
    have hfb : fltBits n x ≤ 9223372036854775807 := by
      unfold fltBits
      split
      · rename_i h
        have := fltOk_bounds h
        split <;> omega
      · omega
    have HP := Lib.hid (show tightGo false false 4 n x s l.length (l.map (tightT false false)) = headP false 7 (fltBits n x) 4 from rfl)
    have k2 := Below.two w (.cells #[.int .i64 4, .int .i64 n, .int .i64 x, .string s, .slice eA en ec] 28) (.cells #[] 5)
    go_enter Tryz.func21, Tryz.ntmps21
    go_wp2_with (first | (go_at_call 40; refine (s_l1In _ _ _ _).mono ?_; rintro e w' ⟨rfl, rfl⟩) | (go_at_call 42; refine (s_FltBits _ _ _ hx9.2).mono ?_; rintro r wf ⟨rfl, hbf⟩; replace k2 := k2.up hbf) | (go_at_call 39; refine (s_PutHead2 (nilSl _ _) (Nat.zero_le _) (by decide) (by omega)).mono ?_; rintro r w4 ⟨A4, n4, c4, rfl, h4, hb4⟩; rw [List.nil_append] at h4; have k4 := k2.up hb4))
    go_ret
    exact ⟨_, _, _, rfl, by rw [HP.out]; exact h4.mono k2.size, k4⟩
  have f3 : (k == 3) = false := by simpa using h3
  have f7 : (k == 7) = false := by simpa using h7
  have f8 : (k == 8) = false := by simpa using h8
  have f9 : (k == 9) = false := by simpa using h9
  have f10 : (k == 10) = false := by simpa using h10
  have f11 : (k == 11) = false := by simpa using h11
  have f2 : (k == 2) = false := by simpa using h2
  have f1 : (k == 1) = false := by simpa using h1
  have f5 : (k == 5) = false := by simpa using h5
  have f4 : (k == 4) = false := by simpa using h4
  have HP0 : tightGo false false k n x s l.length (l.map (tightT false false)) = [] := by unfold tightGo; rw [if_neg h3, if_neg h8, if_neg h7, if_neg h9, if_neg h10, if_neg h11, if_neg h2, if_neg h1, if_neg h5, if_neg h4]
  clear h3 h7 h8 h9 h10 h11 h2 h1 h5 h4
  have HP := Lib.hid (HP0)
  have k2 := Below.two w (.cells #[.int .i64 k, .int .i64 n, .int .i64 x, .string s, .slice eA en ec] 28) (.cells #[] 5)
  go_enter Tryz.func21, Tryz.ntmps21
  go_wp2_with (go_at_call 40; refine (s_l1In _ _ _ _).mono ?_; rintro e w' ⟨rfl, rfl⟩)
  go_ret
  exact ⟨_, _, _, rfl, by rw [HP.out]; exact BS.mono (BS.new' (w.alloc (.cells #[.int .i64 k, .int .i64 n, .int .i64 x, .string s, .slice eA en ec] 28)) (w.heap.size + 1) (by simp)) (Nat.le_succ _), k2⟩
end Go.Proofs.YtmelnaidjgpclaaGreatDoor

namespace Go.Proofs.YtmelnaidjgpclaaGreatDoor
open Go.RowKit

/-- a is less than b. -/
def ltB (a b : List UInt8) : Bool := decide (Lib.compareBytes a b < 0)

theorem run_loadBytes_u8 {P : Program} (w : World) : ∀ (l : List UInt8) (a : Addr) (acc : ByteArray), (∀ j x, l[j]? = some x → w.cell? (a.add j) = some (.int .u8 x.toNat)) →
    (Extern.Bytes.loadBytes a l.length acc).run P w = .ok ⟨acc.data ++ l.toArray⟩ w
  | [], a, acc, _ => by simp [Extern.Bytes.loadBytes]
  | x :: l, a, acc, h => by
    have h0 : w.cell? a = some (.int .u8 x.toNat) := by
      have := h 0 x rfl
      simpa [Addr.add] using this
    have ih := run_loadBytes_u8 (P := P) w l (a.add 1) (acc.push x) (fun j y hy => by
      have := h (j + 1) y (by simpa using hy)
      have e : (a.add 1).add j = a.add (j + 1) := by
        unfold Addr.add
        by_cases hj : j = 0
        · subst hj; simp
        · simp [hj]; omega
      rw [e]; exact this)
    have hx : ((x.toNat : Int).toNat).toUInt8 = x := by simp
    simp only [List.length_cons, Extern.Bytes.loadBytes, Sem.run_bind, run_load, h0, Result.andThen, hx]
    rw [ih]
    congr 1
    apply ByteArray.ext
    simp [ByteArray.push]
theorem run_bytesOf_sl {P : Program} {w : World} {B n c : Nat} {A : Option Addr} {b : List UInt8} (h : Sl w B 1 A n c (u8s b)) :
    (Extern.Bytes.bytesOf (.slice A n c)).run P w = .ok ⟨b.toArray⟩ w := by
  have hl := h.blen
  by_cases hn : 0 < n
  · obtain ⟨g, o, rfl, _, hc⟩ := h.at_ hn
    have hr := run_loadBytes_u8 (P := P) w b ⟨g, o, none⟩ .empty (fun j x hj => by
      have e : (⟨g, o, none⟩ : Addr).add j = ⟨g, o + j, none⟩ := by unfold Addr.add; split <;> simp_all
      rw [e]
      exact hc j _ (by simp [u8s, hj]))
    rw [hl] at hr
    simp only [Extern.Bytes.bytesOf]
    rw [hr]
    congr 1
    apply ByteArray.ext
    show (#[] : Array UInt8) ++ b.toArray = b.toArray
    simp
  · have hn0 : n = 0 := by omega
    subst hn0
    have hb : b = [] := List.eq_nil_of_length_eq_zero hl
    subst hb
    cases A with
    | none => rfl
    | some a => rfl
theorem run_compare_sl {P : Program} {w : World} {B n1 c1 n2 c2 : Nat} {A1 A2 : Option Addr} {b1 b2 : List UInt8} (h1 : Sl w B 1 A1 n1 c1 (u8s b1)) (h2 : Sl w B 1 A2 n2 c2 (u8s b2)) :
    (Extern.BytealgCompare.compare #[.slice A1 n1 c1, .slice A2 n2 c2]).run P w = .ok (.int .i64 (Lib.compareBytes b1 b2)) w := by
  change Sem.run P (do pure (goInt (Extern.BytealgCompare.cmp (← Extern.Bytes.bytesOf (.slice A1 n1 c1)) (← Extern.Bytes.bytesOf (.slice A2 n2 c2))))) w = _
  simp only [Sem.run_bind, run_bytesOf_sl h1, run_bytesOf_sl h2, Sem.run_pure, Result.andThen]
  rw [Lib.cmp_eq]
  rfl
theorem g_bytesCompare (A1 : Option Addr) (n1 c1 : Nat) (b1 : List UInt8) (A2 : Option Addr) (n2 c2 : Nat) (b2 : List UInt8) (w : World) (B : Nat) (h1 : Sl w B 1 A1 n1 c1 (u8s b1)) (h2 : Sl w B 1 A2 n2 c2 (u8s b2)) :
    Calls Tryz.prog 117 #[.slice A1 n1 c1, .slice A2 n2 c2] w fun e w' => e = .returned (.int .i64 (Lib.compareBytes b1 b2)) ∧ w = w' := by
  go_enter Tryz.func117, Tryz.ntmps117
  go_wp2_with fail
  rw [run_callFunc_extern Tryz.func138 (by kernel_rfl) (by kernel_rfl) (by kernel_rfl) (e := Extern.BytealgCompare.compare) (by kernel_rfl), run_compare_sl h1 h2]
  simp only [Result.andThen]
  rw [Oper.upon_value]
  go_wp2
  go_ret
  exact ⟨rfl, rfl⟩
theorem i_LessBytes (A1 : Option Addr) (n1 c1 : Nat) (b1 : List UInt8) (A2 : Option Addr) (n2 c2 : Nat) (b2 : List UInt8) (w : World) (B : Nat) (h1 : Sl w B 1 A1 n1 c1 (u8s b1)) (h2 : Sl w B 1 A2 n2 c2 (u8s b2)) :
    Calls Tryz.prog 84 #[.slice A1 n1 c1, .slice A2 n2 c2] w fun e w' => e = .returned (.bool (ltB b1 b2)) ∧ w = w' := by
  by_cases hc : Lib.compareBytes b1 b2 < 0
  all_goals
    go_enter Tryz.func84, Tryz.ntmps84
    go_wp2_with (go_at_call 117; refine (g_bytesCompare _ _ _ _ _ _ _ _ _ _ h1 h2).mono ?_; rintro e w' ⟨rfl, rfl⟩)
    go_ret
    exact ⟨ret_bool (by simp [ltB, hc]), rfl⟩
theorem ltB_step {a b : List UInt8} {k : Nat} (ha : k < a.length) (hb : k < b.length) :
    ltB (a.drop k) (b.drop k) = if a[k] = b[k] then ltB (a.drop (k + 1)) (b.drop (k + 1)) else decide ((a[k].toNat : Int) < (b[k].toNat : Int)) := by
  rw [List.drop_eq_getElem_cons ha, List.drop_eq_getElem_cons hb]
  unfold ltB
  rw [Lib.compareBytes]
  by_cases h : a[k] = b[k]
  · rw [h, if_pos rfl, if_neg (UInt8.lt_irrefl _), if_neg (UInt8.lt_irrefl _)]
  · rw [if_neg h]
    by_cases h2 : a[k] < b[k]
    · rw [if_pos h2]
      have : (a[k].toNat : Int) < (b[k].toNat : Int) := by have := UInt8.lt_iff_toNat_lt.1 h2; omega
      simp [this]
    · rw [if_neg h2]
      have h3 : b[k] < a[k] := UInt8.lt_of_le_of_ne (UInt8.not_lt.1 h2) (Ne.symm h)
      rw [if_pos h3]
      have : ¬ (a[k].toNat : Int) < (b[k].toNat : Int) := by have := UInt8.lt_iff_toNat_lt.1 h3; omega
      simp [this]
theorem ltB_end {a b : List UInt8} {k : Nat} (h : k = a.length ∨ k = b.length) (ha : k ≤ a.length) (hb : k ≤ b.length) : ltB (a.drop k) (b.drop k) = decide ((a.length : Int) < b.length) := by
  rcases h with h | h
  · rw [List.drop_of_length_le (by omega)]
    by_cases hk : k < b.length
    · rw [List.drop_eq_getElem_cons hk]
      have : (a.length : Int) < b.length := by omega
      simp [ltB, Lib.compareBytes, this]
    · rw [List.drop_of_length_le (by omega)]
      have : ¬ (a.length : Int) < b.length := by omega
      simp [ltB, Lib.compareBytes, this]
  · rw [List.drop_of_length_le (l := b) (by omega)]
    have hn : ¬ (a.length : Int) < b.length := by omega
    by_cases hk : k < a.length
    · rw [List.drop_eq_getElem_cons hk]
      simp [ltB, Lib.compareBytes, hn]
    · rw [List.drop_of_length_le (by omega)]
      simp [ltB, Lib.compareBytes, hn]
set_option maxHeartbeats 800000 in
theorem s_LessBytes (A1 : Option Addr) (n1 c1 : Nat) (b1 : List UInt8) (A2 : Option Addr) (n2 c2 : Nat) (b2 : List UInt8) (w : World) (B : Nat) (h1 : Sl w B 1 A1 n1 c1 (u8s b1)) (h2 : Sl w B 1 A2 n2 c2 (u8s b2)) :
    Calls Tryz.prog 110 #[.slice A1 n1 c1, .slice A2 n2 c2] w fun e w' => e = .returned (.bool (ltB b1 b2)) ∧ Drawn w w' := by
  have l1 := h1.blen
  have l2 := h2.blen
  have m1 := h1.cap
  have m2 := h1.max
  unfold maxLen at m2
  go_enter Tryz.func110, Tryz.ntmps110
  go_wp2
  go_loopw [5] (fun i wr => ∃ k : Nat, k ≤ n1 ∧ k ≤ n2 ∧ i = .int .i64 k ∧ ltB (b1.drop k) (b2.drop k) = ltB b1 b2 ∧ Drawn w wr) (fun i _ => n1 - (intOf i).toNat)
  case atStart => exact ⟨0, Nat.zero_le _, Nat.zero_le _, rfl, rfl, Drawn.refl _⟩
  case round =>
    obtain ⟨k, hk, hk2, rfl, HE, hd⟩ := hrel
    have he := Lib.hid HE; clear HE
    by_cases hlt : k < n1 ∧ k < n2
    · obtain ⟨hlt1, hlt2⟩ := hlt
      obtain ⟨g, o, rfl, hg, hkb, hc⟩ := (hd.sl h1).byte hlt1
      obtain ⟨g', o', rfl, hg', hkb', hc'⟩ := (hd.sl h2).byte hlt2
      by_cases hcc : b1[k] = b2[k]
      · have hne : ((b1[k].toNat : Int) != (b2[k].toNat : Int)) = false := by rw [hcc]; simp
        have hcc' := Lib.hid hcc; clear hcc
        go_wp2
        go_quiet (fail)
        go_wp2
        go_roundw
        case rel => exact ⟨k + 1, by omega, by omega, by go_num, by rw [← he.out, ltB_step hkb hkb', if_pos hcc'.out], hd.drewN _⟩
        case measure => simp [intOf]; omega
      · have hne : ((b1[k].toNat : Int) != (b2[k].toNat : Int)) = true := by
          simp only [bne_iff_ne, ne_eq, Int.natCast_inj]; exact fun e => hcc (UInt8.toNat_inj.1 e)
        have hcc' := Lib.hid hcc; clear hcc
        by_cases hll : (b1[k].toNat : Int) < (b2[k].toNat : Int)
        all_goals
          go_wp2
          go_quiet (fail)
          go_wp2
          go_quiet (fail)
          go_wp2
          go_ret
          exact ⟨ret_bool (by rw [← he.out, ltB_step hkb hkb', if_neg hcc'.out]; simp [hll]), (hd.drewN _).drewN _⟩
    · by_cases hlt1 : k < n1
      all_goals
        go_wp2
        go_ret
        refine ⟨ret_bool ?_, hd⟩
        have e9 : ltB b1 b2 = decide ((n1 : Int) < n2) := by rw [← he.out, ltB_end (by omega) (by omega) (by omega), l1, l2]
        rw [e9]
        first | done | (simp; done) | (simp; omega)
end Go.Proofs.YtmelnaidjgpclaaGreatDoor

namespace Go.Proofs.YtmelnaidjgpclaaGreatDoor
open Go.RowKit

abbrev BoxVV (w0 : World) (g1 : Nat) (a : Tr) (ea : El) (g2 : Nat) (b : Tr) (eb : El) (w' : World) : Prop := (BoxV w' g1 a ea ∧ BoxV w' g2 b eb) ∧ Below w0.heap.size w0 w'
theorem boxVV {w0 w' : World} {g1 g2 : Nat} {T1 T2 : TypeId} {a b : Tr} {ea eb : El} (h1 : Blk w0 g1 T1 (valCells a ea)) (h2 : Blk w0 g2 T2 (valCells b eb)) (hb : Below w0.heap.size w0 w') : BoxVV w0 g1 a ea g2 b eb w' :=
  ⟨⟨(h1.below hb h1.lt).boxV, (h2.below hb h2.lt).boxV⟩, hb⟩
set_option maxHeartbeats 1600000 in
theorem i_LessTight (a b : Tr) (ea eb : El) (w : World) (hwa : a.wf) (hwb : b.wf) (hla : LsAt w a.l ea) (hlb : LsAt w b.l eb) (hea : ea.lt w.heap.size) (heb : eb.lt w.heap.size) (hma : a.sz ≤ 1048576) (hmb : b.sz ≤ 1048576) :
    Calls Tryz.prog 49 #[trV a ea, trV b eb] w fun r w' => r = .returned (.bool (ltB (tightT false false a) (tightT false false b))) ∧ Below w.heap.size w w' := by
  have k2 := Below.two w (.cells (valCells a ea) 28) (.cells (valCells b eb) 28)
  have B1 : Blk ((w.alloc (.cells (valCells a ea) 28)).alloc (.cells (valCells b eb) 28)) w.heap.size 28 (valCells a ea) := (Blk.new w _ _).alloc _
  have B2 : Blk ((w.alloc (.cells (valCells a ea) 28)).alloc (.cells (valCells b eb) 28)) (w.heap.size + 1) 28 (valCells b eb) := by simpa using Blk.new (w.alloc (.cells (valCells a ea) 28)) 28 (valCells b eb)
  have hS0 := fun (w' : World) (hb : Below ((w.alloc (.cells (valCells a ea) 28)).alloc (.cells (valCells b eb) 28)).heap.size ((w.alloc (.cells (valCells a ea) 28)).alloc (.cells (valCells b eb) 28)) w') => boxVV B1 B2 hb
  have hS2 := fun (w' w'' : World) (h : BoxVV ((w.alloc (.cells (valCells a ea) 28)).alloc (.cells (valCells b eb) 28)) w.heap.size a ea (w.heap.size + 1) b eb w') (hb : Below w'.heap.size w' w'') => hS0 w'' (h.2.up hb)
  have hA := fun (w' : World) (h : BoxVV ((w.alloc (.cells (valCells a ea) 28)).alloc (.cells (valCells b eb) 28)) w.heap.size a ea (w.heap.size + 1) b eb w') => i_PackTight a ea w' hwa (hla.below hea (k2.trans (h.2.mono k2.size))) (hea.mono (Nat.le_trans k2.size h.2.size)) hma
  have hB := fun (w' : World) (h : BoxVV ((w.alloc (.cells (valCells a ea) 28)).alloc (.cells (valCells b eb) 28)) w.heap.size a ea (w.heap.size + 1) b eb w') => i_PackTight b eb w' hwb (hlb.below heb (k2.trans (h.2.mono k2.size))) (heb.mono (Nat.le_trans k2.size h.2.size)) hmb
  clear B1 B2
  go_enter Tryz.func49, Tryz.ntmps49
  go_wp2_with fail
  go_region_held3 (fun w' => BoxVV ((w.alloc (.cells (valCells a ea) 28)).alloc (.cells (valCells b eb) 28)) w.heap.size a ea (w.heap.size + 1) b eb w')
    (first | exact hS0 _ (Below.refl _ _).drew | (refine hS2 _ _ ?_ hbA; assumption) | (refine hS2 _ _ ?_ hbB; assumption) | (refine hS2 _ _ ?_ hbC; assumption))
    (first
      | (go_at_call 24; have hq := h6; clear hq; refine (hB _ (by assumption)).mono ?_; rintro r w8 ⟨A8, n8, c8, rfl, h8, hbB⟩; replace h6 := h6.below hbB)
      | (go_at_call 24; refine (hA _ (by assumption)).mono ?_; rintro r w6 ⟨A6, n6, c6, rfl, h6, hbA⟩)
      | (go_at_call 84; refine (i_LessBytes _ _ _ _ _ _ _ _ w8 w8.heap.size h6.sl h8.sl).mono ?_; rintro r w9 ⟨rfl, rfl⟩; have hbC := Below.refl w8.heap.size w8))
  rename_i hHeld
  have kb := k2.trans (hHeld.2.mono k2.size)
  clear hS0 hS2 hA hB hHeld
  go_wp2_with fail
  go_ret
  exact ⟨rfl, kb⟩
set_option maxHeartbeats 1600000 in
theorem s_LessTight (a b : Tr) (ea eb : El) (w : World) (hwa : a.wf) (hwb : b.wf) (hla : LsAt w a.l ea) (hlb : LsAt w b.l eb) (hea : ea.lt w.heap.size) (heb : eb.lt w.heap.size) (hma : a.sz ≤ 1048576) (hmb : b.sz ≤ 1048576) :
    Calls Tryz.prog 72 #[trV a ea, trV b eb] w fun r w' => r = .returned (.bool (ltB (tightT false false a) (tightT false false b))) ∧ Below w.heap.size w w' := by
  have k2 := Below.two w (.cells (valCells a ea) 28) (.cells (valCells b eb) 28)
  have B1 : Blk ((w.alloc (.cells (valCells a ea) 28)).alloc (.cells (valCells b eb) 28)) w.heap.size 28 (valCells a ea) := (Blk.new w _ _).alloc _
  have B2 : Blk ((w.alloc (.cells (valCells a ea) 28)).alloc (.cells (valCells b eb) 28)) (w.heap.size + 1) 28 (valCells b eb) := by simpa using Blk.new (w.alloc (.cells (valCells a ea) 28)) 28 (valCells b eb)
  have hS0 := fun (w' : World) (hb : Below ((w.alloc (.cells (valCells a ea) 28)).alloc (.cells (valCells b eb) 28)).heap.size ((w.alloc (.cells (valCells a ea) 28)).alloc (.cells (valCells b eb) 28)) w') => boxVV B1 B2 hb
  have hS2 := fun (w' w'' : World) (h : BoxVV ((w.alloc (.cells (valCells a ea) 28)).alloc (.cells (valCells b eb) 28)) w.heap.size a ea (w.heap.size + 1) b eb w') (hb : Below w'.heap.size w' w'') => hS0 w'' (h.2.up hb)
  have hA := fun (w' : World) (h : BoxVV ((w.alloc (.cells (valCells a ea) 28)).alloc (.cells (valCells b eb) 28)) w.heap.size a ea (w.heap.size + 1) b eb w') => s_PackTight a ea w' hwa (hla.below hea (k2.trans (h.2.mono k2.size))) (hea.mono (Nat.le_trans k2.size h.2.size)) hma
  have hB := fun (w' : World) (h : BoxVV ((w.alloc (.cells (valCells a ea) 28)).alloc (.cells (valCells b eb) 28)) w.heap.size a ea (w.heap.size + 1) b eb w') => s_PackTight b eb w' hwb (hlb.below heb (k2.trans (h.2.mono k2.size))) (heb.mono (Nat.le_trans k2.size h.2.size)) hmb
  clear B1 B2
  go_enter Tryz.func72, Tryz.ntmps72
  go_wp2_with fail
  go_region_held3 (fun w' => BoxVV ((w.alloc (.cells (valCells a ea) 28)).alloc (.cells (valCells b eb) 28)) w.heap.size a ea (w.heap.size + 1) b eb w')
    (first | exact hS0 _ (Below.refl _ _).drew | (refine hS2 _ _ ?_ hbA; assumption) | (refine hS2 _ _ ?_ hbB; assumption) | (refine hS2 _ _ ?_ hbC; assumption))
    (first
      | (go_at_call 21; have hq := h6; clear hq; refine (hB _ (by assumption)).mono ?_; rintro r w8 ⟨A8, n8, c8, rfl, h8, hbB⟩; replace h6 := h6.below hbB)
      | (go_at_call 21; refine (hA _ (by assumption)).mono ?_; rintro r w6 ⟨A6, n6, c6, rfl, h6, hbA⟩)
      | (go_at_call 110; refine (s_LessBytes _ _ _ _ _ _ _ _ w8 w8.heap.size h6.sl h8.sl).mono ?_; rintro r w9 ⟨rfl, hd9⟩; have hbC := hd9.below w8.heap.size))
  rename_i hHeld
  have kb := k2.trans (hHeld.2.mono k2.size)
  clear hS0 hS2 hA hB hHeld
  go_wp2_with fail
  go_ret
  exact ⟨rfl, kb⟩
end Go.Proofs.YtmelnaidjgpclaaGreatDoor

namespace Go.Proofs.YtmelnaidjgpclaaGreatDoor
open Go.RowKit

noncomputable def lessB (a b : Tr) : Bool := ltB (tightT false false a) (tightT false false b)
/-- Each is less than the next one. -/
noncomputable def ordF : List Tr → Bool
  | a :: b :: r => lessB a b && ordF (b :: r)
  | _ => true
theorem ordF_step {l : List Tr} {j : Nat} (h : j + 1 < l.length) : ordF (l.drop j) = (lessB l[j] l[j + 1] && ordF (l.drop (j + 1))) := by
  rw [List.drop_eq_getElem_cons (show j < l.length by omega), List.drop_eq_getElem_cons h]
  rfl
theorem ordF_end {l : List Tr} {j : Nat} (h : l.length ≤ j + 1) : ordF (l.drop j) = true := by
  rcases Nat.lt_or_ge j l.length with h1 | h1
  · rw [List.drop_eq_getElem_cons h1, List.drop_eq_nil_of_le h]; rfl
  · rw [List.drop_eq_nil_of_le h1]; rfl
noncomputable def fitTightB (t : Tr) : Bool := ordF (namesT t) && !(t.k == 6)
theorem namesT_kid {t u : Tr} (h : Fit t) (hu : u ∈ namesT t) : Fit u := h.kid (names_kid hu)
set_option maxHeartbeats 4000000 in
theorem i_FitsTight1 (t : Tr) (e : El) (w : World) (hF : Fit t) (hl : LsAt w t.l e) (hel : e.lt w.heap.size) (hT : TabUP w) :
    Calls Tryz.prog 47 #[trV t e] w fun r w' => r = .returned (.bool (fitTightB t)) ∧ Below w.heap.size w w' := by
  have kb := Below.one w (.cells (valCells t e) 28)
  have hB := Blk.new w 28 (valCells t e)
  have hnm := i_names t e _ hF (hl.below hel kb) (hel.mono kb.size)
  have hfk := fun u (hu : u ∈ namesT t) => namesT_kid hF hu
  have hnl := names_len t
  have hln := hF.len
  have hfb : fitTightB t = (ordF (namesT t) && !(t.k == 6)) := rfl
  rw [hfb]
  clear hfb
  obtain ⟨m, hm⟩ : ∃ m, namesT t = m := ⟨_, rfl⟩
  rw [hm] at hnm hnl hfk ⊢
  have HV0 : Hid (ordF m = ordF (m.drop 0)) := Lib.hid (by rw [List.drop_zero])
  clear hm hl hF hel
  go_enter Tryz.func47, Tryz.ntmps47
  go_wp2_with (go_at_call 48; refine hnm.mono ?_; rintro r w1 ⟨⟨A, n, c, fp⟩, rfl, h1, h2, hb1⟩)
  have hmn : m.length = n := h1.len
  have kb1 := kb.up hb1
  have hB1 := hB.below hb1 hB.lt
  have hB1l := hB1.lt
  clear hnm hB
  go_loopg [4] n (fun f v4 wr => ∃ (j : Nat) (z : Int), n ≤ j + 1 + f ∧ j ≤ n ∧ z = j + 1 ∧ v4 = .int .i64 z ∧ Hid (ordF m = ordF (m.drop j)) ∧ Below w1.heap.size w1 wr)
  case atStart => exact ⟨0, 1, by omega, by omega, rfl, rfl, HV0, Below.refl _ _⟩
  case round =>
    obtain ⟨j, z, hjf, hjn, hz, rfl, hH, hbr⟩ := hrel
    have HZ := Lib.hid hz
    clear HV0
    by_cases hlt : j + 1 < n
    · obtain ⟨f, rfl⟩ : ∃ f, gk = f + 1 := ⟨gk - 1, by omega⟩
      obtain ⟨g, o, u, hj, hAe, hgm, hx1, hch1, hsub1⟩ := (h1.below h2 hbr).elem (j := j) (by show j < n; omega)
      have hAe : A = some ⟨g, o, none⟩ := hAe
      subst hAe
      obtain ⟨g', o', v, hi, hAe', hgm', hx2, hch2, hsub2⟩ := (h1.below h2 hbr).elem (j := j + 1) (by show j + 1 < n; omega)
      simp only [Option.some.injEq, Addr.mk.injEq, and_true] at hAe'
      obtain ⟨rfl, rfl⟩ := hAe'
      have hG : g < w1.heap.size := h2 g hgm
      have hU1 : u.lt w1.heap.size := fun y hy => h2 y (hsub1 y hy)
      have hU2 : v.lt w1.heap.size := fun y hy => h2 y (hsub2 y hy)
      have hS : OnceHeld w1 g (o + j * 5) m[j] u g (o + (j + 1) * 5) m[j + 1] v wr := ⟨hx1, hx2, hch1, hch2, hbr⟩
      have hfj := hfk m[j] (List.getElem_mem hj)
      have hfi := hfk m[j + 1] (List.getElem_mem hi)
      have hcall : ∀ w', OnceHeld w1 g (o + j * 5) m[j] u g (o + (j + 1) * 5) m[j + 1] v w' → Calls Tryz.prog 49 #[.agg #[.int .i64 m[j].k, .int .i64 m[j].n, .int .i64 m[j].x, .string m[j].s, .slice u.A u.n u.c], .agg #[.int .i64 m[j + 1].k, .int .i64 m[j + 1].n, .int .i64 m[j + 1].x, .string m[j + 1].s, .slice v.A v.n v.c]] w' fun r w2 => r = .returned (.bool (lessB m[j] m[j + 1])) ∧ Below w'.heap.size w' w2 :=
        fun w' hs => i_LessTight m[j] m[j + 1] u v w' hfj.1 hfi.1 hs.2.2.1 hs.2.2.2.1 (hU1.mono hs.2.2.2.2.size) (hU2.mono hs.2.2.2.2.size) hfj.2 hfi.2
      have hS2 : ∀ wa wb, Below wa.heap.size wa wb → OnceHeld w1 g (o + j * 5) m[j] u g (o + (j + 1) * 5) m[j + 1] v wa → OnceHeld w1 g (o + j * 5) m[j] u g (o + (j + 1) * 5) m[j + 1] v wb := fun wa wb hb h => once_next hG hG hU1 hU2 hb h
      have hS1 : OnceHeld w1 g (o + j * 5) m[j] u g (o + (j + 1) * 5) m[j + 1] v wr.drew := hS2 _ _ (Below.refl _ _).drew hS
      have hh := hH.out
      rw [ordF_step hi] at hh
      have HH := Lib.hid hh
      have HJF := Lib.hid hjf
      have hjl : j < n := by omega
      have hz0 : 0 ≤ z := by omega
      have hzn : z < (n : Int) := by omega
      have hzn9 : z ≤ 9223372036854775806 := by omega
      have hwr : IntKind.i64.wrap (z - 1) = (j : Int) := by rw [IntKind.wrap_i64]; omega
      have hzt : z.toNat = j + 1 := by omega
      clear hz
      clear hh hH hjf hx1 hx2 hch1 hch2 hbr hfk hfj hfi
      cases hq : lessB m[j] m[j + 1] with
      | false =>
        rw [hq] at hcall HH
        clear hq
        go_wp2_with fail
        go_region_held3 (fun w' => OnceHeld w1 g (o + j * 5) m[j] u g (o + (j + 1) * 5) m[j + 1] v w')
          (first | exact hS1 | (refine hS2 _ _ hb2 ?_; assumption))
          (first | (go_at_call 49; refine (hcall _ (by assumption)).mono ?_; rintro r w2 ⟨rfl, hb2⟩))
        rename_i hHeld
        clear hcall hS1 hS2 hS
        go_wp2
        go_ret
        exact ⟨ret_bool (by rw [HH.out]; rfl), kb1.up hHeld.2.2.2.2⟩
      | true =>
        rw [hq] at hcall HH
        have HH2 : Hid (ordF m = ordF (m.drop (j + 1))) := Lib.hid (by rw [HH.out]; rfl)
        clear hq HH
        go_wp2_with fail
        go_region_held3 (fun w' => OnceHeld w1 g (o + j * 5) m[j] u g (o + (j + 1) * 5) m[j + 1] v w')
          (first | exact hS1 | (refine hS2 _ _ hb2 ?_; assumption))
          (first | (go_at_call 49; refine (hcall _ (by assumption)).mono ?_; rintro r w2 ⟨rfl, hb2⟩))
        rename_i hHeld
        clear hcall hS1 hS2 hS
        go_wp2
        go_roundg f
        case measure => have := HJF.out; omega
        case rel => exact ⟨j + 1, z + 1, by have := HJF.out; omega, by omega, by have := HZ.out; omega, by first | rfl | go_num, HH2, hHeld.2.2.2.2⟩
    · have hh := hH.out
      rw [ordF_end (by omega)] at hh
      have HH := Lib.hid hh
      have hlt2 : ¬ (z < (n : Int)) := by omega
      clear hz
      obtain ⟨q0, q1, q2, q3, q4⟩ := (hB1.below hbr hB1l).boxV
      have h66 : (t.k != 6) = !(t.k == 6) := rfl
      clear hh hH hfk
      go_wp2_with fail
      go_ret
      exact ⟨ret_bool (by rw [HH.out]; simp [bne]), kb1.up hbr⟩
def LtSays (t : Tr) : Prop := Fit t → ∀ (e : El) (w : World), LsAt w t.l e → e.lt w.heap.size → TabUP w →
  Calls Tryz.prog 38 #[trV t e] w fun r w' => r = .returned (.bool (allT fitTightB t)) ∧ Below w.heap.size w w'
set_option maxHeartbeats 8000000 in
theorem s_l13Fits (t : Tr) : LtSays t := by
  refine Tr.ind (P := LtSays) (fun t ih => ?_) t
  intro hF e w hl hel hT
  have hwf := (Tr.wf_iff t).1 hF.1
  have hlen := hF.len
  have hsz := hF.size
  have hv := allT_eq fitTightB t
  have hkid := fun u hu => @Fit.kid t u hF hu
  have hF0 := hF
  obtain ⟨k, n, x, s, l⟩ := t
  obtain ⟨eA, en, ec, efp⟩ := e
  simp only at hwf hlen hsz hv hl ih hkid
  have hen : l.length = en := hl.len
  rw [hen] at hlen
  obtain ⟨hk, hn, hx, _, _⟩ := hwf
  obtain ⟨V, hV⟩ : ∃ V, allT fitTightB ⟨k, n, x, s, l⟩ = V := ⟨_, rfl⟩
  rw [hV] at hv ⊢
  obtain ⟨O, hO⟩ : ∃ O, fitTightB ⟨k, n, x, s, l⟩ = O := ⟨_, rfl⟩
  rw [hO] at hv
  have HO := Lib.hid hO
  have HV : Hid (V = (O && (l.drop 0).all (allT fitTightB))) := Lib.hid (by rw [List.drop_zero]; exact hv)
  have k1 := Below.one w (.cells #[.int .i64 k, .int .i64 n, .int .i64 x, .string s, .slice eA en ec] 28)
  have hB := Blk.new w 28 #[.int .i64 k, .int .i64 n, .int .i64 x, .string s, .slice eA en ec]
  clear hv hV hO
  go_enter Tryz.func38, Tryz.ntmps38
  go_wp2_with fail
  go_loopg [3] en (fun f z wr => ∃ j : Nat, j + f = en ∧ z = .int .i64 j ∧ Hid (V = (O && (l.drop j).all (allT fitTightB))) ∧ Blk wr w.heap.size 28 #[.int .i64 k, .int .i64 n, .int .i64 x, .string s, .slice eA en ec] ∧ Below w.heap.size w wr)
  case atStart => exact ⟨0, by omega, rfl, HV, hB, k1⟩
  case round =>
    obtain ⟨j, hjf, rfl, hH, hBr, hb⟩ := hrel
    clear HV hB k1
    have hz : w.heap.size < wr.heap.size := hBr.lt
    have p0 := hBr.cell 0
    have p1 := hBr.cell 1
    have p2 := hBr.cell 2
    have p3 := hBr.cell 3
    have p4 := hBr.cell 4
    by_cases hlt : j < en
    · obtain ⟨f, rfl⟩ : ∃ f, gk = f + 1 := ⟨gk - 1, by omega⟩
      obtain ⟨g, o, u, hj, hAe, hgm, ⟨c0, c1, c2, c3, c4⟩, hch, hsub⟩ := (hl.below hel hb).elem hlt
      have hAe : eA = some ⟨g, o, none⟩ := hAe
      subst hAe
      have hul : u.lt wr.heap.size := fun y hy => Nat.lt_of_lt_of_le (hel y (hsub y hy)) hb.size
      have hih := ih l[j] (List.getElem_mem hj) (hkid _ (List.getElem_mem hj)) u wr hch hul (hT.below hb)
      have hd : (l.drop j).all (allT fitTightB) = (allT fitTightB l[j] && (l.drop (j + 1)).all (allT fitTightB)) := by rw [List.drop_eq_getElem_cons hj]; rfl
      have hh := hH.out
      rw [hd] at hh
      have HH : Hid (V = (O && (allT fitTightB l[j] && (l.drop (j + 1)).all (allT fitTightB)))) := Lib.hid hh
      clear ih hch hd hh hH hkid hF hF0
      cases hq : allT fitTightB l[j] with
      | false =>
        rw [hq] at hih HH
        clear hq
        go_wp2_with (go_at_call 38; refine hih.mono ?_; rintro r w2 ⟨rfl, hb2⟩)
        go_ret
        exact ⟨ret_bool (by rw [HH.out]; simp), hb.up hb2⟩
      | true =>
        rw [hq] at hih HH
        clear hq
        have HH2 : Hid (V = (O && (l.drop (j + 1)).all (allT fitTightB))) := Lib.hid (by rw [HH.out]; simp)
        clear HH
        go_wp2_with (go_at_call 38; refine hih.mono ?_; rintro r w2 ⟨rfl, hb2⟩)
        go_roundg f
        case measure => omega
        case rel => exact ⟨j + 1, by omega, by go_num, HH2, hBr.below hb2 hz, hb.up hb2⟩
    · have hh := hH.out
      rw [List.drop_eq_nil_of_le (by omega)] at hh
      have hT2 := hT.below hb
      have HV : Hid (V = O) := Lib.hid (by rw [hh]; simp)
      have hl2 := hl.below hel hb
      have hel2 := hel.mono hb.size
      have HL := Lib.hid hl
      have HEL := Lib.hid hel
      clear hh hH hT
      have hjn : ¬ ((j : Int) < (en : Int)) := by omega
      have hV2 := HV.out
      rw [← HO.out] at hV2
      have hfb : fitTightB ⟨k, n, x, s, l⟩ = (ordF (namesT ⟨k, n, x, s, l⟩) && !(k == 6)) := rfl
      have hfk := fun u (hu : u ∈ l) => @Fit.kid ⟨k, n, x, s, l⟩ u hF0 hu
      rw [hfb] at hV2
      clear hfb HO HV hF hF0 hT2
      have h66 : (k != 6) = !(k == 6) := rfl
      obtain ⟨wo, rfl⟩ : ∃ wo : World, wo = wr := ⟨_, rfl⟩
      by_cases h10 : k = 10
      rotate_left
      · have q10 : (k == 10) = false := by simpa using h10
        have hnm : namesT ⟨k, n, x, s, l⟩ = [] := by unfold namesT; rw [if_neg h10]
        rw [hnm] at hV2
        have HV2 : Hid (V = !(k == 6)) := Lib.hid (by rw [hV2]; rfl)
        have hz2 : (2 : Int) < (en : Int) ∨ ¬ (2 : Int) < (en : Int) := by omega
        clear hnm hV2 hfk h10 hl2 hel2
        rcases hz2 with hz2 | hz2
        all_goals
          go_wp2_with fail
          go_loopg [4] 0 (fun f v4 wr => v4 = .int .i64 2 ∧ wr = wo)
          case atStart => exact ⟨rfl, rfl⟩
          case round =>
            obtain ⟨rfl, rfl⟩ := hrel
            go_wp2_with fail
            go_ret
            exact ⟨ret_bool HV2.out.symm, hb⟩
      · subst h10
        have hnm : namesT ⟨10, n, x, s, l⟩ = evens l := rfl
        rw [hnm] at hV2
        have HV2 : Hid (V = ordF ((evens l).drop 0)) := Lib.hid (by rw [hV2, List.drop_zero]; simp)
        have hel3 := evens_len l
        rw [hen] at hel3
        clear hnm hV2 h66
        have hl0 : LsAt w l ⟨eA, en, ec, efp⟩ := HL.out
        have hel0 : (⟨eA, en, ec, efp⟩ : El).lt w.heap.size := HEL.out
        go_wp2_with fail
        go_loopg [4] en (fun f v4 wr => ∃ (j : Nat) (z : Int), en ≤ 2 * j + 1 + f ∧ 2 * j ≤ en + 1 ∧ z = 2 * j + 2 ∧ v4 = .int .i64 z ∧ Hid (V = ordF ((evens l).drop j)) ∧ wr.cell? ⟨w.heap.size, 4, none⟩ = some (.slice eA en ec) ∧ wr.cell? ⟨w.heap.size, 0, none⟩ = some (.int .i64 10) ∧ w.heap.size + 1 ≤ wr.heap.size ∧ Below w.heap.size w wr)
        case atStart => exact ⟨0, 2, by omega, by omega, rfl, rfl, HV2, p4, p0, by omega, hb⟩
        case round =>
          obtain ⟨j, z, hjf, hjn, hzj, rfl, hH, p4', p0', hzs, hbr⟩ := hrel
          have HZ := Lib.hid hzj
          clear HV2 p4 p0 p1 p2 p3 hl2 hel2 hb
          by_cases hlt2 : 2 * j + 2 < en
          · obtain ⟨f, rfl⟩ : ∃ f, gk = f + 1 := ⟨gk - 1, by omega⟩
            obtain ⟨g, o, u, hj, hAe, hgm, hx1, hch1, hsub1⟩ := (hl0.below hel0 hbr).elem (j := 2 * j) (by show 2 * j < en; omega)
            have hAe : eA = some ⟨g, o, none⟩ := hAe
            subst hAe
            obtain ⟨g', o', v, hi, hAe', hgm', hx2, hch2, hsub2⟩ := (hl0.below hel0 hbr).elem (j := 2 * j + 2) (by show 2 * j + 2 < en; omega)
            simp only [Option.some.injEq, Addr.mk.injEq, and_true] at hAe'
            obtain ⟨rfl, rfl⟩ := hAe'
            have hG : g < w.heap.size := hel0 g hgm
            have hU1 : u.lt w.heap.size := fun y hy => hel0 y (hsub1 y hy)
            have hU2 : v.lt w.heap.size := fun y hy => hel0 y (hsub2 y hy)
            have hS : SameHeld w w.heap.size w.heap.size (.slice (some ⟨g, o, none⟩) en ec) (.slice (some ⟨g, o, none⟩) en ec) g (o + 2 * j * 5) l[2 * j] u g (o + (2 * j + 2) * 5) l[2 * j + 2] v wr := ⟨⟨p4', p4'⟩, hx1, hx2, hch1, hch2, hbr⟩
            have hfj := hfk l[2 * j] (List.getElem_mem hj)
            have hfi := hfk l[2 * j + 2] (List.getElem_mem hi)
            have hcall : ∀ w', SameHeld w w.heap.size w.heap.size (.slice (some ⟨g, o, none⟩) en ec) (.slice (some ⟨g, o, none⟩) en ec) g (o + 2 * j * 5) l[2 * j] u g (o + (2 * j + 2) * 5) l[2 * j + 2] v w' → Calls Tryz.prog 72 #[.agg #[.int .i64 l[2 * j].k, .int .i64 l[2 * j].n, .int .i64 l[2 * j].x, .string l[2 * j].s, .slice u.A u.n u.c], .agg #[.int .i64 l[2 * j + 2].k, .int .i64 l[2 * j + 2].n, .int .i64 l[2 * j + 2].x, .string l[2 * j + 2].s, .slice v.A v.n v.c]] w' fun r w2 => r = .returned (.bool (lessB l[2 * j] l[2 * j + 2])) ∧ Below w'.heap.size w' w2 :=
              fun w' hs => s_LessTight l[2 * j] l[2 * j + 2] u v w' hfj.1 hfi.1 hs.2.2.2.1 hs.2.2.2.2.1 (hU1.mono hs.2.2.2.2.2.size) (hU2.mono hs.2.2.2.2.2.size) hfj.2 hfi.2
            have hS2 : ∀ wa wb, Below wa.heap.size wa wb → (SameHeld w w.heap.size w.heap.size (.slice (some ⟨g, o, none⟩) en ec) (.slice (some ⟨g, o, none⟩) en ec) g (o + 2 * j * 5) l[2 * j] u g (o + (2 * j + 2) * 5) l[2 * j + 2] v wa ∧ wa.cell? ⟨w.heap.size, 0, none⟩ = some (.int .i64 10) ∧ w.heap.size + 1 ≤ wa.heap.size) → (SameHeld w w.heap.size w.heap.size (.slice (some ⟨g, o, none⟩) en ec) (.slice (some ⟨g, o, none⟩) en ec) g (o + 2 * j * 5) l[2 * j] u g (o + (2 * j + 2) * 5) l[2 * j + 2] v wb ∧ wb.cell? ⟨w.heap.size, 0, none⟩ = some (.int .i64 10) ∧ w.heap.size + 1 ≤ wb.heap.size) :=
              fun wa wb hb h => ⟨same_next (B := w.heap.size + 1) (by omega) (by omega) hG hG hU1 hU2 h.2.2 hb h.1, (hb.cell (p := ⟨w.heap.size, 0, none⟩) (by show w.heap.size < _; omega)).trans h.2.1, Nat.le_trans h.2.2 hb.size⟩
            have hS1 : SameHeld w w.heap.size w.heap.size (.slice (some ⟨g, o, none⟩) en ec) (.slice (some ⟨g, o, none⟩) en ec) g (o + 2 * j * 5) l[2 * j] u g (o + (2 * j + 2) * 5) l[2 * j + 2] v wr.drew ∧ wr.drew.cell? ⟨w.heap.size, 0, none⟩ = some (.int .i64 10) ∧ w.heap.size + 1 ≤ wr.drew.heap.size := hS2 _ _ (Below.refl _ _).drew ⟨hS, p0', hzs⟩
            have hje : j + 1 < (evens l).length := by omega
            have ev0 : (evens l)[j] = l[2 * j] := by
              have := evens_get l j
              rw [List.getElem?_eq_getElem (by omega), List.getElem?_eq_getElem hj] at this
              exact Option.some.inj this
            have ev1 : (evens l)[j + 1] = l[2 * j + 2] := by
              have := evens_get l (j + 1)
              rw [List.getElem?_eq_getElem hje, show 2 * (j + 1) = 2 * j + 2 by omega, List.getElem?_eq_getElem hi] at this
              exact Option.some.inj this
            have hh := hH.out
            rw [ordF_step hje, ev0, ev1] at hh
            have HH := Lib.hid hh
            have HJF := Lib.hid hjf
            have hjl : 2 * j < en := by omega
            have hz0 : 0 ≤ z := by omega
            have hzn : z < (en : Int) := by omega
            have hzn9 : z ≤ 9223372036854775805 := by omega
            obtain ⟨y, hy⟩ : ∃ y : Int, y = 2 * j := ⟨_, rfl⟩
            have hwr : IntKind.i64.wrap (z - 2) = y := by rw [IntKind.wrap_i64]; omega
            have hyt : y.toNat = 2 * j := by omega
            have hy0 : 0 ≤ y := by omega
            have hyn : y < (en : Int) := by omega
            clear hy
            have hzt : z.toNat = 2 * j + 2 := by omega
            clear hh hH hjf hx1 hx2 hch1 hch2 hbr hfk hfj hfi hzj ev0 ev1 hje ih hkid hl hel hl0 hel0
            cases hq : lessB l[2 * j] l[2 * j + 2] with
            | false =>
              rw [hq] at hcall HH
              clear hq
              go_wp2_with fail
              go_region_held3 (fun w' => SameHeld w w.heap.size w.heap.size (.slice (some ⟨g, o, none⟩) en ec) (.slice (some ⟨g, o, none⟩) en ec) g (o + 2 * j * 5) l[2 * j] u g (o + (2 * j + 2) * 5) l[2 * j + 2] v w' ∧ w'.cell? ⟨w.heap.size, 0, none⟩ = some (.int .i64 10) ∧ w.heap.size + 1 ≤ w'.heap.size)
                (first | exact hS1 | (refine hS2 _ _ hb2 ?_; assumption))
                (first | (go_at_call 72; refine (hcall _ (And.left (by assumption))).mono ?_; rintro r w2 ⟨rfl, hb2⟩))
              rename_i hHeld
              clear hcall hS1 hS2 hS
              go_wp2
              go_ret
              exact ⟨ret_bool (by rw [HH.out]; rfl), hHeld.1.2.2.2.2.2⟩
            | true =>
              rw [hq] at hcall HH
              have HH2 : Hid (V = ordF ((evens l).drop (j + 1))) := Lib.hid (by rw [HH.out]; rfl)
              clear hq HH
              go_wp2_with fail
              go_region_held3 (fun w' => SameHeld w w.heap.size w.heap.size (.slice (some ⟨g, o, none⟩) en ec) (.slice (some ⟨g, o, none⟩) en ec) g (o + 2 * j * 5) l[2 * j] u g (o + (2 * j + 2) * 5) l[2 * j + 2] v w' ∧ w'.cell? ⟨w.heap.size, 0, none⟩ = some (.int .i64 10) ∧ w.heap.size + 1 ≤ w'.heap.size)
                (first | exact hS1 | (refine hS2 _ _ hb2 ?_; assumption))
                (first | (go_at_call 72; refine (hcall _ (And.left (by assumption))).mono ?_; rintro r w2 ⟨rfl, hb2⟩))
              rename_i hHeld
              clear hcall hS1 hS2 hS
              go_wp2
              go_roundg f
              case measure => have := HJF.out; omega
              case rel => exact ⟨j + 1, z + 2, by have := HJF.out; omega, by omega, by have := HZ.out; omega, by first | rfl | go_num, HH2, hHeld.1.1.1, hHeld.2.1, hHeld.2.2, hHeld.1.2.2.2.2.2⟩
          · have hh := hH.out
            rw [ordF_end (by omega)] at hh
            have HH := Lib.hid hh
            have hlt3 : ¬ (z < (en : Int)) := by omega
            clear hh hH hzj
            go_wp2_with fail
            go_ret
            exact ⟨ret_bool HH.out.symm, hbr⟩
theorem enters_FitsTight1 : EntersF 47 := enters_of Tryz.func47 (by kernel_rfl) rfl
noncomputable def fitsTight (t : Tr) : Bool := valOk t && allT fitTightB t
theorem i_FitsTight (t : Tr) (e : El) (w : World) (hF : Fit t) (hl : LsAt w t.l e) (hel : e.lt w.heap.size) (hT : TabUP w) :
    Calls Tryz.prog 23 #[trV t e] w fun r w' => r = .returned (.bool (fitsTight t)) ∧ Below w.heap.size w w' := by
  have kb := Below.one w (.cells (valCells t e) 28)
  have hB := Blk.new w 28 (valCells t e)
  have hv := i_ValOk t e _ hF (hl.below hel kb) (hel.mono kb.size) (hT.below kb)
  have h := fun w2 (hb : Below w.heap.size w w2) => i_every 47 enters_FitsTight1 enters_every1 fitTightB Fit TabUP (fun _ _ h hb => h.below hb) (fun _ _ h hu => h.kid hu) (fun u e w hu hl hel hT => i_FitsTight1 u e w hu hl hel hT) t hF e w2 (hl.below hel hb) (hel.mono hb.size) (hT.below hb)
  unfold fitsTight
  generalize allT fitTightB t = R at h
  cases hq : valOk t with
  | false =>
    rw [hq] at hv
    clear hq h
    go_enter Tryz.func23, Tryz.ntmps23
    go_wp2_with (go_at_call 45; refine hv.mono ?_; rintro r w1 ⟨rfl, hb⟩)
    go_ret
    exact ⟨rfl, kb.up hb⟩
  | true =>
    rw [hq] at hv
    clear hq
    go_enter Tryz.func23, Tryz.ntmps23
    go_wp2_with (first
      | (go_at_call 45; refine hv.mono ?_; rintro r w1 ⟨rfl, hb⟩; obtain ⟨q0, q1, q2, q3, q4⟩ := (hB.below hb hB.lt).boxV)
      | (go_at_call 46; refine (h _ (kb.up hb)).mono ?_; rintro r w2 ⟨rfl, hb2⟩))
    go_ret
    exact ⟨rfl, (kb.up hb).up hb2⟩
theorem s_FitsTight (t : Tr) (e : El) (w : World) (hF : Fit t) (hl : LsAt w t.l e) (hel : e.lt w.heap.size) (hT : TabUP w) :
    Calls Tryz.prog 20 #[trV t e] w fun r w' => r = .returned (.bool (fitsTight t)) ∧ Below w.heap.size w w' := by
  have kb := Below.one w (.cells (valCells t e) 28)
  have hB := Blk.new w 28 (valCells t e)
  have hv := s_ValOk t hF e _ (hl.below hel kb) (hel.mono kb.size) (hT.below kb)
  have h := fun w2 (hb : Below w.heap.size w w2) => s_l13Fits t hF e w2 (hl.below hel hb) (hel.mono hb.size) (hT.below hb)
  unfold fitsTight
  generalize allT fitTightB t = R at h
  cases hq : valOk t with
  | false =>
    rw [hq] at hv
    clear hq h
    go_enter Tryz.func20, Tryz.ntmps20
    go_wp2_with (go_at_call 37; refine hv.mono ?_; rintro r w1 ⟨rfl, hb⟩)
    go_ret
    exact ⟨rfl, kb.up hb⟩
  | true =>
    rw [hq] at hv
    clear hq
    go_enter Tryz.func20, Tryz.ntmps20
    go_wp2_with (first
      | (go_at_call 37; refine hv.mono ?_; rintro r w1 ⟨rfl, hb⟩; obtain ⟨q0, q1, q2, q3, q4⟩ := (hB.below hb hB.lt).boxV)
      | (go_at_call 38; refine (h _ (kb.up hb)).mono ?_; rintro r w2 ⟨rfl, hb2⟩))
    go_ret
    exact ⟨rfl, (kb.up hb).up hb2⟩
end Go.Proofs.YtmelnaidjgpclaaGreatDoor

namespace Go.Proofs.YtmelnaidjgpclaaGreatDoor
open Go.RowKit

noncomputable def writeTightL (t : Tr) : List UInt8 := if fitsTight t = true then tightT false false t else []
theorem writeTightL_len (t : Tr) : (writeTightL t).length ≤ 20 + 20 * t.sz := by
  unfold writeTightL
  split
  · exact tightT_len false false t
  · simp
theorem writeTightL_yes {t : Tr} (h : fitsTight t = true) : writeTightL t = tightT false false t := by unfold writeTightL; rw [if_pos h]
theorem writeTightL_no {t : Tr} (h : fitsTight t = false) : writeTightL t = [] := by unfold writeTightL; rw [h]; rfl
/-- What a writer of bytes says. -/
def WriteTightAt (w w' : World) (b : List UInt8) (r : Ending) : Prop := ∃ A' n' c', r = .returned (.slice A' n' c') ∧ BS w' w.heap.size A' n' c' b ∧ Below w.heap.size w w'
theorem i_WriteTight (t : Tr) (e : El) (w : World) (hF : Fit t) (hl : LsAt w t.l e) (hel : e.lt w.heap.size) (hT : TabUP w) :
    Calls Tryz.prog 14 #[trV t e] w fun r w' => WriteTightAt w w' (writeTightL t) r := by
  have kb := Below.one w (.cells (valCells t e) 28)
  have hB := Blk.new w 28 (valCells t e)
  have hv := i_FitsTight t e _ hF (hl.below hel kb) (hel.mono kb.size) (hT.below kb)
  have hp := fun w2 (hb : Below w.heap.size w w2) => i_PackTight t e w2 hF.1 (hl.below hel hb) (hel.mono hb.size) hF.2
  cases hq : fitsTight t with
  | false =>
    rw [writeTightL_no hq]
    rw [hq] at hv
    clear hp hq
    go_enter Tryz.func14, Tryz.ntmps14
    go_wp2_with (go_at_call 23; refine hv.mono ?_; rintro r w1 ⟨rfl, hb⟩)
    go_ret
    exact ⟨none, 0, 0, rfl, BS.nil_ _ _, kb.up hb⟩
  | true =>
    rw [writeTightL_yes hq]
    rw [hq] at hv
    generalize tightT false false t = b at hp
    clear hq
    go_enter Tryz.func14, Tryz.ntmps14
    go_wp2_with (first
      | (go_at_call 23; refine hv.mono ?_; rintro r w1 ⟨rfl, hb⟩; obtain ⟨q0, q1, q2, q3, q4⟩ := (hB.below hb hB.lt).boxV)
      | (go_at_call 24; refine (hp _ (kb.up hb)).mono ?_; rintro r w2 ⟨A', n', c', rfl, h2, hb2⟩))
    go_ret
    exact ⟨A', n', c', rfl, own_mono h2 (kb.up hb).size, (kb.up hb).up hb2⟩
theorem s_WriteTight (t : Tr) (e : El) (w : World) (hF : Fit t) (hl : LsAt w t.l e) (hel : e.lt w.heap.size) (hT : TabUP w) :
    Calls Tryz.prog 12 #[trV t e] w fun r w' => WriteTightAt w w' (writeTightL t) r := by
  have kb := Below.one w (.cells (valCells t e) 28)
  have hB := Blk.new w 28 (valCells t e)
  have hv := s_FitsTight t e _ hF (hl.below hel kb) (hel.mono kb.size) (hT.below kb)
  have hp := fun w2 (hb : Below w.heap.size w w2) => s_PackTight t e w2 hF.1 (hl.below hel hb) (hel.mono hb.size) hF.2
  cases hq : fitsTight t with
  | false =>
    rw [writeTightL_no hq]
    rw [hq] at hv
    clear hp hq
    go_enter Tryz.func12, Tryz.ntmps12
    go_wp2_with (go_at_call 20; refine hv.mono ?_; rintro r w1 ⟨rfl, hb⟩)
    go_ret
    exact ⟨_, 0, 0, rfl, own_mono (BS.new w1) (kb.up hb).size, (kb.up hb).up (Below.one _ _)⟩
  | true =>
    rw [writeTightL_yes hq]
    rw [hq] at hv
    generalize tightT false false t = b at hp
    clear hq
    go_enter Tryz.func12, Tryz.ntmps12
    go_wp2_with (first
      | (go_at_call 20; refine hv.mono ?_; rintro r w1 ⟨rfl, hb⟩; obtain ⟨q0, q1, q2, q3, q4⟩ := (hB.below hb hB.lt).boxV)
      | (go_at_call 21; refine (hp _ (kb.up hb)).mono ?_; rintro r w2 ⟨A', n', c', rfl, h2, hb2⟩))
    go_ret
    exact ⟨A', n', c', rfl, own_mono h2 (kb.up hb).size, (kb.up hb).up hb2⟩
end Go.Proofs.YtmelnaidjgpclaaGreatDoor

namespace Go.Proofs.YtmelnaidjgpclaaGreatDoor
open Go.RowKit

theorem zeroT_fit : Fit zeroT := ⟨leaf_wf (by decide) (by decide) (by decide) (Nat.zero_le _), by rw [Tr.sz_eq]; decide⟩
theorem readTight_fit {b : List UInt8} (hb : b.length ≤ 1048576) (d : Int) : Fit (readTight b d).1 := by
  unfold readTight
  cases hx : tightR b 0 d with
  | bad c => exact zeroT_fit
  | good t q =>
    simp only
    split
    · have h := ((tVM_good hb _).1 _ _ _ _ hx).2
      exact ⟨h.wf, show t.sz ≤ 1048576 by have h1 := h.sz; have h2 := h.le; omega⟩
    · exact zeroT_fit
abbrev OkBx (w' : World) (bx : Nat) (T : Tr) (u : El) (A : Option Addr) (n c : Nat) (b : List UInt8) : Prop := w'.cell? ⟨bx, 0, none⟩ = some (.int .i64 T.k) ∧ w'.cell? ⟨bx, 1, none⟩ = some (.int .i64 T.n) ∧ w'.cell? ⟨bx, 2, none⟩ = some (.int .i64 T.x) ∧ w'.cell? ⟨bx, 3, none⟩ = some (.string T.s) ∧ w'.cell? ⟨bx, 4, none⟩ = some (.slice u.A u.n u.c) ∧ (convert 22 9 (.slice A n c)).run Tryz.prog w' = .ok (.string ⟨b.toArray⟩) w'
noncomputable def okTight (b : List UInt8) : Bool := decide (0 < b.length) && decide ((readTight b 20).2 = 0) && decide (writeTightL (readTight b 20).1 = b)
set_option maxHeartbeats 8000000 in
theorem i_TightOk (A : Option Addr) (n c : Nat) (b : List UInt8) (w : World) (hs : Sl w w.heap.size 1 A n c (u8s b)) (hn : n ≤ 1048576) (hT : TabUP w) :
    Calls Tryz.prog 7 #[.slice A n c] w fun r w' => r = .returned (.bool (okTight b)) ∧ Below w.heap.size w w' := by
  have hl := hs.blen
  have HR := i_ReadTight A n c b 20 w hs hn (by decide) hT.1
  have hF := readTight_fit (b := b) (by omega) 20
  unfold ReadRes at HR
  unfold okTight
  generalize readTight b 20 = x at HR hF
  obtain ⟨T, kc⟩ := x
  simp only at HR hF ⊢
  have hlen : decide (0 < b.length) = decide (0 < (n : Int)) := by rw [hl]; simp
  rw [hlen]
  have hK : decide (kc = 0) = (kc == 0) := by rw [Bool.eq_iff_iff]; simp
  rw [hK]
  obtain ⟨L, hL⟩ : ∃ L, writeTightL T = L := ⟨_, rfl⟩
  have HW := fun u w1 hl hel hT => i_WriteTight T u w1 hF hl hel hT
  rw [hL] at HW ⊢
  clear hL hF hlen hK
  obtain ⟨R, hR⟩ : ∃ R, (decide (0 < (n : Int)) && (kc == 0) && decide (L = b)) = R := ⟨_, rfl⟩
  rw [hR]
  by_cases hall : 0 < n ∧ kc = 0
  · obtain ⟨h0, rfl⟩ := hall
    have e0 : decide (0 < (n : Int)) = true := decide_eq_true (by omega)
    have e1 : ((0 : Int) == 0) = true := rfl
    rw [e0, e1, Bool.true_and, Bool.true_and] at hR
    have HRR := Lib.hid hR
    clear hR
    go_enter Tryz.func7, Tryz.ntmps7
    go_upto_region 2 with (go_at_call 13; refine HR.mono ?_; rintro r w5 ⟨u, rfl, hl5, ho5, hb5⟩)
    have kx := Below.one w5 (.cells (valCells T u) 28)
    have X6 := Blk.new w5 28 (valCells T u)
    have l6 := hl5.below (fun g hg => ho5.lt hg) kx
    have el6 : u.lt (w5.alloc (.cells (valCells T u) 28)).heap.size := fun g hg => Nat.lt_of_lt_of_le (ho5.lt hg) kx.size
    have K6 := hb5.up kx
    generalize w5.heap.size = bx at X6 ⊢
    change Code.wp _ _ _ _ (w5.alloc (.cells (valCells T u) 28))
    generalize w5.alloc (.cells (valCells T u) 28) = w6 at X6 l6 el6 K6 ⊢
    clear HR hl5 ho5 hb5 kx
    obtain ⟨v0, v1, v2, v3, v4⟩ := X6.boxV
    have s6 := hs.below K6
    have k6d := (Below.refl w6.heap.size w6).drew
    have hW := HW u w6.drew (l6.below el6 k6d) el6 (hT.below (K6.trans (k6d.mono K6.size)))
    have hS0 : ∀ w', Below w6.heap.size w6 w' → OkBx w' bx T u A n c b ∧ Below w6.heap.size w6 w' := fun w' hb => ⟨by
      have hX := X6.below hb X6.lt
      obtain ⟨q0, q1, q2, q3, q4⟩ := hX.boxV
      exact ⟨q0, q1, q2, q3, q4, run_str_sl (P := Tryz.prog) 22 5 Tryz.underlying22 Tryz.underlying5 (hs.below (K6.trans (hb.mono K6.size))) 9 Tryz.underlying9⟩, hb⟩
    have hS1 := hS0 _ k6d
    have hS3 := fun w7 (hb : Below w6.drew.heap.size w6.drew w7) => hS0 w7 (k6d.up hb)
    have hCW := fun (w7 : World) A7 n7 c7 (h7 : BS w7 w6.drew.heap.size A7 n7 c7 L) => run_str_sl (P := Tryz.prog) 22 5 Tryz.underlying22 Tryz.underlying5 h7.sl 9 Tryz.underlying9
    unfold WriteTightAt at hW
    clear hS0 v0 v1 v2 v3 v4 HW
    refine wp_region_held_drew (S := fun w' => OkBx w' bx T u A n c b ∧ Below w6.heap.size w6 w') (by kernel_rfl) hS1 (fun hHeld => ?_)
    refine wpAnyH_take (i := 0) (oi := ?oi0) (v := ?vv0) ?hi0 (by kernel_rfl) (by kernel_rfl) (by kernel_rfl) ?hQ0 (Or.inl ⟨?hw0, ?hy0⟩) (by assumption) ?rest0
    case hi0 => (simp only [List.getElem?_toArray, List.getElem?_cons_succ, List.getElem?_cons_zero]; exact rfl)
    case hQ0 => exact fun _ _ _ h => h
    case hw0 => rfl
    case hy0 => ((intro w hSw; (try dsimp only at hSw); go_simp) <;> (with_reducible rfl))
    simp only [Act.put, List.setIfInBounds_toArray, List.set_cons_zero, List.set_cons_succ]
    refine wpAnyH_take (i := 1) (oi := ?oi1) (v := ?vv1) ?hi1 (by kernel_rfl) (by kernel_rfl) (by kernel_rfl) ?hQ1 (Or.inl ⟨?hw1, ?hy1⟩) (by assumption) ?rest1
    case hi1 => (simp only [List.getElem?_toArray, List.getElem?_cons_succ, List.getElem?_cons_zero]; exact rfl)
    case hQ1 => exact fun _ _ _ h => h
    case hw1 => rfl
    case hy1 => ((intro w hSw; (try dsimp only at hSw); go_simp) <;> (with_reducible rfl))
    simp only [Act.put, List.setIfInBounds_toArray, List.set_cons_zero, List.set_cons_succ]
    refine wpAnyH_take (i := 2) (oi := ?oi2) (v := ?vv2) ?hi2 (by kernel_rfl) (by kernel_rfl) (by kernel_rfl) ?hQ2 (Or.inl ⟨?hw2, ?hy2⟩) (by assumption) ?rest2
    case hi2 => (simp only [List.getElem?_toArray, List.getElem?_cons_succ, List.getElem?_cons_zero]; exact rfl)
    case hQ2 => exact fun _ _ _ h => h
    case hw2 => rfl
    case hy2 => ((intro w hSw; (try dsimp only at hSw); go_simp) <;> (with_reducible rfl))
    simp only [Act.put, List.setIfInBounds_toArray, List.set_cons_zero, List.set_cons_succ]
    refine wpAnyH_take (i := 3) (oi := ?oi3) (v := ?vv3) ?hi3 (by kernel_rfl) (by kernel_rfl) (by kernel_rfl) ?hQ3 (Or.inl ⟨?hw3, ?hy3⟩) (by assumption) ?rest3
    case hi3 => (simp only [List.getElem?_toArray, List.getElem?_cons_succ, List.getElem?_cons_zero]; exact rfl)
    case hQ3 => exact fun _ _ _ h => h
    case hw3 => rfl
    case hy3 => ((intro w hSw; (try dsimp only at hSw); go_simp) <;> (with_reducible rfl))
    simp only [Act.put, List.setIfInBounds_toArray, List.set_cons_zero, List.set_cons_succ]
    refine wpAnyH_take (i := 4) (oi := ?oi4) (v := ?vv4) ?hi4 (by kernel_rfl) (by kernel_rfl) (by kernel_rfl) ?hQ4 (Or.inl ⟨?hw4, ?hy4⟩) (by assumption) ?rest4
    case hi4 => (simp only [List.getElem?_toArray, List.getElem?_cons_succ, List.getElem?_cons_zero]; exact rfl)
    case hQ4 => exact fun _ _ _ h => h
    case hw4 => rfl
    case hy4 => ((intro w hSw; (try dsimp only at hSw); go_simp) <;> (with_reducible rfl))
    simp only [Act.put, List.setIfInBounds_toArray, List.set_cons_zero, List.set_cons_succ]
    refine wpAnyH_take (i := 5) (oi := ?oi5) (v := ?vv5) ?hi5 (by kernel_rfl) (by kernel_rfl) (by kernel_rfl) ?hQ5 (Or.inl ⟨?hw5, ?hy5⟩) (by assumption) ?rest5
    case hi5 => (simp only [List.getElem?_toArray, List.getElem?_cons_succ, List.getElem?_cons_zero]; exact rfl)
    case hQ5 => exact fun _ _ _ h => h
    case hw5 => rfl
    case hy5 => ((intro w hSw; (try dsimp only at hSw); go_simp) <;> (with_reducible rfl))
    simp only [Act.put, List.setIfInBounds_toArray, List.set_cons_zero, List.set_cons_succ]
    refine wpAnyH_take (i := 6) (oi := ?oi6) (v := ?vv6) ?hi6 (by kernel_rfl) (by kernel_rfl) (by kernel_rfl) ?hQ6 (Or.inl ⟨?hw6, ?hy6⟩) (by assumption) ?rest6
    case hi6 => (simp only [List.getElem?_toArray, List.getElem?_cons_succ, List.getElem?_cons_zero]; exact rfl)
    case hQ6 => exact fun _ _ _ h => h
    case hw6 => rfl
    case hy6 => ((intro w hSw; (try dsimp only at hSw); go_simp) <;> (with_reducible rfl))
    simp only [Act.put, List.setIfInBounds_toArray, List.set_cons_zero, List.set_cons_succ]
    refine wpAnyH_take (i := 7) (oi := ?oi7) (v := ?vv7) ?hi7 (by kernel_rfl) (by kernel_rfl) (by kernel_rfl) ?hQ7 (Or.inl ⟨?hw7, ?hy7⟩) (by assumption) ?rest7
    case hi7 => (simp only [List.getElem?_toArray, List.getElem?_cons_succ, List.getElem?_cons_zero]; exact rfl)
    case hQ7 => exact fun _ _ _ h => h
    case hw7 => rfl
    case hy7 => ((intro w hSw; (try dsimp only at hSw); go_simp) <;> (with_reducible rfl))
    simp only [Act.put, List.setIfInBounds_toArray, List.set_cons_zero, List.set_cons_succ]
    refine wpAnyH_take (i := 8) (oi := ?oi8) (v := ?vv8) ?hi8 (by kernel_rfl) (by kernel_rfl) (by kernel_rfl) ?hQ8 (Or.inl ⟨?hw8, ?hy8⟩) (by assumption) ?rest8
    case hi8 => (simp only [List.getElem?_toArray, List.getElem?_cons_succ, List.getElem?_cons_zero]; exact rfl)
    case hQ8 => exact fun _ _ _ h => h
    case hw8 => rfl
    case hy8 => ((intro w hSw; (try dsimp only at hSw); go_simp) <;> (with_reducible rfl))
    simp only [Act.put, List.setIfInBounds_toArray, List.set_cons_zero, List.set_cons_succ]
    refine wpAnyH_take (i := 11) (oi := ?oi11) (v := ?vv11) ?hi11 (by kernel_rfl) (by kernel_rfl) (by kernel_rfl) ?hQ11 (Or.inl ⟨?hw11, ?hy11⟩) (by assumption) ?rest11
    case hi11 => (simp only [List.getElem?_toArray, List.getElem?_cons_succ, List.getElem?_cons_zero]; exact rfl)
    case hQ11 => exact fun _ _ _ h => h
    case hw11 => rfl
    case hy11 => ((intro w hSw; (try dsimp only at hSw); go_simp) <;> (with_reducible rfl))
    simp only [Act.put, List.setIfInBounds_toArray, List.set_cons_zero, List.set_cons_succ]
    refine wpAnyH_take (i := 12) (oi := ?oi12) (v := ?vv12) ?hi12 (by kernel_rfl) (by kernel_rfl) (by kernel_rfl) ?hQ12 (Or.inl ⟨?hw12, ?hy12⟩) (by assumption) ?rest12
    case hi12 => (simp only [List.getElem?_toArray, List.getElem?_cons_succ, List.getElem?_cons_zero]; exact rfl)
    case hQ12 => exact fun _ _ _ h => h
    case hw12 => rfl
    case hy12 => ((intro w hSw; (try dsimp only at hSw); go_simp) <;> (with_reducible rfl))
    simp only [Act.put, List.setIfInBounds_toArray, List.set_cons_zero, List.set_cons_succ]
    refine wpAnyH_ready (rs := [9]) (by kernel_rfl) (by simp) ?_
    refine AllReadyH.cons (o := ?o9) ?ho9 (fun K hK => ?st9) AllReadyH.nil
    case ho9 => (simp only [List.getElem?_toArray, List.getElem?_cons_succ, List.getElem?_cons_zero]; exact rfl)
    go_simp
    go_at_call 14
    with_reducible refine hW.mono ?_
    rintro r w7 ⟨A7, n7, c7, rfl, h7, hb7⟩
    have cw7 := hCW _ _ _ _ h7
    try go_wp2_with fail
    refine hK.out _ _ (hS3 _ hb7) (fun hHeld2 => ?_)
    clear hK K
    try simp only [Act.put, List.setIfInBounds_toArray, List.set_cons_zero, List.set_cons_succ]
    refine wpAnyH_ready (rs := [10]) (by kernel_rfl) (by simp) ?_
    refine AllReadyH.cons (o := ?o10) ?ho10 (fun K hK => ?st10) AllReadyH.nil
    case ho10 => (simp only [List.getElem?_toArray, List.getElem?_cons_succ, List.getElem?_cons_zero]; exact rfl)
    go_simp
    refine hK.out _ _ (hS3 _ hb7) (fun hHeld3 => ?_)
    clear hK K
    try simp only [Act.put, List.setIfInBounds_toArray, List.set_cons_zero, List.set_cons_succ]
    refine wpAnyH_take (i := 13) (oi := ?oi13) (v := ?vv13) ?hi13 (by kernel_rfl) (by kernel_rfl) (by kernel_rfl) ?hQ13 (Or.inl ⟨?hw13, ?hy13⟩) (by assumption) ?rest13
    case hi13 => (simp only [List.getElem?_toArray, List.getElem?_cons_succ, List.getElem?_cons_zero]; exact rfl)
    case hQ13 => exact fun _ _ _ h => h
    case hw13 => rfl
    case hy13 => ((intro w hSw; (try dsimp only at hSw); go_simp) <;> (with_reducible rfl))
    simp only [Act.put, List.setIfInBounds_toArray, List.set_cons_zero, List.set_cons_succ]
    refine wpAnyH_take (i := 14) (oi := ?oi14) (v := ?vv14) ?hi14 (by kernel_rfl) (by kernel_rfl) (by kernel_rfl) ?hQ14 (Or.inl ⟨?hw14, ?hy14⟩) (by assumption) ?rest14
    case hi14 => (simp only [List.getElem?_toArray, List.getElem?_cons_succ, List.getElem?_cons_zero]; exact rfl)
    case hQ14 => exact fun _ _ _ h => h
    case hw14 => rfl
    case hy14 => ((intro w hSw; (try dsimp only at hSw); go_simp) <;> (with_reducible rfl))
    simp only [Act.put, List.setIfInBounds_toArray, List.set_cons_zero, List.set_cons_succ]
    refine wpAnyH_take (i := 15) (oi := ?oi15) (v := ?vv15) ?hi15 (by kernel_rfl) (by kernel_rfl) (by kernel_rfl) ?hQ15 (Or.inl ⟨?hw15, ?hy15⟩) (by assumption) ?rest15
    case hi15 => (simp only [List.getElem?_toArray, List.getElem?_cons_succ, List.getElem?_cons_zero]; exact rfl)
    case hQ15 => exact fun _ _ _ h => h
    case hw15 => rfl
    case hy15 => ((intro w hSw; (try dsimp only at hSw); go_simp) <;> (with_reducible rfl))
    simp only [Act.put, List.setIfInBounds_toArray, List.set_cons_zero, List.set_cons_succ]
    refine wpAnyH_done (by kernel_rfl) ?_ _
    all_goals
      try go_wp2_with fail
      go_ret
      have hbe : (L == b) = R := by rw [← HRR.out, Bool.eq_iff_iff]; simp
      exact ⟨by rw [← hbe]; rfl, K6.trans ((k6d.up hb7).mono K6.size)⟩
  · have hRf : R = false := by
      rw [← hR]
      by_cases h0 : 0 < n
      · have hk : (kc == 0) = false := by simp; exact fun hk => hall ⟨h0, hk⟩
        rw [hk]; simp
      · rw [decide_eq_false (by omega)]; rfl
    subst hRf
    clear hR HW
    by_cases h0 : 0 < n
    · have e0 : decide (0 < (n : Int)) = true := decide_eq_true (by omega)
      have e1 : (kc == 0) = false := by simp; exact fun hk => hall ⟨h0, hk⟩
      go_enter Tryz.func7, Tryz.ntmps7
      go_upto_region 2 with (go_at_call 13; refine HR.mono ?_; rintro r w5 ⟨u, rfl, hl5, ho5, hb5⟩)
      have K6 := hb5.up (Below.one w5 (.cells (valCells T u) 28))
      go_quiet (fail)
      go_wp2_with fail
      go_ret
      exact ⟨rfl, K6.trans ((Below.drewN_ _ _).mono K6.size)⟩
    · have e0 : decide (0 < (n : Int)) = false := decide_eq_false (by omega)
      cases e1 : (kc == 0) with
      | true =>
        go_enter Tryz.func7, Tryz.ntmps7
        go_upto_region 2 with (go_at_call 13; refine HR.mono ?_; rintro r w5 ⟨u, rfl, hl5, ho5, hb5⟩)
        have K6 := hb5.up (Below.one w5 (.cells (valCells T u) 28))
        go_quiet (fail)
        go_wp2_with fail
        go_ret
        exact ⟨rfl, K6.trans ((Below.drewN_ _ _).mono K6.size)⟩
      | false =>
        go_enter Tryz.func7, Tryz.ntmps7
        go_upto_region 2 with (go_at_call 13; refine HR.mono ?_; rintro r w5 ⟨u, rfl, hl5, ho5, hb5⟩)
        have K6 := hb5.up (Below.one w5 (.cells (valCells T u) 28))
        go_quiet (fail)
        go_wp2_with fail
        go_ret
        exact ⟨rfl, K6.trans ((Below.drewN_ _ _).mono K6.size)⟩
set_option maxHeartbeats 8000000 in
theorem s_TightOk (A : Option Addr) (n c : Nat) (b : List UInt8) (w : World) (hs : Sl w w.heap.size 1 A n c (u8s b)) (hn : n ≤ 1048576) (hT : TabUP w) :
    Calls Tryz.prog 5 #[.slice A n c] w fun r w' => r = .returned (.bool (okTight b)) ∧ Below w.heap.size w w' := by
  have hl := hs.blen
  have HR := s_ReadTight A n c b 20 w hs hn (by decide)
  have hF := readTight_fit (b := b) (by omega) 20
  unfold ReadRes at HR
  unfold okTight
  generalize readTight b 20 = x at HR hF
  obtain ⟨T, kc⟩ := x
  simp only at HR hF ⊢
  have hlen : decide (0 < b.length) = decide (0 < (n : Int)) := by rw [hl]; simp
  rw [hlen]
  have hK : decide (kc = 0) = (kc == 0) := by rw [Bool.eq_iff_iff]; simp
  rw [hK]
  obtain ⟨L, hL⟩ : ∃ L, writeTightL T = L := ⟨_, rfl⟩
  have HW := fun u w1 hl hel hT => s_WriteTight T u w1 hF hl hel hT
  rw [hL] at HW ⊢
  clear hL hF hlen hK
  obtain ⟨R, hR⟩ : ∃ R, (decide (0 < (n : Int)) && (kc == 0) && decide (L = b)) = R := ⟨_, rfl⟩
  rw [hR]
  by_cases hall : 0 < n ∧ kc = 0
  · obtain ⟨h0, rfl⟩ := hall
    have e0 : decide (0 < (n : Int)) = true := decide_eq_true (by omega)
    have e1 : ((0 : Int) == 0) = true := rfl
    rw [e0, e1, Bool.true_and, Bool.true_and] at hR
    have HRR := Lib.hid hR
    clear hR
    go_enter Tryz.func5, Tryz.ntmps5
    go_upto_region 2 with (go_at_call 11; refine HR.mono ?_; rintro r w5 ⟨u, rfl, hl5, ho5, hb5⟩)
    have kx := Below.one w5 (.cells (valCells T u) 28)
    have X6 := Blk.new w5 28 (valCells T u)
    have l6 := hl5.below (fun g hg => ho5.lt hg) kx
    have el6 : u.lt (w5.alloc (.cells (valCells T u) 28)).heap.size := fun g hg => Nat.lt_of_lt_of_le (ho5.lt hg) kx.size
    have K6 := hb5.up kx
    generalize w5.heap.size = bx at X6 ⊢
    change Code.wp _ _ _ _ (w5.alloc (.cells (valCells T u) 28))
    generalize w5.alloc (.cells (valCells T u) 28) = w6 at X6 l6 el6 K6 ⊢
    clear HR hl5 ho5 hb5 kx
    obtain ⟨v0, v1, v2, v3, v4⟩ := X6.boxV
    have s6 := hs.below K6
    have k6d := (Below.refl w6.heap.size w6).drew
    have hW := HW u w6.drew (l6.below el6 k6d) el6 (hT.below (K6.trans (k6d.mono K6.size)))
    have hS0 : ∀ w', Below w6.heap.size w6 w' → OkBx w' bx T u A n c b ∧ Below w6.heap.size w6 w' := fun w' hb => ⟨by
      have hX := X6.below hb X6.lt
      obtain ⟨q0, q1, q2, q3, q4⟩ := hX.boxV
      exact ⟨q0, q1, q2, q3, q4, run_str_sl (P := Tryz.prog) 22 5 Tryz.underlying22 Tryz.underlying5 (hs.below (K6.trans (hb.mono K6.size))) 9 Tryz.underlying9⟩, hb⟩
    have hS1 := hS0 _ k6d
    have hS3 := fun w7 (hb : Below w6.drew.heap.size w6.drew w7) => hS0 w7 (k6d.up hb)
    have hCW := fun (w7 : World) A7 n7 c7 (h7 : BS w7 w6.drew.heap.size A7 n7 c7 L) => run_str_sl (P := Tryz.prog) 22 5 Tryz.underlying22 Tryz.underlying5 h7.sl 9 Tryz.underlying9
    unfold WriteTightAt at hW
    clear hS0 v0 v1 v2 v3 v4 HW
    refine wp_region_held_drew (S := fun w' => OkBx w' bx T u A n c b ∧ Below w6.heap.size w6 w') (by kernel_rfl) hS1 (fun hHeld => ?_)
    refine wpAnyH_take (i := 0) (oi := ?oi0) (v := ?vv0) ?hi0 (by kernel_rfl) (by kernel_rfl) (by kernel_rfl) ?hQ0 (Or.inl ⟨?hw0, ?hy0⟩) (by assumption) ?rest0
    case hi0 => (simp only [List.getElem?_toArray, List.getElem?_cons_succ, List.getElem?_cons_zero]; exact rfl)
    case hQ0 => exact fun _ _ _ h => h
    case hw0 => rfl
    case hy0 => ((intro w hSw; (try dsimp only at hSw); go_simp) <;> (with_reducible rfl))
    simp only [Act.put, List.setIfInBounds_toArray, List.set_cons_zero, List.set_cons_succ]
    refine wpAnyH_take (i := 1) (oi := ?oi1) (v := ?vv1) ?hi1 (by kernel_rfl) (by kernel_rfl) (by kernel_rfl) ?hQ1 (Or.inl ⟨?hw1, ?hy1⟩) (by assumption) ?rest1
    case hi1 => (simp only [List.getElem?_toArray, List.getElem?_cons_succ, List.getElem?_cons_zero]; exact rfl)
    case hQ1 => exact fun _ _ _ h => h
    case hw1 => rfl
    case hy1 => ((intro w hSw; (try dsimp only at hSw); go_simp) <;> (with_reducible rfl))
    simp only [Act.put, List.setIfInBounds_toArray, List.set_cons_zero, List.set_cons_succ]
    refine wpAnyH_take (i := 2) (oi := ?oi2) (v := ?vv2) ?hi2 (by kernel_rfl) (by kernel_rfl) (by kernel_rfl) ?hQ2 (Or.inl ⟨?hw2, ?hy2⟩) (by assumption) ?rest2
    case hi2 => (simp only [List.getElem?_toArray, List.getElem?_cons_succ, List.getElem?_cons_zero]; exact rfl)
    case hQ2 => exact fun _ _ _ h => h
    case hw2 => rfl
    case hy2 => ((intro w hSw; (try dsimp only at hSw); go_simp) <;> (with_reducible rfl))
    simp only [Act.put, List.setIfInBounds_toArray, List.set_cons_zero, List.set_cons_succ]
    refine wpAnyH_take (i := 3) (oi := ?oi3) (v := ?vv3) ?hi3 (by kernel_rfl) (by kernel_rfl) (by kernel_rfl) ?hQ3 (Or.inl ⟨?hw3, ?hy3⟩) (by assumption) ?rest3
    case hi3 => (simp only [List.getElem?_toArray, List.getElem?_cons_succ, List.getElem?_cons_zero]; exact rfl)
    case hQ3 => exact fun _ _ _ h => h
    case hw3 => rfl
    case hy3 => ((intro w hSw; (try dsimp only at hSw); go_simp) <;> (with_reducible rfl))
    simp only [Act.put, List.setIfInBounds_toArray, List.set_cons_zero, List.set_cons_succ]
    refine wpAnyH_take (i := 4) (oi := ?oi4) (v := ?vv4) ?hi4 (by kernel_rfl) (by kernel_rfl) (by kernel_rfl) ?hQ4 (Or.inl ⟨?hw4, ?hy4⟩) (by assumption) ?rest4
    case hi4 => (simp only [List.getElem?_toArray, List.getElem?_cons_succ, List.getElem?_cons_zero]; exact rfl)
    case hQ4 => exact fun _ _ _ h => h
    case hw4 => rfl
    case hy4 => ((intro w hSw; (try dsimp only at hSw); go_simp) <;> (with_reducible rfl))
    simp only [Act.put, List.setIfInBounds_toArray, List.set_cons_zero, List.set_cons_succ]
    refine wpAnyH_take (i := 5) (oi := ?oi5) (v := ?vv5) ?hi5 (by kernel_rfl) (by kernel_rfl) (by kernel_rfl) ?hQ5 (Or.inl ⟨?hw5, ?hy5⟩) (by assumption) ?rest5
    case hi5 => (simp only [List.getElem?_toArray, List.getElem?_cons_succ, List.getElem?_cons_zero]; exact rfl)
    case hQ5 => exact fun _ _ _ h => h
    case hw5 => rfl
    case hy5 => ((intro w hSw; (try dsimp only at hSw); go_simp) <;> (with_reducible rfl))
    simp only [Act.put, List.setIfInBounds_toArray, List.set_cons_zero, List.set_cons_succ]
    refine wpAnyH_take (i := 6) (oi := ?oi6) (v := ?vv6) ?hi6 (by kernel_rfl) (by kernel_rfl) (by kernel_rfl) ?hQ6 (Or.inl ⟨?hw6, ?hy6⟩) (by assumption) ?rest6
    case hi6 => (simp only [List.getElem?_toArray, List.getElem?_cons_succ, List.getElem?_cons_zero]; exact rfl)
    case hQ6 => exact fun _ _ _ h => h
    case hw6 => rfl
    case hy6 => ((intro w hSw; (try dsimp only at hSw); go_simp) <;> (with_reducible rfl))
    simp only [Act.put, List.setIfInBounds_toArray, List.set_cons_zero, List.set_cons_succ]
    refine wpAnyH_take (i := 7) (oi := ?oi7) (v := ?vv7) ?hi7 (by kernel_rfl) (by kernel_rfl) (by kernel_rfl) ?hQ7 (Or.inl ⟨?hw7, ?hy7⟩) (by assumption) ?rest7
    case hi7 => (simp only [List.getElem?_toArray, List.getElem?_cons_succ, List.getElem?_cons_zero]; exact rfl)
    case hQ7 => exact fun _ _ _ h => h
    case hw7 => rfl
    case hy7 => ((intro w hSw; (try dsimp only at hSw); go_simp) <;> (with_reducible rfl))
    simp only [Act.put, List.setIfInBounds_toArray, List.set_cons_zero, List.set_cons_succ]
    refine wpAnyH_take (i := 8) (oi := ?oi8) (v := ?vv8) ?hi8 (by kernel_rfl) (by kernel_rfl) (by kernel_rfl) ?hQ8 (Or.inl ⟨?hw8, ?hy8⟩) (by assumption) ?rest8
    case hi8 => (simp only [List.getElem?_toArray, List.getElem?_cons_succ, List.getElem?_cons_zero]; exact rfl)
    case hQ8 => exact fun _ _ _ h => h
    case hw8 => rfl
    case hy8 => ((intro w hSw; (try dsimp only at hSw); go_simp) <;> (with_reducible rfl))
    simp only [Act.put, List.setIfInBounds_toArray, List.set_cons_zero, List.set_cons_succ]
    refine wpAnyH_take (i := 11) (oi := ?oi11) (v := ?vv11) ?hi11 (by kernel_rfl) (by kernel_rfl) (by kernel_rfl) ?hQ11 (Or.inl ⟨?hw11, ?hy11⟩) (by assumption) ?rest11
    case hi11 => (simp only [List.getElem?_toArray, List.getElem?_cons_succ, List.getElem?_cons_zero]; exact rfl)
    case hQ11 => exact fun _ _ _ h => h
    case hw11 => rfl
    case hy11 => ((intro w hSw; (try dsimp only at hSw); go_simp) <;> (with_reducible rfl))
    simp only [Act.put, List.setIfInBounds_toArray, List.set_cons_zero, List.set_cons_succ]
    refine wpAnyH_take (i := 12) (oi := ?oi12) (v := ?vv12) ?hi12 (by kernel_rfl) (by kernel_rfl) (by kernel_rfl) ?hQ12 (Or.inl ⟨?hw12, ?hy12⟩) (by assumption) ?rest12
    case hi12 => (simp only [List.getElem?_toArray, List.getElem?_cons_succ, List.getElem?_cons_zero]; exact rfl)
    case hQ12 => exact fun _ _ _ h => h
    case hw12 => rfl
    case hy12 => ((intro w hSw; (try dsimp only at hSw); go_simp) <;> (with_reducible rfl))
    simp only [Act.put, List.setIfInBounds_toArray, List.set_cons_zero, List.set_cons_succ]
    refine wpAnyH_ready (rs := [9]) (by kernel_rfl) (by simp) ?_
    refine AllReadyH.cons (o := ?o9) ?ho9 (fun K hK => ?st9) AllReadyH.nil
    case ho9 => (simp only [List.getElem?_toArray, List.getElem?_cons_succ, List.getElem?_cons_zero]; exact rfl)
    go_simp
    go_at_call 12
    with_reducible refine hW.mono ?_
    rintro r w7 ⟨A7, n7, c7, rfl, h7, hb7⟩
    have cw7 := hCW _ _ _ _ h7
    try go_wp2_with fail
    refine hK.out _ _ (hS3 _ hb7) (fun hHeld2 => ?_)
    clear hK K
    try simp only [Act.put, List.setIfInBounds_toArray, List.set_cons_zero, List.set_cons_succ]
    refine wpAnyH_ready (rs := [10]) (by kernel_rfl) (by simp) ?_
    refine AllReadyH.cons (o := ?o10) ?ho10 (fun K hK => ?st10) AllReadyH.nil
    case ho10 => (simp only [List.getElem?_toArray, List.getElem?_cons_succ, List.getElem?_cons_zero]; exact rfl)
    go_simp
    refine hK.out _ _ (hS3 _ hb7) (fun hHeld3 => ?_)
    clear hK K
    try simp only [Act.put, List.setIfInBounds_toArray, List.set_cons_zero, List.set_cons_succ]
    refine wpAnyH_take (i := 13) (oi := ?oi13) (v := ?vv13) ?hi13 (by kernel_rfl) (by kernel_rfl) (by kernel_rfl) ?hQ13 (Or.inl ⟨?hw13, ?hy13⟩) (by assumption) ?rest13
    case hi13 => (simp only [List.getElem?_toArray, List.getElem?_cons_succ, List.getElem?_cons_zero]; exact rfl)
    case hQ13 => exact fun _ _ _ h => h
    case hw13 => rfl
    case hy13 => ((intro w hSw; (try dsimp only at hSw); go_simp) <;> (with_reducible rfl))
    simp only [Act.put, List.setIfInBounds_toArray, List.set_cons_zero, List.set_cons_succ]
    refine wpAnyH_take (i := 14) (oi := ?oi14) (v := ?vv14) ?hi14 (by kernel_rfl) (by kernel_rfl) (by kernel_rfl) ?hQ14 (Or.inl ⟨?hw14, ?hy14⟩) (by assumption) ?rest14
    case hi14 => (simp only [List.getElem?_toArray, List.getElem?_cons_succ, List.getElem?_cons_zero]; exact rfl)
    case hQ14 => exact fun _ _ _ h => h
    case hw14 => rfl
    case hy14 => ((intro w hSw; (try dsimp only at hSw); go_simp) <;> (with_reducible rfl))
    simp only [Act.put, List.setIfInBounds_toArray, List.set_cons_zero, List.set_cons_succ]
    refine wpAnyH_take (i := 15) (oi := ?oi15) (v := ?vv15) ?hi15 (by kernel_rfl) (by kernel_rfl) (by kernel_rfl) ?hQ15 (Or.inl ⟨?hw15, ?hy15⟩) (by assumption) ?rest15
    case hi15 => (simp only [List.getElem?_toArray, List.getElem?_cons_succ, List.getElem?_cons_zero]; exact rfl)
    case hQ15 => exact fun _ _ _ h => h
    case hw15 => rfl
    case hy15 => ((intro w hSw; (try dsimp only at hSw); go_simp) <;> (with_reducible rfl))
    simp only [Act.put, List.setIfInBounds_toArray, List.set_cons_zero, List.set_cons_succ]
    refine wpAnyH_done (by kernel_rfl) ?_ _
    all_goals
      try go_wp2_with fail
      go_ret
      have hbe : (L == b) = R := by rw [← HRR.out, Bool.eq_iff_iff]; simp
      exact ⟨by rw [← hbe]; rfl, K6.trans ((k6d.up hb7).mono K6.size)⟩
  · have hRf : R = false := by
      rw [← hR]
      by_cases h0 : 0 < n
      · have hk : (kc == 0) = false := by simp; exact fun hk => hall ⟨h0, hk⟩
        rw [hk]; simp
      · rw [decide_eq_false (by omega)]; rfl
    subst hRf
    clear hR HW
    by_cases h0 : 0 < n
    · have e0 : decide (0 < (n : Int)) = true := decide_eq_true (by omega)
      have e1 : (kc == 0) = false := by simp; exact fun hk => hall ⟨h0, hk⟩
      go_enter Tryz.func5, Tryz.ntmps5
      go_upto_region 2 with (go_at_call 11; refine HR.mono ?_; rintro r w5 ⟨u, rfl, hl5, ho5, hb5⟩)
      have K6 := hb5.up (Below.one w5 (.cells (valCells T u) 28))
      go_quiet (fail)
      go_wp2_with fail
      go_ret
      exact ⟨rfl, K6.trans ((Below.drewN_ _ _).mono K6.size)⟩
    · have e0 : decide (0 < (n : Int)) = false := decide_eq_false (by omega)
      cases e1 : (kc == 0) with
      | true =>
        go_enter Tryz.func5, Tryz.ntmps5
        go_upto_region 2 with (go_at_call 11; refine HR.mono ?_; rintro r w5 ⟨u, rfl, hl5, ho5, hb5⟩)
        have K6 := hb5.up (Below.one w5 (.cells (valCells T u) 28))
        go_quiet (fail)
        go_wp2_with fail
        go_ret
        exact ⟨rfl, K6.trans ((Below.drewN_ _ _).mono K6.size)⟩
      | false =>
        go_enter Tryz.func5, Tryz.ntmps5
        go_upto_region 2 with (go_at_call 11; refine HR.mono ?_; rintro r w5 ⟨u, rfl, hl5, ho5, hb5⟩)
        have K6 := hb5.up (Below.one w5 (.cells (valCells T u) 28))
        go_quiet (fail)
        go_wp2_with fail
        go_ret
        exact ⟨rfl, K6.trans ((Below.drewN_ _ _).mono K6.size)⟩
end Go.Proofs.YtmelnaidjgpclaaGreatDoor

namespace Go.Proofs.YtmelnaidjgpclaaGreatDoor
open Go.RowKit

set_option maxHeartbeats 1600000 in
theorem law_TightOk (A : Option Addr) (n c : Nat) (b : List UInt8) (w : World) (h : Sl w w.heap.size 1 A n c (u8s b)) (hU : Lib.Utf8Tabs 0 1 w) (hP : PowT w) :
    Calls Tryz.prog 3 #[.slice A n c] w fun e' w' => e' = .returned (.bool true) ∧ Below w.heap.size w w' := by
  by_cases hn : n ≤ 1048576
  rotate_left
  · go_enter Tryz.func3, Tryz.ntmps3
    go_wp2_with fail
    go_ret
    exact ⟨rfl, Below.refl _ _⟩
  have hT : TabUP w := ⟨hU, hP⟩
  have hto := fun w1 hb => l_toB A n c b w w1 h hn hb
  have hS := fun A1 c1 lo w1 (h1 : BS w1 lo A1 n c1 b) (hb1 : Below w.heap.size w w1) => s_TightOk A1 n c1 b w1 h1.sl hn (hT.below hb1)
  have hI := fun A1 c1 lo w1 (h1 : BS w1 lo A1 n c1 b) (hb1 : Below w.heap.size w w1) => i_TightOk A1 n c1 b w1 h1.sl hn (hT.below hb1)
  obtain ⟨R, hR⟩ : ∃ R, okTight b = R := ⟨_, rfl⟩
  rw [hR] at hS hI
  clear hR hU hP hT
  have K0 := Below.refl w.heap.size w
  go_enter Tryz.func3, Tryz.ntmps3
  go_wp2_with fail
  refine (hto _ K0).mono ?_; rintro e w1 ⟨A1, c1, rfl, h1, hb1⟩
  have K1 := K0.up hb1
  go_wp2_with fail
  refine (hS _ _ _ _ h1 K1).mono ?_; rintro e w2 ⟨rfl, hb2⟩
  have K2 := K1.up hb2
  clear h1
  go_wp2_with fail
  refine (hto _ K2).mono ?_; rintro e w3 ⟨A3, c3, rfl, h3, hb3⟩
  have K3 := K2.up hb3
  go_wp2_with fail
  refine (hI _ _ _ _ h3 K3).mono ?_; rintro e w4 ⟨rfl, hb4⟩
  have K4 := K3.up hb4
  have h4 := h3.below hb4
  have hRR : (R != R) = false := by simp
  go_wp2_with fail
  refine (hto _ K4).mono ?_; rintro e w6 ⟨A6, c6, rfl, h6, hb6⟩
  have K6 := K4.up hb6
  go_wp2_with fail
  refine (l_eqByteS _ _ _ b _ _ _ b _ _ (h4.below hb6).sl h6.sl).mono ?_; rintro e w7 ⟨rfl, hd7⟩
  go_wp2_with fail
  go_ret
  exact ⟨rfl, K6.up (hd7.below _)⟩
end Go.Proofs.YtmelnaidjgpclaaGreatDoor

namespace Go.Proofs.YtmelnaidjgpclaaGreatDoor
open Go.ChangeShapes Go.WideShapes Go.ChangeAt Go.RowKit

section
variable {H : Type} {enc : TypeId × Value → H} {P : Program} {w : World}
theorem addr_add (a : Addr) (g o j : Nat) (h : a = ⟨g, o, none⟩) : a.add j = ⟨g, o + j, none⟩ := by subst h; unfold Addr.add; split <;> simp_all
/-- A slice, opened: its cells, and what each element reads as. -/
theorem open_sl {t e m : Nat} {fuel : Nat} {v : Value} {x : DataW H × List MemPlace} {B : Nat} (ht : P.underlying t = some (.slice e)) (hm : P.cellsOf e = m) (hm0 : 0 < m)
    (h : DataW.trod enc P w 0 (fun _ => true) true fuel t [v] = some x) (hlt : ∀ p ∈ x.2, p.block < B) :
    ∃ (A : Option Addr) (n c : Nat) (xs : List Value), v = .slice A n c ∧ Sl w B m A n c xs ∧
      ∀ i, i < n → ∃ f y, fuel = f + 1 ∧ DataW.trod enc P w 0 (fun _ => true) true f e ((xs.drop (i * m)).take m) = some y ∧ ∀ p ∈ y.2, p.block < B := by
  rcases DataW.trod_slice ht h with ⟨h1, h2⟩ | ⟨a, len, cap, elems, rest, f, hf, h1, h2, h3, h4, h5, h6, h7, h8, h9⟩
  · simp only [List.cons.injEq, and_true] at h1
    exact ⟨none, 0, 0, [], h1, Sl.nil_ _ _ _, fun i hi => absurd hi (Nat.not_lt_zero i)⟩
  · simp only [List.cons.injEq, and_true] at h1
    rw [hm] at h7 h2
    have hcell : ∀ i, i < len → ∃ cs y, w.cells? 0 (a.add (i * m)) m = some cs ∧ DataW.trod enc P w 0 (fun _ => true) true f e cs = some y ∧ y ∈ elems := by
      intro i hi
      have hk := h7 i hi
      rw [List.getElem?_eq_getElem (by omega)] at hk
      obtain ⟨cs, k1, k2⟩ := Option.bind_eq_some_iff.1 hk
      exact ⟨cs, _, k1, k2, List.getElem_mem _⟩
    have hone : ∀ j, j < len * m → ∃ u, w.cell? (a.add j) = some u := by
      intro j hj
      obtain ⟨cs, y, k1, _⟩ := hcell (j / m) (by rw [Nat.div_lt_iff_lt_mul hm0]; exact hj)
      obtain ⟨_, k2, k3⟩ := World.cells?_some k1
      have := k3 (j % m) (Nat.mod_lt _ hm0)
      rw [Go.Deep.add_add, Nat.mul_comm, Nat.div_add_mod] at this
      exact ⟨cs[j % m]'(by rw [k2]; exact Nat.mod_lt _ hm0), by rw [this, List.getElem?_eq_getElem]⟩
    refine ⟨some a, len, cap, (List.range (len * m)).map fun j => (w.cell? (a.add j)).getD undef, h1, ⟨by simp, h4, h5, fun hn => ?_⟩, fun i hi => ?_⟩
    · obtain ⟨u, hu⟩ := hone 0 (Nat.mul_pos hn hm0)
      have ha : a = ⟨a.block, a.off, none⟩ := by
        cases hs : a.spot with
        | none => rw [← hs]
        | some k =>
          have e0 : a.add 0 = a := by unfold Addr.add; simp
          rw [e0] at hu
          unfold World.cell? at hu
          rw [hs] at hu
          split at hu <;> simp at hu
      refine ⟨a.block, a.off, congrArg some ha, ?_, fun j u hu => ?_⟩
      · have hin : MemPlace.cell a.block (a.off + 0) ∈ x.2 := by
          rw [h2]
          refine List.mem_append_left _ ?_
          unfold MemPlace.row
          refine List.mem_map.2 ⟨0, List.mem_range.2 ?_, rfl⟩
          rw [h6]
          exact Nat.mul_pos (by omega) hm0
        exact hlt _ hin
      · obtain ⟨hj, hj2⟩ := List.getElem?_eq_some_iff.1 hu
        simp only [List.length_map, List.length_range] at hj
        obtain ⟨u', hu'⟩ := hone j hj
        rw [← addr_add a _ _ j ha, hu']
        simp [hu'] at hj2
        rw [hj2]
    · obtain ⟨cs, y, k1, k2, k3⟩ := hcell i hi
      obtain ⟨_, k4, k5⟩ := World.cells?_some k1
      refine ⟨f, y, hf, ?_, fun p hp => hlt p ?_⟩
      · rw [← k2]
        congr 1
        apply List.ext_getElem?
        intro r
        by_cases hr : r < m
        · have hi2 : i * m + r < len * m := by
            have : (i + 1) * m ≤ len * m := Nat.mul_le_mul_right m hi
            rw [Nat.add_mul] at this
            omega
          rw [List.getElem?_take, if_pos hr, List.getElem?_drop, List.getElem?_map, List.getElem?_range hi2]
          have := k5 r hr
          rw [Go.Deep.add_add] at this
          simp only [Option.map_some, this]
          rw [List.getElem?_eq_getElem (by omega)]
          rfl
        · rw [List.getElem?_take, if_neg hr, List.getElem?_eq_none (by omega)]
      · rw [h2]
        exact List.mem_append_right _ (List.mem_flatMap.2 ⟨y, List.mem_append_left _ k3, hp⟩)
end

/-- A struct of two integers, opened. -/
theorem open_two {H : Type} {enc : TypeId × Value → H} {P : Program} {W : World} {r : Reach} {b0 : Nat} {t ti : TypeId} {f0 f1 : Field} {v : Value} {d : DataW H} {p : List MemPlace} (hs : P.underlying t = some (.struct #[f0, f1])) (hone : Go.Deep.oneCellFields P #[f0, f1] = true) (hC : P.cellsOf t = 2)
    (hi : P.underlying ti = some (.int .i64)) (h0 : f0.type = ti) (h1 : f1.type = ti) (hv : Value.okWide P W r b0 t v) (h : DataW.Trod enc P W 0 (fun _ => true) true t v d p) :
    ∃ a b : Int, v = .agg #[.int .i64 a, .int .i64 b] ∧ (Lit.int .i64 a).wf = true ∧ (Lit.int .i64 b).wf = true := by
  obtain ⟨c0, c1, y0, y1, n, hv', _, _, k0, k1⟩ := Joins.open_agg2 hs hone hC hv h
  rw [h0] at k0
  rw [h1] at k1
  obtain ⟨a, ea, _, wa⟩ := DataW.trod_int hi k0
  obtain ⟨b, eb, _, wb⟩ := DataW.trod_int hi k1
  simp only [List.cons.injEq, and_true] at ea eb
  exact ⟨a, b, by rw [hv', ea, eb], wa, wb⟩
theorem open_three {H : Type} {enc : TypeId × Value → H} {P : Program} {W : World} {r : Reach} {b0 : Nat} {t ti : TypeId} {f0 f1 f2 : Field} {v : Value} {d : DataW H} {p : List MemPlace} (hs : P.underlying t = some (.struct #[f0, f1, f2])) (hone : Go.Deep.oneCellFields P #[f0, f1, f2] = true) (hC : P.cellsOf t = 3)
    (hi : P.underlying ti = some (.int .i64)) (h0 : f0.type = ti) (h1 : f1.type = ti) (h2 : f2.type = ti) (hv : Value.okWide P W r b0 t v) (h : DataW.Trod enc P W 0 (fun _ => true) true t v d p) :
    ∃ a b c : Int, v = .agg #[.int .i64 a, .int .i64 b, .int .i64 c] ∧ (Lit.int .i64 a).wf = true ∧ (Lit.int .i64 b).wf = true ∧ (Lit.int .i64 c).wf = true := by
  obtain ⟨c0, c1, c2, y0, y1, y2, n, hv', _, _, k0, k1, k2⟩ := Joins.open_agg3 hs hone hC hv h
  rw [h0] at k0
  rw [h1] at k1
  rw [h2] at k2
  obtain ⟨a, ea, _, wa⟩ := DataW.trod_int hi k0
  obtain ⟨b, eb, _, wb⟩ := DataW.trod_int hi k1
  obtain ⟨c, ec, _, wc⟩ := DataW.trod_int hi k2
  simp only [List.cons.injEq, and_true] at ea eb ec
  exact ⟨a, b, c, by rw [hv', ea, eb, ec], wa, wb, wc⟩

/-- A []byte, opened. -/
theorem open_bytes {H : Type} {enc : TypeId × Value → H} {W : World} {r : Reach} {b0 : Nat} {v : Value} {d : DataW H} {p : List MemPlace} (hval : Value.okWide Tryz.prog W r b0 22 v)
    (h : DataW.Trod enc Tryz.prog W 0 (fun _ => true) true 22 v d p) (hlt : ∀ x ∈ p, x.block < W.heap.size) :
    ∃ (A : Option Addr) (n c : Nat) (b : List UInt8), v = .slice A n c ∧ Sl W W.heap.size 1 A n c (u8s b) := by
  obtain ⟨a0, l0, c0, rfl⟩ := okWide_slice Tryz.underlying22 hval
  obtain ⟨fuel, hf⟩ := h
  obtain ⟨A, n, c, xs, hv, hs, hx⟩ := open_sl (B := W.heap.size) Tryz.underlying22 (show Tryz.prog.cellsOf 5 = 1 by kernel_rfl) (by decide) hf hlt
  refine ⟨A, n, c, xs.map fun v => match v with | .int _ k => k.toNat.toUInt8 | _ => 0, hv, ?_⟩
  have e : u8s (xs.map fun v => match v with | .int _ k => k.toNat.toUInt8 | _ => 0) = xs := by
    unfold u8s
    rw [List.map_map]
    conv => rhs; rw [← List.map_id xs]
    refine List.map_congr_left fun u hu => ?_
    obtain ⟨i, hi, rfl⟩ := List.mem_iff_getElem.1 hu
    have hin : i < n := by have := hs.len; omega
    obtain ⟨f, y, _, hy, _⟩ := hx i hin
    have e1 : (xs.drop (i * 1)).take 1 = [xs[i]] := by
      rw [Nat.mul_one, List.drop_eq_getElem_cons hi]; rfl
    rw [e1] at hy
    obtain ⟨k, hk, _, hw⟩ := DataW.trod_int Tryz.underlying5 hy
    simp only [List.cons.injEq, and_true] at hk
    have hb := bounds_u8 hw
    simp only [Function.comp, hk, id]
    congr 1
    have : (k.toNat.toUInt8).toNat = k.toNat := by simp; omega
    rw [this]; omega
  rw [e]; exact hs
end Go.Proofs.YtmelnaidjgpclaaGreatDoor
