/- What the reader of the compact format takes of the packed one's texts: frames, results, a slice as a text. -/
import Derived.Test.YtmelnaidjgpclaaGreatDoorPkG0
import Derived.Test.YtmelnaidjgpclaaGreatDoorFltNew
import Derived.Test.YtmelnaidjgpclaaGreatDoorToSl
import Derived.Deep.Cut
import Derived.Deep.CutBlock
import Derived.Deep.DeepCutAuto
import Derived.Deep.RegionLaw
import Derived.Deep.RegionHeld3
import Derived.BigRegion
import Derived.Deep.QuietTactic
import Derived.BigQuiet
set_option linter.unusedVariables false
set_option maxRecDepth 100000
set_option linter.unusedSimpArgs false
namespace Go.Proofs.YtmelnaidjgpclaaGreatDoor
open Go.RowKit

theorem fr_new {fp : List Nat} {w w' : World} (h : Fr fp w w') {q : Addr} (hq : w.heap.size ≤ q.block) (u : Value) : Fr fp w (w'.setCell q u) :=
  ⟨h.os, h.tape, h.output, by rw [size_setCell]; exact h.size, fun k hk hn => (Below.heap_setCell _ _ _ _ (by omega)).trans (h.block k hk hn)⟩
theorem fr_new5 {fp : List Nat} {w w' : World} {g0 o : Nat} {t : Tr} {e : El} (h : Fr fp w w') (hg : w.heap.size ≤ g0) : Fr fp w (set5 w' g0 o t e) :=
  fr_new (q := ⟨g0, o + 4, none⟩) (fr_new (q := ⟨g0, o + 3, none⟩) (fr_new (q := ⟨g0, o + 2, none⟩) (fr_new (q := ⟨g0, o + 1, none⟩) (fr_new (q := ⟨g0, o, none⟩) h hg _) hg _) hg _) hg _) hg _
theorem Blk.ofFr {w w' : World} {g g2 : Nat} {T : TypeId} {cs : Array Value} (h : Blk w g2 T cs) (hf : Fr [g] w w') (hn : g2 ≠ g) : Blk w' g2 T cs := (hf.block g2 h.lt (by simp; exact hn)).trans h
theorem Below.drewN_ (w : World) (k : Nat) : Below w.heap.size w (w.drewN k) := ⟨rfl, rfl, rfl, Nat.le_refl _, fun _ _ => rfl⟩
def RokI (R : Rd) (t : Tr) (p' k' : Int) : Prop := match R with
  | .good t0 q => t = t0 ∧ p' = (q : Int) ∧ k' = 0
  | .bad c => k' = c ∧ c ≠ 0
theorem conv_cut {A : Option Addr} {n c : Nat} {b : List UInt8} {q m : Nat} {w : World} {B : Nat} (h : Sl w B 1 A n c (u8s b)) (hlt : q + m ≤ n) :
    (convert 22 9 (.slice (if c = q then A else Option.map (fun x => x.add q) A) (q + m - q) (c - q))).run Tryz.prog w = .ok (.string (cutS b q m)) w := by
  rw [show q + m - q = m by omega]
  rcases Nat.eq_zero_or_pos m with rfl | hm
  · have hs : Sl w 0 1 (if c = q then A else Option.map (fun x => x.add q) A) 0 (c - q) (u8s (part b q 0)) := ⟨by unfold part; simp [u8s], Nat.zero_le _, by have := h.max; omega, fun h0 => absurd h0 (by decide)⟩
    exact run_str_sl (P := Tryz.prog) 22 5 Tryz.underlying22 Tryz.underlying5 hs 9 Tryz.underlying9
  · obtain ⟨g, o, rfl, _⟩ := h.at_ (by omega)
    have e : Option.map (fun x : Addr => x.add q) (some ⟨g, o, none⟩) = some ⟨g, o + q, none⟩ := by simp [Addr.add]
    have hc := h.cap
    rw [if_neg (by omega), e]
    exact run_str_sl (P := Tryz.prog) 22 5 Tryz.underlying22 Tryz.underlying5 (h.sub_ q m (by omega) hm) 9 Tryz.underlying9
theorem fr_bel {fp : List Nat} {w w1 w2 : World} {B : Nat} (h : Fr fp w w1) (hb : Below B w1 w2) (hB : w.heap.size ≤ B) : Fr fp w w2 :=
  ⟨hb.os.trans h.os, hb.tape.trans h.tape, hb.output.trans h.output, Nat.le_trans h.size hb.size, fun k hk hn => (hb.block k (Nat.lt_of_lt_of_le hk hB)).trans (h.block k hk hn)⟩
def GetRes (w w' : World) (T : Tr) (pl cd : Int) (r : Ending) : Prop :=
  ∃ u, r = .returned (.tuple #[trV T u, .int .i64 pl, .int .i64 cd]) ∧ LsAt w' T.l u ∧ Own w' w.heap.size u.fp ∧ Below w.heap.size w w'
def resP (R : Rd) : Int := match R with
  | .good _ q => q
  | .bad _ => 0
theorem s_l6FltVal (a e : Int) (w : World) : Calls Tryz.prog 53 #[.agg #[.int .i64 a, .int .i64 e]] w fun r w' => r = .returned (trV (leafTr 4 a e ⟨#[]⟩) ⟨none, 0, 0, []⟩) ∧ Below w.heap.size w w' := by
  have k2 := Below.two w (.cells #[.int .i64 a, .int .i64 e] 51) (.cells #[.int .i64 4, .int .i64 a, .int .i64 e, .string ⟨#[]⟩, .slice none 0 0] 28)
  have hZ2 : Blk ((w.alloc (.cells #[.int .i64 a, .int .i64 e] 51)).alloc (.cells #[.int .i64 4, .int .i64 a, .int .i64 e, .string ⟨#[]⟩, .slice none 0 0] 28)) (w.heap.size + 1) 28 #[.int .i64 4, .int .i64 a, .int .i64 e, .string ⟨#[]⟩, .slice none 0 0] := by
    simpa using Blk.new (w.alloc (.cells #[.int .i64 a, .int .i64 e] 51)) 28 #[.int .i64 4, .int .i64 a, .int .i64 e, .string ⟨#[]⟩, .slice none 0 0]
  go_enter Tryz.func53, Tryz.ntmps53
  go_wp2_with fail
  exact bodyPost_ret (results_blk Tryz.results53 Tryz.isAgg28 (by exact Tryz.sizeOf28) rfl hZ2) rfl ⟨rfl, k2⟩
def ReadRes (w w' : World) (T : Tr) (cd : Int) (r : Ending) : Prop :=
  ∃ u, r = .returned (.tuple #[trV T u, .int .i64 cd]) ∧ LsAt w' T.l u ∧ Own w' w.heap.size u.fp ∧ Below w.heap.size w w'
end Go.Proofs.YtmelnaidjgpclaaGreatDoor
