/- append(row, tree) inside a region that draws its order: app_val's step. The cursor over a code: what it draws lies in bounds. The cursor made; numbers and halves drawn. -/
import Derived.Test.YtmnlkedacnemcaaGreatDoorTwM7
import Derived.Test.YtmnlkedacnemcaaGreatDoorTwM4
import Derived.Deep.QuietTactic
import Derived.BigQuiet
import Derived.Test.YtmnlkedacnemcaaGreatDoorTwM14
import Derived.Deep.LoopGhost
set_option linter.unusedVariables false
set_option maxRecDepth 100000
set_option linter.unusedSimpArgs false
namespace Go.Proofs.YtmnlkedacnemcaaGreatDoor
open Go.RowKit

/-- append(row, t), t's list being of the call's own. -/
theorem step_val {ops : Array Oper} {o : Oper} {a : Act} {K : Act → World → Prop} {Q : Exit → Act → World → Prop} {E : Prop} {w : World} (hgd : o.guard = none) (s x : Operand)
    (ho : o.op = .call { callee := .builtin .append, args := #[s, x], argTypes := #[24, 24] })
    {lo : Nat} {A : Option Addr} {n c : Nat} {l : List Tr} {es : List El} {t : Tr} {u : El} (h : RV w lo A n c l es) (hs : a.eval s = .slice A n c)
    {gx : Nat} (hgx : w.heap.size = gx) (hx : a.eval x = .slice (some ⟨gx, 0, none⟩) 1 1) (hl : LsAt w t.l u) (hu : Own w lo u.fp) (hd : ∀ g ∈ u.fp, g ∉ blkOf A ∧ g ∉ elFp es) (hn : n + 1 ≤ 1099511627776) (hbase : lo ≤ w.heap.size)
    (hK : ∀ A' c' w', RV w' lo A' (n + 1) c' (l ++ [t]) (es ++ [u]) → Below lo w w' → Gr A A' (w.alloc (.cells #[.int .i64 t.k, .int .i64 t.n, .int .i64 t.x, .string t.s, .slice u.A u.n u.c] 26)) w' → K (a.put o.dst (.slice A' (n + 1) c')) w') :
    if Region.wanted o (yielded ops a.tmps) = true then Oper.wp Tryz.prog o a (w.alloc (.cells #[.int .i64 t.k, .int .i64 t.n, .int .i64 t.x, .string t.s, .slice u.A u.n u.c] 26)) K Q else E := by
  subst hgx
  obtain ⟨i0, hi, hz0, hz1, hz2⟩ := info_parts info_val
  have hb1 := Below.one w (.cells #[.int .i64 t.k, .int .i64 t.n, .int .i64 t.x, .string t.s, .slice u.A u.n u.c] 26)
  have h1 := h.below hb1
  have hsl := Sl.lit w 26 #[.int .i64 t.k, .int .i64 t.n, .int .i64 t.x, .string t.s, .slice u.A u.n u.c] 5 1 rfl (by decide) (w.heap.size + 1) (Nat.lt_succ_self _)
  refine step_append_sl _ hgd s x 24 ho lo 26 i0 (.agg #[.int .i64 0, .int .i64 0, .int .i64 0, .string ByteArray.empty, .slice none 0 0]) 5 64 Tryz.underlying24 hi hz0 hz1 hz2 rfl (by decide) (.slice A n c) n (cellsOf l es) hs h1.row _ _ 1 1 _ hx hsl (fun v hv => ?_) (by unfold maxLen; omega) (by omega) (by simp; omega) ?_
  · simp only [List.mem_cons, List.not_mem_nil, or_false] at hv
    rcases hv with rfl | rfl | rfl | rfl | rfl <;> rfl
  intro A' c' w' h2 h3 h4
  have hg := gr_of (n' := n + 1) (c' := c') h3 h4
  have hkl : ∀ g ∈ elFp es, g ∉ blkOf A := fun g hg2 hgA => h1.apart g hgA hg2
  have hbel : Below lo w w' := (hb1.mono hbase).trans (hg.fr.below (fun g hg2 => (row_lt h1.row hg2).1) (Nat.le_trans hbase hb1.size))
  refine hK A' c' w' ⟨?_, by simp [h.len], by simp [h.eslen], fun j t2 u2 a b => ?_, ?_, fun g hgA hg2 => ?_⟩ hbel hg
  · rw [cellsOf_snoc l es t u (by rw [h.len, h.eslen])]; exact h2
  · rcases Nat.lt_or_ge j n with hj | hj
    · rw [List.getElem?_append_left (by rw [h.len]; exact hj)] at a
      rw [List.getElem?_append_left (by rw [h.eslen]; exact hj)] at b
      exact (h1.kids j t2 u2 a b).fr hg.fr (fun g hg2 => h1.own.lt (elFp_mem b hg2)) (fun g hg2 => hkl g (elFp_mem b hg2))
    · have hj2 : j = n := by have := (List.getElem?_eq_some_iff.1 a).1; simp [h.len] at this; omega
      subst hj2
      rw [List.getElem?_append_right (by rw [h.len]; exact Nat.le_refl _), h.len, Nat.sub_self] at a
      rw [List.getElem?_append_right (by rw [h.eslen]; exact Nat.le_refl _), h.eslen, Nat.sub_self] at b
      simp only [List.getElem?_cons_zero, Option.some.injEq] at a b
      subst a b
      exact (hl.below (fun g hg2 => hu.lt hg2) hb1).fr hg.fr (fun g hg2 => Nat.lt_of_lt_of_le (hu.lt hg2) hb1.size) (fun g hg2 => (hd g hg2).1)
  · rw [elFp_snoc]
    exact ((h1.own.fr hg.fr hkl).app ((hu.below (fun g hg2 => hu.lt hg2) hb1).fr hg.fr (fun g hg2 => (hd g hg2).1)) fun g hg2 hg3 => (hd g hg3).2 hg2)
  · rw [elFp_snoc] at hg2
    rcases hg.own g hgA with h5 | h5
    · rcases List.mem_append.1 hg2 with h6 | h6
      · exact h1.apart g h5 h6
      · exact (hd g h6).1 h5
    · have h7 : w.heap.size < g := by simp at h5; omega
      rcases List.mem_append.1 hg2 with h6 | h6
      · have := h.own.lt h6; omega
      · have := hu.lt h6; omega
end Go.Proofs.YtmnlkedacnemcaaGreatDoor

namespace Go.Proofs.YtmnlkedacnemcaaGreatDoor
open Go.RowKit

theorem and_255 (y : Int) : 0 ≤ bits .and .i64 y 255 ∧ bits .and .i64 y 255 ≤ 255 := by
  have h : bits .and .i64 y 255 = IntKind.i64.wrap ((BitVec.ofInt 64 y &&& BitVec.ofInt 64 255).toNat : Int) := rfl
  have h2 : (BitVec.ofInt 64 y &&& BitVec.ofInt 64 255).toNat ≤ 255 := by
    rw [BitVec.toNat_and]
    exact Nat.le_trans Nat.and_le_right (by decide)
  rw [h, IntKind.wrap_i64]
  omega
/-- A cursor in block g over the bytes b, which lie below B. -/
def Cur (w : World) (B g : Nat) (A : Option Addr) (n c : Nat) (b : List UInt8) : Prop :=
  B ≤ g ∧ n ≤ 1048576 ∧ Sl w B 1 A n c (u8s b) ∧ ∃ (i : Nat) (h : Int), i ≤ n ∧ Blk w g 49 #[.slice A n c, .int .i64 i, .int .i64 h]
section
variable {w w' : World} {B g n c : Nat} {A : Option Addr} {b : List UInt8}
theorem Cur.lt (h : Cur w B g A n c b) : g < w.heap.size := by
  obtain ⟨_, _, _, i, x, _, hb⟩ := h
  exact hb.lt
theorem Cur.below (h : Cur w B g A n c b) (hb : Below w.heap.size w w') : Cur w' B g A n c b := by
  have hl := h.lt
  obtain ⟨h1, h2, h3, i, x, h4, h5⟩ := h
  exact ⟨h1, h2, h3.below (hb.mono (by omega)), i, x, h4, h5.below hb hl⟩
end
set_option maxHeartbeats 1000000 in
theorem s_l1Byte (B g n c : Nat) (A : Option Addr) (b : List UInt8) (w : World) (h : Cur w B g A n c b) :
    Calls Tryz.prog 38 #[.pointer (some ⟨g, 0, none⟩)] w fun r w' => ∃ x : Int, r = .returned (.int .i64 x) ∧ (0 ≤ x ∧ x ≤ 255) ∧ Cur w' B g A n c b ∧ Fr [g] w w' := by
  obtain ⟨h1, h2, h3, i, y, h4, h5⟩ := h
  obtain ⟨c0, c1, c2⟩ : w.cell? ⟨g, 0, none⟩ = some (.slice A n c) ∧ w.cell? ⟨g, 1, none⟩ = some (.int .i64 i) ∧ w.cell? ⟨g, 2, none⟩ = some (.int .i64 y) := ⟨h5.cell 0, h5.cell 1, h5.cell 2⟩
  have f0 := h5.frozen 0
  have f1 := h5.frozen 1
  have f2 := h5.frozen 2
  have hlt := h5.lt
  have H1 : ∀ v : Int, Blk (w.setCell ⟨g, 2, none⟩ (.int .i64 v)) g 49 #[.slice A n c, .int .i64 i, .int .i64 v] := fun v => by simpa using h5.set_ 2 (.int .i64 v)
  have F1 : ∀ v : Int, Fr [g] w (w.setCell ⟨g, 2, none⟩ (.int .i64 v)) := fun v => (Fr.refl _ _).setCell (by simp) _
  have S1 : ∀ v : Int, Sl (w.setCell ⟨g, 2, none⟩ (.int .i64 v)) B 1 A n c (u8s b) := fun v => h3.setCell h1 _
  by_cases hi : i < n
  · obtain ⟨g2, o, rfl, hg2, hb, hc⟩ := h3.byte hi
    have hne : g2 ≠ g := by omega
    have hne2 : g ≠ g2 := by omega
    have H2 : ∀ v u : Int, Blk ((w.setCell ⟨g, 2, none⟩ (.int .i64 v)).setCell ⟨g, 1, none⟩ (.int .i64 u)) g 49 #[.slice (some ⟨g2, o, none⟩) n c, .int .i64 u, .int .i64 v] := fun v u => by simpa using (H1 v).set_ 1 (.int .i64 u)
    go_enter Tryz.func38, Tryz.ntmps38
    go_wp2_with fail
    go_quiet (fail)
    go_wp2_with fail
    go_quiet (fail)
    go_wp2_with fail
    go_quiet (fail)
    go_wp2_with fail
    go_ret
    exact ⟨_, rfl, and_255 _, ⟨h1, h2, ((S1 _).drewN _).setCell h1 _, i + 1, wrap64 (wrap64 (y * 6364136223846793005) + 1442695040888963407), by omega, by simpa using ((H1 _).drewN _).set_ 1 (.int .i64 ((i : Int) + 1))⟩, ((F1 _).drewN _).setCell (by simp) _⟩
  · go_enter Tryz.func38, Tryz.ntmps38
    go_wp2_with fail
    go_quiet (fail)
    go_wp2_with fail
    go_quiet (fail)
    go_wp2_with fail
    go_ret
    exact ⟨_, rfl, and_255 _, ⟨h1, h2, ((S1 _).drewN _).drewN _, i, wrap64 (wrap64 (y * 6364136223846793005) + 1442695040888963407), h4, ((H1 _).drewN _).drewN _⟩, ((F1 _).drewN _).drewN _⟩
/-- What is drawn below m. -/
def InBelow (x m : Int) : Prop := (m ≤ 0 → x = 0) ∧ (0 < m → 0 ≤ x ∧ x < m)
set_option maxHeartbeats 1000000 in
theorem s_l1Below (B g n c : Nat) (A : Option Addr) (b : List UInt8) (m : Int) (w : World) (h : Cur w B g A n c b) (hm : m ≤ 9223372036854775807) :
    Calls Tryz.prog 23 #[.pointer (some ⟨g, 0, none⟩), .int .i64 m] w fun r w' => ∃ x : Int, r = .returned (.int .i64 x) ∧ InBelow x m ∧ Cur w' B g A n c b ∧ Fr [g] w w' := by
  by_cases h0 : m ≤ 0
  · go_enter Tryz.func23, Tryz.ntmps23
    go_wp2_with fail
    go_ret
    exact ⟨0, rfl, ⟨fun _ => rfl, fun h => by omega⟩, h, Fr.refl _ _⟩
  · have hm0 : ¬ m = 0 := by omega
    have hmz : (m == 0) = false := by simp; omega
    by_cases h1 : m ≤ 256
    · go_enter Tryz.func23, Tryz.ntmps23
      go_wp2_with (go_at_call 38; refine (s_l1Byte B g n c A b _ h).mono ?_; rintro r w1 ⟨x, rfl, hx, hC, hf⟩)
      go_ret
      exact ⟨_, rfl, ⟨fun h => by omega, fun h => ⟨Int.emod_nonneg _ (by omega), Int.emod_lt_of_pos _ h⟩⟩, hC, hf⟩
    · go_enter Tryz.func23, Tryz.ntmps23
      go_wp2_with fail
      refine (s_l1Byte B g n c A b _ h).mono ?_; rintro r w1 ⟨x, rfl, hx, hC1, hf1⟩
      go_wp2_with fail
      refine (s_l1Byte B g n c A b _ hC1).mono ?_; rintro r w2 ⟨y, rfl, hy, hC2, hf2⟩
      go_wp2_with fail
      refine (s_l1Byte B g n c A b _ hC2).mono ?_; rintro r w3 ⟨z, rfl, hz, hC3, hf3⟩
      go_wp2_with fail
      go_ret
      exact ⟨_, rfl, ⟨fun h => by omega, fun h => ⟨Int.emod_nonneg _ (by omega), Int.emod_lt_of_pos _ h⟩⟩, hC3, (hf1.trans hf2).trans hf3⟩
theorem s_l1Once (B g n c : Nat) (A : Option Addr) (b : List UInt8) (m : Int) (w : World) (h : Cur w B g A n c b) (hm : m ≤ 9223372036854775807) :
    Calls Tryz.prog 21 #[.pointer (some ⟨g, 0, none⟩), .int .i64 m] w fun r w' => ∃ x : Bool, r = .returned (.bool x) ∧ Cur w' B g A n c b ∧ Fr [g] w w' := by
  go_enter Tryz.func21, Tryz.ntmps21
  go_wp2_with (go_at_call 23; refine (s_l1Below B g n c A b m _ h hm).mono ?_; rintro r w1 ⟨x, rfl, hx, hC, hf⟩)
  go_ret
  exact ⟨_, rfl, hC, hf⟩
/-- One of the numbers of a list; the list lies in memory of its own, below the world's end. -/
theorem s_l1Int (B g n c : Nat) (A : Option Addr) (b : List UInt8) (A2 : Option Addr) (m c2 : Nat) (l : List Int) (w : World) (h : Cur w B g A n c b) (hl : Sl w w.heap.size 1 A2 m c2 (i64s l)) (hg : ∀ x ∈ blkOf A2, x ≠ g) (hm : 0 < m) :
    Calls Tryz.prog 39 #[.pointer (some ⟨g, 0, none⟩), .slice A2 m c2] w fun r w' => ∃ x : Int, r = .returned (.int .i64 x) ∧ x ∈ l ∧ Cur w' B g A n c b ∧ Fr [g] w w' := by
  have hm9 : (m : Int) ≤ 9223372036854775807 := by have := hl.cap; have := hl.max; unfold maxLen at *; omega
  have hll : l.length = m := by have := hl.len; simp [i64s] at this; omega
  go_enter Tryz.func39, Tryz.ntmps39
  go_wp2_with (go_at_call 23; refine (s_l1Below B g n c A b m _ h hm9).mono ?_; rintro r w1 ⟨x, rfl, hx, hC, hf⟩; obtain ⟨hx0, hx1⟩ := hx.2 (by omega); obtain ⟨k, rfl⟩ := Int.eq_ofNat_of_zero_le hx0; obtain ⟨g2, o, rfl, hg2, hb2, hc⟩ := hl.int (k := k) (by omega); have hc1 := (World.cell?_of_block (w := w) (w' := w1) (a := ⟨g2, o + k, none⟩) (hf.block g2 hg2 (by simpa using hg g2 (by simp [blkOf])))).trans hc)
  go_ret
  exact ⟨_, rfl, List.getElem_mem _, hC, hf⟩
end Go.Proofs.YtmnlkedacnemcaaGreatDoor

namespace Go.Proofs.YtmnlkedacnemcaaGreatDoor
open Go.RowKit

set_option maxHeartbeats 1000000 in
theorem s_l1New (A : Option Addr) (n c : Nat) (b : List UInt8) (w : World) (h : Sl w w.heap.size 1 A n c (u8s b)) (hn : n ≤ 1048576) :
    Calls Tryz.prog 17 #[.slice A n c] w fun r w' => r = .returned (.pointer (some ⟨w.heap.size, 0, none⟩)) ∧ Cur w' w.heap.size w.heap.size A n c b ∧ Below w.heap.size w w' := by
  go_enter Tryz.func17, Tryz.ntmps17
  go_wp2_with fail
  go_loopg [3, 4] n (fun f x i wr => ∃ (j : Nat) (y : Int), j + f = n ∧ x = .int .i64 y ∧ i = .int .i64 j ∧ wr = w)
  case atStart => exact ⟨0, _, by omega, rfl, rfl, rfl⟩
  case round =>
    obtain ⟨j, y, hjf, rfl, rfl, rfl⟩ := hrel
    by_cases hlt : j < n
    · by_cases h4 : j < 4000
      · obtain ⟨f, rfl⟩ : ∃ f, gk = f + 1 := ⟨gk - 1, by omega⟩
        obtain ⟨g2, o, rfl, hg2, hb, hc⟩ := h.byte hlt
        go_wp2_with fail
        go_roundg f
        case measure => omega
        case rel => exact ⟨j + 1, _, by omega, rfl, by go_num, rfl⟩
      · have h4i : (4000 : Int) ≤ (j : Int) := by omega
        go_wp2_with fail
        go_ret
        exact ⟨rfl, ⟨Nat.le_refl _, hn, h.alloc (Nat.le_refl _) _, 0, y, Nat.zero_le _, Blk.new _ _ _⟩, Below.one _ _⟩
    · go_wp2_with fail
      go_ret
      exact ⟨rfl, ⟨Nat.le_refl _, hn, h.alloc (Nat.le_refl _) _, 0, y, Nat.zero_le _, Blk.new _ _ _⟩, Below.one _ _⟩
theorem i64s_lit (w : World) (e : TypeId) (l : List Int) (cs : Array Value) (hc : cs.toList = i64s l) (hn : l.length ≤ 1000) : Sl (w.alloc (.cells cs e)) (w.alloc (.cells cs e)).heap.size 1 (some ⟨w.heap.size, 0, none⟩) l.length l.length (i64s l) := by
  have h := Sl.lit w e cs 1 l.length (by have := congrArg List.length hc; simp [i64s] at this; simpa using this) (by unfold maxLen; omega) (w.alloc (.cells cs e)).heap.size (by simp)
  rw [hc] at h
  exact h
theorem Blk.fr_' {w w' : World} {g : Nat} {T : TypeId} {cs : Array Value} {fp : List Nat} (h : Blk w g T cs) (hf : Fr fp w w') (hn : g ∉ fp) : Blk w' g T cs := (hf.block g h.lt hn).trans h
theorem lit_ne {g k : Nat} (h : g < k) : ∀ x ∈ blkOf (some ⟨k, 0, none⟩), x ≠ g := fun x hx => by
  simp [blkOf] at hx; omega
theorem Fr.new_ {w w' : World} {fp : List Nat} (h : Fr fp w w') {p : Addr} (hp : w.heap.size ≤ p.block) (u : Value) : Fr fp w (w'.setCell p u) :=
  ⟨h.os, h.tape, h.output, by have := h.size; simp [World.setCell]; exact this, fun k hk hn => (Below.heap_setCell w' p u k (by omega)).trans (h.block k hk hn)⟩
theorem Cur.set_ {w' : World} {B g n c k o : Nat} {A : Option Addr} {b : List UInt8} (h : Cur w' B g A n c b) (hk : g < k) (x : Value) : Cur (w'.setCell ⟨k, o, none⟩ x) B g A n c b := by
  obtain ⟨h1, h2, h3, i, z, h4, h5⟩ := h
  exact ⟨h1, h2, h3.setCell (by show B ≤ k; omega) _, i, z, h4, h5.far (by exact Nat.ne_of_lt hk) _⟩
theorem cur_two {w' : World} {B g n c k : Nat} {A : Option Addr} {b : List UInt8} {x y : Value} (h : Cur w' B g A n c b) (hk : k ≠ g) (hg : g < k) : Cur ((w'.setCell ⟨k, 0, none⟩ x).setCell ⟨k, 1, none⟩ y) B g A n c b := by
  obtain ⟨h1, h2, h3, i, z, h4, h5⟩ := h
  exact ⟨h1, h2, (h3.setCell (by show B ≤ k; omega) _).setCell (by show B ≤ k; omega) _, i, z, h4, (h5.far (by exact fun e => hk e.symm) _).far (by exact fun e => hk e.symm) _⟩
theorem Blk.at2' {w : World} {g : Nat} {T : TypeId} {a b : Value} (h : Blk w g T #[a, b]) : w.cell? ⟨g, 0, none⟩ = some a ∧ w.cell? ⟨g, 1, none⟩ = some b ∧ w.frozen? ⟨g, 0, none⟩ = false ∧ w.frozen? ⟨g, 1, none⟩ = false ∧ g < w.heap.size := ⟨h.cell 0, h.cell 1, h.frozen 0, h.frozen 1, h.lt⟩
set_option maxHeartbeats 4000000 in
theorem s_l5Draw (B g n c : Nat) (A : Option Addr) (b : List UInt8) (w : World) (h : Cur w B g A n c b) :
    Calls Tryz.prog 52 #[.pointer (some ⟨g, 0, none⟩)] w fun r w' => ∃ x y : Int, r = .returned (.agg #[.int .i64 x, .int .i64 y]) ∧ y ≤ 9223372036854775807 ∧ Cur w' B g A n c b ∧ Fr [g] w w' := by
  have hgl := h.lt
  have hgn : w.heap.size ≠ g := by omega
  have h0 := h.below (Below.one w (.cells #[.int .i64 0, .int .i64 0] 65))
  have hF0 : Fr [g] w (w.alloc (.cells #[.int .i64 0, .int .i64 0] 65)) := Fr.of_below (Below.one _ _)
  have hR : ∀ w', Fr [g] (w.alloc (.cells #[.int .i64 0, .int .i64 0] 65)) w' → Blk w' w.heap.size 65 #[.int .i64 0, .int .i64 0] := fun w' hf => Blk.fr_' (Blk.new w _ _) hf (by simpa using hgn)
  go_enter Tryz.func52, Tryz.ntmps52
  go_wp2_with fail
  refine (s_l1Below B g n c A b 32767 _ h0 (by decide)).mono ?_; rintro r w1 ⟨x1, rfl, hx1, hC1, hf1⟩
  go_wp2_with fail
  refine (s_l1Int B g n c A b (some ⟨w1.heap.size, 0, none⟩) 8 8 [0, 1, 3, 5, 255, 32767, 65535, wrap64 (1 + wrap64 (2 * x1))] _ (hC1.below (Below.one _ _)) (by exact i64s_lit _ _ [0, 1, 3, 5, 255, 32767, 65535, wrap64 (1 + wrap64 (2 * x1))] _ rfl (by exact Nat.le_of_ble_eq_true rfl)) (lit_ne hC1.lt) (by decide)).mono ?_; rintro r w2 ⟨m, rfl, hm, hCw2, hfw2⟩
  have hFw2 := (hf1.trans (Fr.of_below (Below.one _ _))).trans hfw2
  go_wp2_with fail
  refine (s_l1Below B g n c A b 47 _ hCw2 (by decide)).mono ?_; rintro r w3 ⟨x3, rfl, hx3, hC3, hf3⟩
  have hF3 := hFw2.trans hf3
  go_wp2_with fail
  refine (s_l1Int B g n c A b (some ⟨w3.heap.size, 0, none⟩) 7 7 [0, 0, 1, -1, -16, 30, wrap64 (x3 - 16)] _ (hC3.below (Below.one _ _)) (by exact i64s_lit _ _ [0, 0, 1, -1, -16, 30, wrap64 (x3 - 16)] _ rfl (by exact Nat.le_of_ble_eq_true rfl)) (lit_ne hC3.lt) (by decide)).mono ?_; rintro r w4 ⟨e, rfl, he, hCw4, hfw4⟩
  have hFw4 := (hF3.trans (Fr.of_below (Below.one _ _))).trans hfw4
  have heb : e ≤ 9223372036854775807 := by
    simp only [List.mem_cons, List.not_mem_nil, or_false] at he
    unfold wrap64 at he
    omega
  clear hx1 hx3 hC1 hC3 hf1 hf3 hCw2 hfw2 hFw2 hF3 hfw4 hm he h h0
  by_cases hm0 : m = 0
  · subst hm0
    go_wp2_with fail
    refine (s_l1Once B g n c A b 3 _ hCw4 (by decide)).mono ?_; rintro r w7 ⟨o7, rfl, hC7, hf7⟩
    have hF7 := hFw4.trans hf7
    have hR7 := hR w7 hF7
    obtain ⟨r0, r1, q0, q1, ql⟩ := hR7.at2'
    cases o7
    · go_wp2_with fail
      exact bodyPost_ret (results_blk Tryz.results52 Tryz.isAgg65 (by exact Tryz.sizeOf65) rfl (hR7.two _ _)) rfl ⟨_, _, rfl, by omega, cur_two hC7 hgn hgl, ((hF0.trans hF7).new_ (Nat.le_refl _) _).new_ (Nat.le_refl _) _⟩
    · go_wp2_with fail
      exact bodyPost_ret (results_blk Tryz.results52 Tryz.isAgg65 (by exact Tryz.sizeOf65) rfl (hR7.two _ _)) rfl ⟨_, _, rfl, by omega, cur_two hC7 hgn hgl, ((hF0.trans hF7).new_ (Nat.le_refl _) _).new_ (Nat.le_refl _) _⟩
  have hmz : (m == 0) = false := by simp [hm0]
  by_cases hm1 : m = 1
  · subst hm1
    go_wp2_with fail
    refine (s_l1Once B g n c A b 2 _ hCw4 (by decide)).mono ?_; rintro r w5 ⟨o5, rfl, hC5, hf5⟩
    have hF5 := hFw4.trans hf5
    cases o5
    · go_wp2_with fail
      refine (s_l1Once B g n c A b 3 _ hC5 (by decide)).mono ?_; rintro r w7 ⟨o7, rfl, hC7, hf7⟩
      have hF7 := hF5.trans hf7
      have hR7 := hR w7 hF7
      obtain ⟨r0, r1, q0, q1, ql⟩ := hR7.at2'
      cases o7
      · go_wp2_with fail
        exact bodyPost_ret (results_blk Tryz.results52 Tryz.isAgg65 (by exact Tryz.sizeOf65) rfl (hR7.two _ _)) rfl ⟨_, _, rfl, by omega, cur_two hC7 hgn hgl, ((hF0.trans hF7).new_ (Nat.le_refl _) _).new_ (Nat.le_refl _) _⟩
      · go_wp2_with fail
        exact bodyPost_ret (results_blk Tryz.results52 Tryz.isAgg65 (by exact Tryz.sizeOf65) rfl (hR7.two _ _)) rfl ⟨_, _, rfl, by omega, cur_two hC7 hgn hgl, ((hF0.trans hF7).new_ (Nat.le_refl _) _).new_ (Nat.le_refl _) _⟩
    · go_wp2_with fail
      refine (s_l1Int B g n c A b (some ⟨w5.heap.size, 0, none⟩) 2 2 [31, 45] _ (hC5.below (Below.one _ _)) (by exact i64s_lit _ _ [31, 45] _ rfl (by exact Nat.le_of_ble_eq_true rfl)) (lit_ne hC5.lt) (by decide)).mono ?_; rintro r w6 ⟨e2, rfl, he2, hCw6, hfw6⟩
      have hFw6 := (hF5.trans (Fr.of_below (Below.one _ _))).trans hfw6
      have heb2 : e2 ≤ 9223372036854775807 := by
        simp only [List.mem_cons, List.not_mem_nil, or_false] at he2
        omega
      clear he2
      go_wp2_with fail
      refine (s_l1Once B g n c A b 3 _ hCw6 (by decide)).mono ?_; rintro r w7 ⟨o7, rfl, hC7, hf7⟩
      have hF7 := hFw6.trans hf7
      have hR7 := hR w7 hF7
      obtain ⟨r0, r1, q0, q1, ql⟩ := hR7.at2'
      cases o7
      · go_wp2_with fail
        exact bodyPost_ret (results_blk Tryz.results52 Tryz.isAgg65 (by exact Tryz.sizeOf65) rfl (hR7.two _ _)) rfl ⟨_, _, rfl, by omega, cur_two hC7 hgn hgl, ((hF0.trans hF7).new_ (Nat.le_refl _) _).new_ (Nat.le_refl _) _⟩
      · go_wp2_with fail
        exact bodyPost_ret (results_blk Tryz.results52 Tryz.isAgg65 (by exact Tryz.sizeOf65) rfl (hR7.two _ _)) rfl ⟨_, _, rfl, by omega, cur_two hC7 hgn hgl, ((hF0.trans hF7).new_ (Nat.le_refl _) _).new_ (Nat.le_refl _) _⟩
  · have hmo : (m == 1) = false := by simp [hm1]
    go_wp2_with fail
    refine (s_l1Once B g n c A b 3 _ hCw4 (by decide)).mono ?_; rintro r w7 ⟨o7, rfl, hC7, hf7⟩
    have hF7 := hFw4.trans hf7
    have hR7 := hR w7 hF7
    obtain ⟨r0, r1, q0, q1, ql⟩ := hR7.at2'
    cases o7
    · go_wp2_with fail
      exact bodyPost_ret (results_blk Tryz.results52 Tryz.isAgg65 (by exact Tryz.sizeOf65) rfl (hR7.two _ _)) rfl ⟨_, _, rfl, by omega, cur_two hC7 hgn hgl, ((hF0.trans hF7).new_ (Nat.le_refl _) _).new_ (Nat.le_refl _) _⟩
    · go_wp2_with fail
      exact bodyPost_ret (results_blk Tryz.results52 Tryz.isAgg65 (by exact Tryz.sizeOf65) rfl (hR7.two _ _)) rfl ⟨_, _, rfl, by omega, cur_two hC7 hgn hgl, ((hF0.trans hF7).new_ (Nat.le_refl _) _).new_ (Nat.le_refl _) _⟩
end Go.Proofs.YtmnlkedacnemcaaGreatDoor
