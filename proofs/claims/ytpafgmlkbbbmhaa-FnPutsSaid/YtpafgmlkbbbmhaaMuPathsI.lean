/- AllPaths: the program's and the reference's. -/
import Derived.Test.YtpafgmlkbbbmhaaMuM10
import Derived.Deep.RegionHeld3
import Derived.Deep.RegionLaw
import Derived.Deep.QuietTactic
import Derived.BigQuiet
set_option linter.unusedVariables false
set_option maxRecDepth 100000
set_option linter.unusedSimpArgs false
namespace Go.Proofs.Ytpafgmlkbbbmhaa
open Go.RowKit

theorem stC_one : ∀ ps : Pth, ∀ x ∈ stC ps, x.oneCell' = true
  | [], x, h => by simp [stC] at h
  | p :: ps, x, h => by
    simp only [stC, List.mem_cons] at h
    rcases h with rfl | rfl | h
    · rfl
    · rfl
    · exact stC_one ps x h
theorem SS.new (w : World) (g : Nat) (hg : w.heap.size = g) : SS (w.alloc (.cells #[] 43)) g (some ⟨g, 0, none⟩) 0 0 [] := by
  subst hg
  exact World.ownsRow_lit w #[] 0 (Nat.le_refl _) (by decide) rfl
theorem lit_step (w : World) (q : Int × Bool) : Sl (w.alloc (.cells #[.int .i64 q.1, .bool q.2] 43)) (w.heap.size + 1) 2 (some ⟨w.heap.size, 0, none⟩) 1 1 (stC [q]) :=
  Sl.lit w 43 #[_, _] 2 1 rfl (by decide) _ (Nat.lt_succ_self _)
/-- append(xs, ys...) where xs is a row of steps of the call's own. -/
theorem app_st {ops : Array Oper} {rest : List Oper} {o : Oper} {a : Act} {Q : Exit → Act → World → Prop} {w : World} (hgd : o.guard = none) (s x : Operand)
    (ho : o.op = .call { callee := .builtin .append, args := #[s, x], argTypes := #[27, 27] })
    {lo : Nat} {A : Option Addr} {n c : Nat} {b : Pth} (hown : SS w lo A n c b) (hs : a.eval s = .slice A n c)
    {B : Nat} {A1 : Option Addr} {m c1 : Nat} {news : Pth} (hr : Sl w B 2 A1 m c1 (stC news)) (hx : a.eval x = .slice A1 m c1)
    (hn : n + m ≤ 1099511627776) (hbase : lo ≤ w.heap.size)
    (h : ∀ A' c' w', SS w' lo A' (n + m) c' (b ++ news) → Below lo w w' → wpList Try.prog ops Q rest (a.put o.dst (.slice A' (n + m) c')) w') : wpList Try.prog ops Q (o :: rest) a w := by
  obtain ⟨i0, hi, hz0, hz1, hz2⟩ := info_parts info_step
  refine wpList_append_sl _ hgd s x 27 ho lo 43 i0 (.agg #[.int .i64 0, .bool false]) 2 16 Try.underlying27 hi hz0 hz1 hz2 rfl (by decide) (.slice A n c) n (stC b) hs hown B A1 m c1 (stC news) hx hr (stC_one _) (by unfold maxLen; omega) (by omega) hbase ?_
  intro A' c' w' h1 h2 _
  rw [← stC_app] at h1
  exact h A' c' w' h1 (below_append (Below.refl _ _) hown (Nat.le_refl _) hbase h2)
theorem app_sts {ops : Array Oper} {o : Oper} {a : Act} {K : Act → World → Prop} {Q : Exit → Act → World → Prop} {E : Prop} {w : World} (hgd : o.guard = none) (s x : Operand)
    (ho : o.op = .call { callee := .builtin .append, args := #[s, x], argTypes := #[27, 27] })
    {lo : Nat} {A : Option Addr} {n c : Nat} {b : Pth} (hown : SS w lo A n c b) (hs : a.eval s = .slice A n c)
    {B : Nat} {A1 : Option Addr} {m c1 : Nat} {news : Pth} (hr : Sl w B 2 A1 m c1 (stC news)) (hx : a.eval x = .slice A1 m c1)
    (hn : n + m ≤ 1099511627776) (hbase : lo ≤ w.heap.size)
    (h : ∀ A' c' w', SS w' lo A' (n + m) c' (b ++ news) → Below lo w w' → K (a.put o.dst (.slice A' (n + m) c')) w') : if Region.wanted o (yielded ops a.tmps) = true then Oper.wp Try.prog o a w K Q else E := by
  obtain ⟨i0, hi, hz0, hz1, hz2⟩ := info_parts info_step
  refine step_append_sl _ hgd s x 27 ho lo 43 i0 (.agg #[.int .i64 0, .bool false]) 2 16 Try.underlying27 hi hz0 hz1 hz2 rfl (by decide) (.slice A n c) n (stC b) hs hown B A1 m c1 (stC news) hx hr (stC_one _) (by unfold maxLen; omega) (by omega) hbase ?_
  intro A' c' w' h1 h2 _
  rw [← stC_app] at h1
  exact h A' c' w' h1 (below_append (Below.refl _ _) hown (Nat.le_refl _) hbase h2)
/-- append(rows, paths...), the paths' steps being of the call's own. -/
theorem app_path {ops : Array Oper} {rest : List Oper} {o : Oper} {a : Act} {Q : Exit → Act → World → Prop} {w : World} (hgd : o.guard = none) (s x : Operand)
    (ho : o.op = .call { callee := .builtin .append, args := #[s, x], argTypes := #[48, 48] })
    {lo : Nat} {A : Option Addr} {n c : Nat} {L L2 : List Pth} {rs rs2 : List Pl} (hown : PR w lo A n c L rs) (hs : a.eval s = .slice A n c)
    {B : Nat} {A1 : Option Addr} {m c1 : Nat} (hr : Sl w B 1 A1 m c1 (plCells rs2)) (hx : a.eval x = .slice A1 m c1)
    (h2 : ∀ (j : Nat) (p : Pth) (r : Pl), L2[j]? = some p → rs2[j]? = some r → SS w lo r.A r.n r.c p) (hl2 : L2.length = rs2.length) (hn2 : (plFp rs2).Nodup) (hd : ∀ g ∈ plFp rs2, g ∉ blkOf A ∧ g ∉ plFp rs)
    (hn : n + m ≤ 1099511627776) (hbase : lo ≤ w.heap.size)
    (h : ∀ A' c' w', PR w' lo A' (n + m) c' (L ++ L2) (rs ++ rs2) → Gr A A' w w' → wpList Try.prog ops Q rest (a.put o.dst (.slice A' (n + m) c')) w') : wpList Try.prog ops Q (o :: rest) a w := by
  obtain ⟨i0, hi, hz0, hz1, hz2⟩ := info_parts info_path
  have hm : rs2.length = m := by have := hr.len; simp [plCells] at this; omega
  refine wpList_append_sl _ hgd s x 48 ho lo 51 i0 (.agg #[.slice none 0 0]) 1 24 Try.underlying48 hi hz0 hz1 hz2 rfl (by decide) (.slice A n c) n (plCells rs) hs hown.row B A1 m c1 (plCells rs2) hx hr (plCells_one _) (by unfold maxLen; omega) (by omega) hbase ?_
  intro A' c' w' h3 h4 h5
  have hg := gr_of (n' := n + m) (c' := c') h4 h5
  exact h A' c' w' (PR.app (w1 := w) hown h3 hg h2 hl2 hn2 hd (by omega)) hg
theorem app_paths {ops : Array Oper} {o : Oper} {a : Act} {K : Act → World → Prop} {Q : Exit → Act → World → Prop} {E : Prop} {w : World} (hgd : o.guard = none) (s x : Operand)
    (ho : o.op = .call { callee := .builtin .append, args := #[s, x], argTypes := #[48, 48] })
    {lo : Nat} {A : Option Addr} {n c : Nat} {L L2 : List Pth} {rs rs2 : List Pl} (hown : PR w lo A n c L rs) (hs : a.eval s = .slice A n c)
    {B : Nat} {A1 : Option Addr} {m c1 : Nat} (hr : Sl w B 1 A1 m c1 (plCells rs2)) (hx : a.eval x = .slice A1 m c1)
    (h2 : ∀ (j : Nat) (p : Pth) (r : Pl), L2[j]? = some p → rs2[j]? = some r → SS w lo r.A r.n r.c p) (hl2 : L2.length = rs2.length) (hn2 : (plFp rs2).Nodup) (hd : ∀ g ∈ plFp rs2, g ∉ blkOf A ∧ g ∉ plFp rs)
    (hn : n + m ≤ 1099511627776) (hbase : lo ≤ w.heap.size)
    (h : ∀ A' c' w', PR w' lo A' (n + m) c' (L ++ L2) (rs ++ rs2) → Gr A A' w w' → K (a.put o.dst (.slice A' (n + m) c')) w') : if Region.wanted o (yielded ops a.tmps) = true then Oper.wp Try.prog o a w K Q else E := by
  obtain ⟨i0, hi, hz0, hz1, hz2⟩ := info_parts info_path
  have hm : rs2.length = m := by have := hr.len; simp [plCells] at this; omega
  refine step_append_sl _ hgd s x 48 ho lo 51 i0 (.agg #[.slice none 0 0]) 1 24 Try.underlying48 hi hz0 hz1 hz2 rfl (by decide) (.slice A n c) n (plCells rs) hs hown.row B A1 m c1 (plCells rs2) hx hr (plCells_one _) (by unfold maxLen; omega) (by omega) hbase ?_
  intro A' c' w' h3 h4 h5
  have hg := gr_of (n' := n + m) (c' := c') h4 h5
  exact h A' c' w' (PR.app (w1 := w) hown h3 hg h2 hl2 hn2 hd (by omega)) hg
/-- What AllPaths gives: rows in new memory. -/
def ApOut (w w' : World) (L : List Pth) (r : Ending) : Prop := ∃ A' n' c' rs', r = .returned (.slice A' n' c') ∧ PR w' w.heap.size A' n' c' L rs' ∧ Below w.heap.size w w'
end Go.Proofs.Ytpafgmlkbbbmhaa
