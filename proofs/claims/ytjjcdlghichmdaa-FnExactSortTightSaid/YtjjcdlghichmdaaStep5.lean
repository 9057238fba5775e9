/- A tree loaded from five cells, and stored into five cells, as a step of a drawn region. -/
import Derived.Test.YtjjcdlghichmdaaCopy
import Derived.Test.YtjjcdlghichmdaaTreeSet
set_option linter.unusedVariables false
set_option maxRecDepth 100000
set_option linter.unusedSimpArgs false
namespace Go.Proofs.Ytjjcdlghichmdaa
open Go.RowKit

set_option maxHeartbeats 1000000 in
theorem step_load5 {ops : Array Oper} {d : Option Tmp} {ty : TypeId} {pos : String} {af : Array Edge} {x : Tmp} {a : Act} {K : Act → World → Prop} {Q : Exit → Act → World → Prop} {E : Prop} {w : World} {g off : Nat} {t : Tr} {e : El}
    (hx : a.tmps[x]?.getD undef = .pointer (some ⟨g, off, none⟩)) (h : Cells5 w g off t e) (hK : K (a.put d (.agg #[.int .i64 t.k, .int .i64 t.n, .int .i64 t.x, .string t.s, .slice e.A e.n e.c])) w) :
    if Region.wanted { dst := d, op := .load 28 (.tmp x), type := ty, pos := pos, after := af, guard := none } (yielded ops a.tmps) = true then Oper.wp Try.prog { dst := d, op := .load 28 (.tmp x), type := ty, pos := pos, after := af, guard := none } a w K Q else E := by
  rw [if_pos (by simp [Region.wanted])]
  obtain ⟨c0, c1, c2, c3, c4⟩ := h
  try go_simp
  try simp only [hx]
  try go_simp
  exact hK
set_option maxHeartbeats 1000000 in
theorem step_store5 {ops : Array Oper} {ty : TypeId} {pos : String} {af : Array Edge} {x y : Tmp} {a : Act} {K : Act → World → Prop} {Q : Exit → Act → World → Prop} {E : Prop} {w : World} {g off : Nat} {t : Tr} {e : El} {T : TypeId} {cs : Array Value}
    (hx : a.tmps[x]?.getD undef = .pointer (some ⟨g, off, none⟩)) (hy : a.tmps[y]?.getD undef = .agg #[.int .i64 t.k, .int .i64 t.n, .int .i64 t.x, .string t.s, .slice e.A e.n e.c]) (hb : Blk w g T cs) (hr : off + 5 ≤ cs.size) (hK : K a (set5 w g off t e)) :
    if Region.wanted { dst := none, op := .store 28 (.tmp x) (.tmp y), type := ty, pos := pos, after := af, guard := none } (yielded ops a.tmps) = true then Oper.wp Try.prog { dst := none, op := .store 28 (.tmp x) (.tmp y), type := ty, pos := pos, after := af, guard := none } a w K Q else E := by
  rw [if_pos (by simp [Region.wanted])]
  obtain ⟨x0, x1, x2, x3, x4, ⟨s0, t0⟩, ⟨s1, t1⟩, ⟨s2, t2⟩, ⟨s3, t3⟩, s4, t4⟩ := hb.five (o := off) hr (.int .i64 t.k) (.int .i64 t.n) (.int .i64 t.x) (.string t.s)
  unfold set5 at hK
  try go_simp
  try simp only [hx, hy]
  try go_simp
  exact hK
end Go.Proofs.Ytjjcdlghichmdaa
