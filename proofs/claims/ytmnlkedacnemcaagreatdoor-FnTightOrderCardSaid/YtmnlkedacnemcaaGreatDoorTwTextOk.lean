/- TextOk, RunesOf. -/
import Derived.Test.YtmnlkedacnemcaaGreatDoorTwGetRune
import Derived.Test.YtmnlkedacnemcaaGreatDoorShelf
import Derived.Test.YtmnlkedacnemcaaGreatDoorTwM7
import Derived.Lib.ConvBytes
import Derived.Laws.AppendOwn
set_option linter.unusedVariables false
set_option maxRecDepth 100000
set_option linter.unusedSimpArgs false
namespace Go.Proofs.YtmnlkedacnemcaaGreatDoor
open Go.RowKit

theorem blen_of (s : ByteArray) : s.data.toList.length = s.size := by rw [Array.length_toList]; rfl
/-- The text's bytes as a slice of the call's own. -/
theorem run_bytes_of (s : ByteArray) (w : World) (hs : s.size ≤ 1099511627776) : ∃ (c : Nat) (w' : World), (convert 9 22 (.string s)).run Tryz.prog w = .ok (.slice (some ⟨w.heap.size, 0, none⟩) s.size c) w' ∧ Sl w' w'.heap.size 1 (some ⟨w.heap.size, 0, none⟩) s.size c (u8s s.data.toList) ∧ Below w.heap.size w w' ∧ w.heap.size < w'.heap.size := by
  refine ⟨_, _, Lib.run_convert_string_bytes (P := Tryz.prog) w 9 22 5 s Tryz.underlying9 Tryz.underlying22 Tryz.underlying5, ⟨?_, grownCap_ge w s.size 0 _, ?_, fun _ => ⟨w.heap.size, 0, rfl, by rw [Lib.bytesWorld_size]; exact Nat.lt_succ_self _, fun j u hu => ?_⟩⟩, ?_⟩
  · rw [u8s_len, blen_of, Nat.mul_one]
  · exact grownCap_le_maxLen w s.size 0 _ (by unfold maxLen; omega)
  · have hj : j < s.data.toList.length := by have := (List.getElem?_eq_some_iff.1 hu).1; rw [u8s_len] at this; exact this
    rw [u8s_get _ _ hj] at hu
    rw [Nat.zero_add, Lib.bytesWorld_cell w _ s j (by rw [← blen_of]; exact hj), ← hu, List.getD_eq_getElem?_getD, List.getElem?_eq_getElem hj]
    rfl
  · exact ⟨⟨rfl, rfl, rfl, by rw [Lib.bytesWorld_size]; exact Nat.le_succ _, fun k hk => Lib.bytesWorld_at_old w _ s k hk⟩, by rw [Lib.bytesWorld_size]; exact Nat.lt_succ_self _⟩
theorem drop_ne {l : List UInt8} {j : Nat} (h : j < l.length) : l.drop j ≠ [] := by intro e; have := congrArg List.length e; simp at this; omega
/-- The characters of a text, as far as each is one. -/
def runesG : Nat → List UInt8 → List Int
  | 0, _ => []
  | f + 1, l => match getR l with | none => [] | some d => (d.1 : Int) :: runesG f (l.drop d.2)
def runesL (l : List UInt8) : List Int := runesG l.length l
theorem runesG_nil : ∀ f, runesG f [] = []
  | 0 => rfl
  | f + 1 => rfl
theorem runesG_fuel : ∀ (f f' : Nat) (l : List UInt8), l.length ≤ f → l.length ≤ f' → runesG f l = runesG f' l
  | 0, f', l, h, _ => by
    obtain rfl := List.eq_nil_of_length_eq_zero (by omega : l.length = 0)
    rw [runesG_nil, runesG_nil]
  | f + 1, 0, l, _, h => by
    obtain rfl := List.eq_nil_of_length_eq_zero (by omega : l.length = 0)
    rw [runesG_nil, runesG_nil]
  | f + 1, f' + 1, l, h, h' => by
    simp only [runesG]
    cases hg : getR l with
    | none => rfl
    | some d =>
      obtain ⟨_, _, h1, _, h5, _⟩ := getR_some hg
      simp only []
      rw [runesG_fuel f f' (l.drop d.2) (by rw [List.length_drop]; omega) (by rw [List.length_drop]; omega)]
theorem runesL_cons {l : List UInt8} {d : Nat × Nat} (h : getR l = some d) : runesL l = (d.1 : Int) :: runesL (l.drop d.2) := by
  obtain ⟨_, _, h1, _, h5, _⟩ := getR_some h
  unfold runesL
  obtain ⟨n, hn⟩ : ∃ n, l.length = n + 1 := ⟨l.length - 1, by omega⟩
  rw [hn]
  simp only [runesG, h]
  rw [runesG_fuel n (l.drop d.2).length (l.drop d.2) (by rw [List.length_drop]; omega) (Nat.le_refl _)]
theorem runesL_nil : runesL [] = [] := rfl
theorem runesG_len : ∀ (f : Nat) (l : List UInt8), (runesG f l).length ≤ f
  | 0, _ => Nat.le_refl _
  | f + 1, l => by
    simp only [runesG]
    cases getR l with
    | none => simp
    | some d => have := runesG_len f (l.drop d.2); simp; omega
theorem runesL_len (l : List UInt8) : (runesL l).length ≤ l.length := runesG_len _ _
theorem runesG_ok : ∀ (f : Nat) (l : List UInt8), ∀ x ∈ runesG f l, runeOk x = true
  | 0, _, x, h => by cases h
  | f + 1, l, x, h => by
    simp only [runesG] at h
    cases hg : getR l with
    | none => rw [hg] at h; cases h
    | some d =>
      rw [hg] at h
      rcases List.mem_cons.1 h with rfl | h
      · exact (getR_some hg).1
      · exact runesG_ok f _ x h
/-- A row of numbers of the call's own. -/
def IS (w : World) (lo : Nat) (A : Option Addr) (n c : Nat) (b : List Int) : Prop := w.ownsRow lo 3 1 (.slice A n c) n (i64s b)
theorem IS.sl {w : World} {lo n c : Nat} {A : Option Addr} {b : List Int} (h : IS w lo A n c b) : Sl w w.heap.size 1 A n c (i64s b) := Sl.of_own h
theorem IS.len {w : World} {lo n c : Nat} {A : Option Addr} {b : List Int} (h : IS w lo A n c b) : b.length = n := h.sl.ilen
theorem IS.below {w w' : World} {lo n c : Nat} {A : Option Addr} {b : List Int} (h : IS w lo A n c b) (hb : Below w.heap.size w w') : IS w' lo A n c b := by
  refine ⟨h.1, ?_⟩
  rcases h.2 with h1 | ⟨g, cap, cur, h1, h2, h3, h4⟩
  · exact .inl h1
  · simp only [Value.slice.injEq] at h1
    have hlt : g < w.heap.size := World.ownsRow.lt h g (by rw [h1.1]; rfl) |>.2
    exact .inr ⟨g, cap, cur, by rw [h1.1, h1.2.2], h2, (hb.block g hlt).trans h3, h4⟩
theorem row_ltI {w : World} {lo n c : Nat} {A : Option Addr} {b : List Int} (h : IS w lo A n c b) {g : Nat} (hg : g ∈ blkOf A) : lo ≤ g ∧ g < w.heap.size := by
  refine World.ownsRow.lt h g ?_
  cases A with
  | none => simp [blkOf] at hg
  | some a => simp [blkOf] at hg; simp [hg, Value.ownBlock]
theorem i64s_app (a b : List Int) : i64s (a ++ b) = i64s a ++ i64s b := by simp [i64s]
theorem i64s_one (b : List Int) : ∀ x ∈ i64s b, x.oneCell' = true := fun x hx => by
  obtain ⟨r, _, rfl⟩ := List.mem_map.1 hx; rfl
theorem info_int : (Tryz.prog.info? 3).map (fun i => (i.zero, i.size, i.bytes)) = some (some (.int .i64 0), 1, 8) := by kernel_rfl
theorem app_int {ops : Array Oper} {rest : List Oper} {o : Oper} {a : Act} {Q : Exit → Act → World → Prop} {w : World} (hgd : o.guard = none) (s x : Operand)
    (ho : o.op = .call { callee := .builtin .append, args := #[s, x], argTypes := #[54, 54] })
    {lo : Nat} {A : Option Addr} {n c : Nat} {b : List Int} (hown : IS w lo A n c b) (hs : a.eval s = .slice A n c)
    {B : Nat} {A1 : Option Addr} {m c1 : Nat} {news : List Int} (hr : Sl w B 1 A1 m c1 (i64s news)) (hx : a.eval x = .slice A1 m c1)
    (hn : n + m ≤ 1099511627776) (hbase : lo ≤ w.heap.size)
    (h : ∀ A' c' w', IS w' lo A' (n + m) c' (b ++ news) → Gr A A' w w' → wpList Tryz.prog ops Q rest (a.put o.dst (.slice A' (n + m) c')) w') : wpList Tryz.prog ops Q (o :: rest) a w := by
  obtain ⟨i0, hi, hz0, hz1, hz2⟩ := info_parts info_int
  refine wpList_append_sl _ hgd s x 54 ho lo 3 i0 (.int .i64 0) 1 8 Tryz.underlying54 hi hz0 hz1 hz2 rfl (by decide) (.slice A n c) n (i64s b) hs hown B A1 m c1 (i64s news) hx hr (i64s_one _) (by unfold maxLen; omega) (by omega) hbase ?_
  intro A' c' w' h1 h2 h3
  rw [← i64s_app] at h1
  exact h A' c' w' h1 (gr_of h2 h3)
theorem int1 (w : World) (x : Int) : Sl (w.alloc (.cells #[.int .i64 x] 3)) (w.heap.size + 1) 1 (some ⟨w.heap.size, 0, none⟩) 1 1 (i64s [x]) :=
  Sl.lit w 3 #[_] 1 1 rfl (by decide) _ (Nat.lt_succ_self _)
end Go.Proofs.YtmnlkedacnemcaaGreatDoor
