/- TextOk, RunesOf. -/
import Derived.Test.YtceijgaocjghcaaGreatDoorTnGetRune
import Derived.Test.YtceijgaocjghcaaGreatDoorShelf
import Derived.Test.YtceijgaocjghcaaGreatDoorTnM10
import Derived.Lib.ConvBytes
import Derived.Laws.AppendOwn
set_option linter.unusedVariables false
set_option maxRecDepth 100000
set_option linter.unusedSimpArgs false
namespace Go.Proofs.YtceijgaocjghcaaGreatDoor
open Go.RowKit

theorem blen_of (s : ByteArray) : s.data.toList.length = s.size := by rw [Array.length_toList]; rfl
/-- The text's bytes as a slice of the call's own. -/
theorem run_bytes_of (s : ByteArray) (w : World) (hs : s.size ≤ 1099511627776) : ∃ (c : Nat) (w' : World), (convert 9 22 (.string s)).run Tryz.prog w = .ok (.slice (some ⟨w.heap.size, 0, none⟩) s.size c) w' ∧ Sl w' w'.heap.size 1 (some ⟨w.heap.size, 0, none⟩) s.size c (u8s s.data.toList) ∧ Below w.heap.size w w' ∧ w.heap.size < w'.heap.size := by
  refine ⟨_, _, Lib.run_convert_string_bytes (P := Tryz.prog) w 9 22 5 s Tryz.underlying9 Tryz.underlying22 Tryz.underlying5, ⟨?_, grownCap_ge w s.size 0 _, ?_, fun _ => ⟨w.heap.size, 0, rfl, by rw [Lib.bytesWorld_size]; exact Nat.lt_succ_self _, fun j u hu => ?_⟩⟩, ?_⟩
  · rw [u8s_len, blen_of, Nat.mul_one]
  · exact grownCap_le_maxLen w s.size 0 _ (by unfold maxLen; omega)
  · have hj : j < s.data.toList.length := by have := (List.getElem?_eq_some_iff.1 hu).1; rw [u8s_len] at this; exact this
    rw [u8s_get _ _ hj] at hu
    rw [Nat.zero_add, Lib.bytesWorld_cell w _ s j (by rw [← blen_of]; exact hj), ← hu, List.getD_eq_getElem?_getD, List.getElem?_eq_getElem hj]
    rfl
  · exact ⟨⟨rfl, rfl, rfl, by rw [Lib.bytesWorld_size]; exact Nat.le_succ _, fun k hk => Lib.bytesWorld_at_old w _ s k hk⟩, by rw [Lib.bytesWorld_size]; exact Nat.lt_succ_self _⟩
theorem drop_ne {l : List UInt8} {j : Nat} (h : j < l.length) : l.drop j ≠ [] := by intro e; have := congrArg List.length e; simp at this; omega
set_option maxHeartbeats 1000000 in
theorem s_TextOk (s : ByteArray) (w : World) (hs : s.size ≤ 1099511627776) :
    Calls Tryz.prog 110 #[.string s] w fun e w' => e = .returned (.bool (Lib.validD s.data.toList)) ∧ Below w.heap.size w w' := by
  obtain ⟨c, w1, hrun, hsl, hb1, _⟩ := run_bytes_of s w hs
  obtain ⟨R, hR⟩ : ∃ R, Lib.validD s.data.toList = R := ⟨_, rfl⟩
  rw [hR]
  have hll := hsl.blen
  obtain ⟨l, hl⟩ : ∃ l, s.data.toList = l := ⟨_, rfl⟩
  rw [hl] at hsl hll hR
  go_enter Tryz.func110, Tryz.ntmps110
  go_wp2_with fail
  go_loopg [4, 5, 6, 7] (s.size + 1) (fun f x y z u wr => ∃ j : Nat, s.size + 1 ≤ j + f ∧ j ≤ s.size ∧ x = .int .i64 j ∧ Hid (Lib.validD (l.drop j) = R) ∧ w1 = wr)
  case atStart => exact ⟨0, by omega, by omega, rfl, Lib.hid hR, rfl⟩
  case round =>
    obtain ⟨j, hjf, hjs, rfl, hV, rfl⟩ := hrel
    have hget := s_GetRune (some ⟨w.heap.size, 0, none⟩) s.size c l (j : Int) w1 w1.heap.size hsl (by omega) hs
    by_cases hlt : j < s.size
    · obtain ⟨f, rfl⟩ : ∃ f, gk = f + 1 := ⟨gk - 1, by omega⟩
      have hv := hV.out
      rw [validD_getR (drop_ne (by omega))] at hv
      rw [runeAt_in (by omega)] at hget
      cases hg : getR (l.drop j) with
      | none =>
        rw [hg] at hv hget
        simp only [ret3] at hget
        have HV := Lib.hid hv
        clear hv hg hll hR hl
        go_wp2_with (go_at_call 83; refine hget.mono ?_; rintro e w2 ⟨rfl, rfl⟩)
        go_ret
        exact ⟨ret_bool HV.out, hb1⟩
      | some d =>
        rw [hg] at hv hget
        simp only [ret3] at hget
        simp only [List.drop_drop] at hv
        obtain ⟨_, _, h1, h4, h5, _⟩ := getR_some hg
        rw [List.length_drop] at h5
        have HV := Lib.hid hv
        have hjd : j + d.2 ≤ s.size := by omega
        have hjf2 : s.size + 1 ≤ j + d.2 + f := by omega
        clear hv hg hll hR hl
        go_wp2_with (go_at_call 83; refine hget.mono ?_; rintro e w2 ⟨rfl, rfl⟩)
        go_roundg f
        case measure => omega
        case rel => exact ⟨j + d.2, hjf2, hjd, by go_num, HV, rfl⟩
    · have hv := hV.out
      rw [List.drop_eq_nil_of_le (by omega), Lib.validD_nil] at hv
      have HV := Lib.hid hv
      clear hv hll hR hl hget
      go_wp2_with fail
      go_ret
      exact ⟨ret_bool HV.out, hb1⟩
theorem i_TextOk (s : ByteArray) (w : World) (hs : s.size ≤ 1099511627776) (hT : Lib.Utf8Tabs 1 2 w) :
    Calls Tryz.prog 107 #[.string s] w fun e w' => e = .returned (.bool (Lib.validD s.data.toList)) ∧ Below w.heap.size w w' := by
  have hv : Calls Tryz.prog 151 #[.string s] w fun e w' => e = .returned (.bool (Lib.validD s.data.toList)) ∧ Below w.heap.size w w' := Tryz.utf8_ValidString s w (by omega) hT
  go_enter Tryz.func107, Tryz.ntmps107
  go_wp2_with (go_at_call 151; refine hv.mono ?_; rintro e w2 ⟨rfl, hb⟩)
  go_ret
  exact ⟨rfl, hb⟩
/-- The characters of a text, as far as each is one. -/
def runesG : Nat → List UInt8 → List Int
  | 0, _ => []
  | f + 1, l => match getR l with | none => [] | some d => (d.1 : Int) :: runesG f (l.drop d.2)
def runesL (l : List UInt8) : List Int := runesG l.length l
theorem runesG_nil : ∀ f, runesG f [] = []
  | 0 => rfl
  | f + 1 => rfl
theorem runesG_fuel : ∀ (f f' : Nat) (l : List UInt8), l.length ≤ f → l.length ≤ f' → runesG f l = runesG f' l
  | 0, f', l, h, _ => by
    obtain rfl := List.eq_nil_of_length_eq_zero (by omega : l.length = 0)
    rw [runesG_nil, runesG_nil]
  | f + 1, 0, l, _, h => by
    obtain rfl := List.eq_nil_of_length_eq_zero (by omega : l.length = 0)
    rw [runesG_nil, runesG_nil]
  | f + 1, f' + 1, l, h, h' => by
    simp only [runesG]
    cases hg : getR l with
    | none => rfl
    | some d =>
      obtain ⟨_, _, h1, _, h5, _⟩ := getR_some hg
      simp only []
      rw [runesG_fuel f f' (l.drop d.2) (by rw [List.length_drop]; omega) (by rw [List.length_drop]; omega)]
theorem runesL_cons {l : List UInt8} {d : Nat × Nat} (h : getR l = some d) : runesL l = (d.1 : Int) :: runesL (l.drop d.2) := by
  obtain ⟨_, _, h1, _, h5, _⟩ := getR_some h
  unfold runesL
  obtain ⟨n, hn⟩ : ∃ n, l.length = n + 1 := ⟨l.length - 1, by omega⟩
  rw [hn]
  simp only [runesG, h]
  rw [runesG_fuel n (l.drop d.2).length (l.drop d.2) (by rw [List.length_drop]; omega) (Nat.le_refl _)]
theorem runesL_nil : runesL [] = [] := rfl
theorem runesG_len : ∀ (f : Nat) (l : List UInt8), (runesG f l).length ≤ f
  | 0, _ => Nat.le_refl _
  | f + 1, l => by
    simp only [runesG]
    cases getR l with
    | none => simp
    | some d => have := runesG_len f (l.drop d.2); simp; omega
theorem runesL_len (l : List UInt8) : (runesL l).length ≤ l.length := runesG_len _ _
theorem runesG_ok : ∀ (f : Nat) (l : List UInt8), ∀ x ∈ runesG f l, runeOk x = true
  | 0, _, x, h => by cases h
  | f + 1, l, x, h => by
    simp only [runesG] at h
    cases hg : getR l with
    | none => rw [hg] at h; cases h
    | some d =>
      rw [hg] at h
      rcases List.mem_cons.1 h with rfl | h
      · exact (getR_some hg).1
      · exact runesG_ok f _ x h
/-- A row of numbers of the call's own. -/
def IS (w : World) (lo : Nat) (A : Option Addr) (n c : Nat) (b : List Int) : Prop := w.ownsRow lo 3 1 (.slice A n c) n (i64s b)
theorem IS.sl {w : World} {lo n c : Nat} {A : Option Addr} {b : List Int} (h : IS w lo A n c b) : Sl w w.heap.size 1 A n c (i64s b) := Sl.of_own h
theorem IS.len {w : World} {lo n c : Nat} {A : Option Addr} {b : List Int} (h : IS w lo A n c b) : b.length = n := h.sl.ilen
theorem IS.below {w w' : World} {lo n c : Nat} {A : Option Addr} {b : List Int} (h : IS w lo A n c b) (hb : Below w.heap.size w w') : IS w' lo A n c b := by
  refine ⟨h.1, ?_⟩
  rcases h.2 with h1 | ⟨g, cap, cur, h1, h2, h3, h4⟩
  · exact .inl h1
  · simp only [Value.slice.injEq] at h1
    have hlt : g < w.heap.size := World.ownsRow.lt h g (by rw [h1.1]; rfl) |>.2
    exact .inr ⟨g, cap, cur, by rw [h1.1, h1.2.2], h2, (hb.block g hlt).trans h3, h4⟩
theorem row_ltI {w : World} {lo n c : Nat} {A : Option Addr} {b : List Int} (h : IS w lo A n c b) {g : Nat} (hg : g ∈ blkOf A) : lo ≤ g ∧ g < w.heap.size := by
  refine World.ownsRow.lt h g ?_
  cases A with
  | none => simp [blkOf] at hg
  | some a => simp [blkOf] at hg; simp [hg, Value.ownBlock]
theorem i64s_app (a b : List Int) : i64s (a ++ b) = i64s a ++ i64s b := by simp [i64s]
theorem i64s_one (b : List Int) : ∀ x ∈ i64s b, x.oneCell' = true := fun x hx => by
  obtain ⟨r, _, rfl⟩ := List.mem_map.1 hx; rfl
theorem info_int : (Tryz.prog.info? 3).map (fun i => (i.zero, i.size, i.bytes)) = some (some (.int .i64 0), 1, 8) := by kernel_rfl
theorem app_int {ops : Array Oper} {rest : List Oper} {o : Oper} {a : Act} {Q : Exit → Act → World → Prop} {w : World} (hgd : o.guard = none) (s x : Operand)
    (ho : o.op = .call { callee := .builtin .append, args := #[s, x], argTypes := #[57, 57] })
    {lo : Nat} {A : Option Addr} {n c : Nat} {b : List Int} (hown : IS w lo A n c b) (hs : a.eval s = .slice A n c)
    {B : Nat} {A1 : Option Addr} {m c1 : Nat} {news : List Int} (hr : Sl w B 1 A1 m c1 (i64s news)) (hx : a.eval x = .slice A1 m c1)
    (hn : n + m ≤ 1099511627776) (hbase : lo ≤ w.heap.size)
    (h : ∀ A' c' w', IS w' lo A' (n + m) c' (b ++ news) → Gr A A' w w' → wpList Tryz.prog ops Q rest (a.put o.dst (.slice A' (n + m) c')) w') : wpList Tryz.prog ops Q (o :: rest) a w := by
  obtain ⟨i0, hi, hz0, hz1, hz2⟩ := info_parts info_int
  refine wpList_append_sl _ hgd s x 57 ho lo 3 i0 (.int .i64 0) 1 8 Tryz.underlying57 hi hz0 hz1 hz2 rfl (by decide) (.slice A n c) n (i64s b) hs hown B A1 m c1 (i64s news) hx hr (i64s_one _) (by unfold maxLen; omega) (by omega) hbase ?_
  intro A' c' w' h1 h2 h3
  rw [← i64s_app] at h1
  exact h A' c' w' h1 (gr_of h2 h3)
theorem int1 (w : World) (x : Int) : Sl (w.alloc (.cells #[.int .i64 x] 3)) (w.heap.size + 1) 1 (some ⟨w.heap.size, 0, none⟩) 1 1 (i64s [x]) :=
  Sl.lit w 3 #[_] 1 1 rfl (by decide) _ (Nat.lt_succ_self _)
set_option maxHeartbeats 1000000 in
theorem s_RunesOf (s : ByteArray) (w : World) (hs : s.size ≤ 1073741824) :
    Calls Tryz.prog 111 #[.string s] w fun e w' => ∃ A' n' c', e = .returned (.slice A' n' c') ∧ IS w' w.heap.size A' n' c' (if Lib.validD s.data.toList = true then runesL s.data.toList else []) ∧ Below w.heap.size w w' := by
  have htx := s_TextOk s (w.alloc (.cells #[] 3)) (by omega)
  have hE : IS (w.alloc (.cells #[] 3)) w.heap.size (some ⟨w.heap.size, 0, none⟩) 0 0 [] := World.ownsRow_lit w #[] 0 (Nat.le_refl _) (by decide) rfl
  have hb0 := Below.one w (.cells #[] 3)
  cases hV : Lib.validD s.data.toList
  · rw [hV] at htx
    rw [if_neg (by decide)]
    clear hV
    go_enter Tryz.func111, Tryz.ntmps111
    go_wp2_with (go_at_call 110; refine htx.mono ?_; rintro e w1 ⟨rfl, hb1⟩)
    go_ret
    exact ⟨_, _, _, rfl, hE.below hb1, hb0.up hb1⟩
  · rw [hV] at htx
    rw [if_pos rfl]
    obtain ⟨l, hl⟩ : ∃ l, s.data.toList = l := ⟨_, rfl⟩
    obtain ⟨R, hR⟩ : ∃ R, runesL s.data.toList = R := ⟨_, rfl⟩
    rw [hR]
    rw [hl] at hR
    have hVl : Hid (Lib.validD l = true) := by rw [← hl]; exact Lib.hid hV
    clear hV
    go_enter Tryz.func111, Tryz.ntmps111
    go_wp2_with (go_at_call 110; refine htx.mono ?_; rintro e w1 ⟨rfl, hb1⟩; obtain ⟨c, w2, hrun, hsl, hb2, hz2⟩ := run_bytes_of s w1 (by omega))
    have hll := hsl.blen
    rw [hl] at hsl hll
    have hI2 := (hE.below hb1).below hb2
    have k2 := (hb0.up hb1).up hb2
    have hz1 : w.heap.size + 1 ≤ w1.heap.size := by have := hb1.size; simp at this; omega
    clear htx hE hb0 hb1 hb2 hrun hl
    go_loopg [3, 5, 6, 7, 8] (s.size + 1) (fun f v x y z u wr => ∃ (j n' c' : Nat) (A' : Option Addr) (b : List Int), s.size + 1 ≤ j + f ∧ j ≤ s.size ∧ x = .int .i64 j ∧ v = .slice A' n' c' ∧ n' ≤ j ∧ w1.heap.size ∉ blkOf A' ∧ IS wr w.heap.size A' n' c' b ∧ Hid (Lib.validD (l.drop j) = true) ∧ Hid (b ++ runesL (l.drop j) = R) ∧ Sl wr w2.heap.size 1 (some ⟨w1.heap.size, 0, none⟩) s.size c (u8s l) ∧ w2.heap.size ≤ wr.heap.size ∧ Below w.heap.size w wr)
    case atStart => exact ⟨0, 0, 0, _, [], by omega, by omega, rfl, rfl, Nat.le_refl _, by have := hz1; simp [blkOf]; omega, hI2, hVl, Lib.hid hR, hsl, Nat.le_refl _, k2⟩
    case round =>
      obtain ⟨j, n', c', A', b, hjf, hjs, rfl, rfl, hnj, hnA, hI, hV, hB, hS, hz, hK⟩ := hrel
      clear hI2 hsl hR k2 hVl
      have hget := s_GetRune (some ⟨w1.heap.size, 0, none⟩) s.size c l (j : Int) wr w2.heap.size hS (by omega) (by omega)
      by_cases hlt : j < s.size
      · obtain ⟨f, rfl⟩ : ∃ f, gk = f + 1 := ⟨gk - 1, by omega⟩
        have hv := hV.out
        rw [validD_getR (drop_ne (by omega))] at hv
        rw [runeAt_in (by omega)] at hget
        cases hg : getR (l.drop j) with
        | none => rw [hg] at hv; cases hv
        | some d =>
          rw [hg] at hv hget
          simp only [ret3] at hget
          simp only [List.drop_drop] at hv
          obtain ⟨_, _, h1, h4, h5, _⟩ := getR_some hg
          rw [List.length_drop] at h5
          have hb := hB.out
          rw [runesL_cons hg, List.drop_drop] at hb
          have hb2 : (b ++ [(d.1 : Int)]) ++ runesL (l.drop (j + d.2)) = R := by rw [← hb]; simp
          have HV := Lib.hid hv
          have HB := Lib.hid hb2
          have hjd : j + d.2 ≤ s.size := by omega
          have hjf2 : s.size + 1 ≤ j + d.2 + f := by omega
          have hnj2 : n' + 1 ≤ j + d.2 := by omega
          clear hv hg hll hb hb2 hB hV
          go_wp2_with (first
            | (go_at_call 83; refine hget.mono ?_; rintro e w3 ⟨rfl, rfl⟩)
            | (at_builtin; refine app_int rfl _ _ rfl (hI.below (Below.one wr _)) rfl (int1 wr (d.1 : Int)) rfl (by omega) (by have := hK.size; simp; omega) ?_; intro A6 c6 w6 h6 hg6))
          have hfr := (Fr.of_below (fp := blkOf A') (Below.one wr (.cells #[.int .i64 (d.1 : Int)] 3))).trans hg6.fr
          have hS6 := hS.heap_ (w' := w6) (fun k hk hlt3 => hfr.block k (by omega) (by simp [blkOf] at hk; subst hk; exact hnA))
          have hnA6 := hg6.notin hnA (by simp; omega)
          have hK6 := hK.trans (hfr.below (B := w.heap.size) (fun g hg => (row_ltI hI hg).1) hK.size)
          have hz6 : w2.heap.size ≤ w6.heap.size := Nat.le_trans hz hfr.size
          clear hfr hg6 hI hS hget hnA hK
          go_roundg f
          case measure => omega
          case rel => exact ⟨j + d.2, n' + 1, c6, A6, _, hjf2, hjd, by go_num, rfl, hnj2, hnA6, h6, HV, HB, hS6, hz6, hK6⟩
      · have hb := hB.out
        rw [List.drop_eq_nil_of_le (by omega), runesL_nil, List.append_nil] at hb
        rw [hb] at hI
        clear hb hget hB hV hll
        go_wp2_with fail
        go_ret
        exact ⟨_, _, _, rfl, hI, hK⟩
end Go.Proofs.YtceijgaocjghcaaGreatDoor
