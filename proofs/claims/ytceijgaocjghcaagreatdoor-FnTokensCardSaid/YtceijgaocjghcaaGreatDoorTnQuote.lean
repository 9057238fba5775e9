/- Quote, Bare. -/
import Derived.Test.YtceijgaocjghcaaGreatDoorTnTextOk
import Derived.Test.YtceijgaocjghcaaGreatDoorTnM13
import Derived.Lib.OthersKept
import Derived.Lib.TrimUEq
import Derived.WalkSmall
import Derived.Shelf.Unicode.DecodeSlow
import Derived.Laws.RangeAny
set_option linter.unusedVariables false
set_option maxRecDepth 100000
set_option linter.unusedSimpArgs false
namespace Go.Proofs.YtceijgaocjghcaaGreatDoor
open Go.RowKit

def escs (l : List Int) : List UInt8 := l.flatMap escL
theorem escs_len (l : List Int) : (escs l).length ≤ 8 * l.length := by
  induction l with
  | nil => simp [escs]
  | cons a l ih => have := escL_len a; simp only [escs, List.flatMap_cons, List.length_append, List.length_cons] at ih ⊢; omega
theorem escs_snoc (l : List Int) (x : Int) : escs (l ++ [x]) = escs l ++ escL x := by simp [escs, List.flatMap_append]
/-- A text in quotes; no text: nothing. -/
def quoteL (l : List UInt8) : List UInt8 := if Lib.validD l = true then 34 :: (escs (runesL l) ++ [34]) else []
theorem quoteL_no {l : List UInt8} (h : Lib.validD l = false) : quoteL l = [] := by simp [quoteL, h]
theorem quoteL_yes {l : List UInt8} (h : Lib.validD l = true) : quoteL l = 34 :: (escs (runesL l) ++ [34]) := by simp [quoteL, h]
theorem quoteL_len (l : List UInt8) : (quoteL l).length ≤ 8 * l.length + 2 := by
  have h1 := escs_len (runesL l)
  have h2 := runesL_len l
  unfold quoteL
  split <;> simp <;> omega
theorem ba_add (a b : List UInt8) : (⟨a.toArray⟩ : ByteArray) ++ (⟨b.toArray⟩ : ByteArray) = ⟨(a ++ b).toArray⟩ := by
  apply ByteArray.ext
  simp
theorem ba_sz (a : List UInt8) : (⟨a.toArray⟩ : ByteArray).size = a.length := by show a.toArray.size = _; simp
set_option maxHeartbeats 1000000 in
theorem s_Quote (s : ByteArray) (w : World) (hs : s.size ≤ 1073741824) :
    Calls Tryz.prog 73 #[.string s] w fun e w' => e = .returned (.string ⟨(quoteL s.data.toList).toArray⟩) ∧ Below w.heap.size w w' := by
  have htx := s_TextOk s w (by omega)
  cases hV : Lib.validD s.data.toList
  · rw [hV] at htx
    rw [quoteL_no hV]
    clear hV
    go_enter Tryz.func73, Tryz.ntmps73
    go_wp2_with (go_at_call 110; refine htx.mono ?_; rintro e w1 ⟨rfl, hb1⟩)
    go_ret
    exact ⟨ret_str rfl, hb1⟩
  · rw [hV] at htx
    rw [quoteL_yes hV]
    have hro : ∀ w1, Calls Tryz.prog 111 #[.string s] w1 fun e w' => ∃ A' n' c', e = .returned (.slice A' n' c') ∧ IS w' w1.heap.size A' n' c' (runesL s.data.toList) ∧ Below w1.heap.size w1 w' := by
      intro w1
      have := s_RunesOf s w1 hs
      rw [if_pos hV] at this
      exact this
    have hlen := runesL_len s.data.toList
    rw [blen_of] at hlen
    obtain ⟨l, hl⟩ : ∃ l, runesL s.data.toList = l := ⟨_, rfl⟩
    rw [hl] at hro hlen ⊢
    clear hV hl
    go_enter Tryz.func73, Tryz.ntmps73
    go_wp2_with (first
      | (go_at_call 110; refine htx.mono ?_; rintro e w1 ⟨rfl, hb1⟩)
      | (go_at_call 111; refine (hro _).mono ?_; rintro e w2 ⟨A, n, c, rfl, hI, hb2⟩))
    have hsl := hI.sl
    have hn := hI.len
    have k2 := hb1.up hb2
    clear hI hb1 hb2 hro htx
    go_loopg [3, 5] n (fun f v x wr => ∃ j : Nat, j + f = n ∧ x = .int .i64 j ∧ v = .string ⟨(34 :: escs (l.take j)).toArray⟩ ∧ Sl wr w2.heap.size 1 A n c (i64s l) ∧ w2.heap.size ≤ wr.heap.size ∧ Below w.heap.size w wr)
    case atStart => exact ⟨0, by omega, rfl, rfl, hsl, Nat.le_refl _, k2⟩
    case round =>
      obtain ⟨j, hjf, rfl, rfl, hS, hz, hK⟩ := hrel
      clear hsl k2
      by_cases hlt : j < n
      · obtain ⟨f, rfl⟩ : ∃ f, gk = f + 1 := ⟨gk - 1, by omega⟩
        obtain ⟨g, o, rfl, hg, hjl, hc⟩ := hS.int hlt
        have hlj := escs_len (l.take j)
        have hx := escL_len l[j]
        rw [List.length_take] at hlj
        have hsj : escs (l.take (j + 1)) = escs (l.take j) ++ escL l[j] := by rw [List.take_succ_eq_append_getElem hjl, escs_snoc]
        have hjf2 : j + 1 + f = n := by omega
        have HJ := Lib.hid hjf
        clear hjf
        go_wp2_with (go_at_call 112; refine (s_EscapeOf _ _).mono ?_; rintro e w3 ⟨rfl, hb3⟩)
        go_roundg f
        case measure => omega
        case rel => exact ⟨j + 1, hjf2, by go_num, by rw [hsj, ← List.cons_append, ← ba_add], hS.keep fun _ hp => hb3.cell (Nat.lt_of_lt_of_le hp hz), Nat.le_trans hz hb3.size, hK.up hb3⟩
      · have hj : l.take j = l := List.take_of_length_le (by omega)
        rw [hj]
        have hle := escs_len l
        clear hj
        go_wp2_with fail
        go_ret
        exact ⟨ret_str (by rw [← List.cons_append, ← ba_add]), hK⟩
theorem decode_getR {s : ByteArray} {pos : Nat} (h : pos < s.size) (hv : Lib.validD (s.data.toList.drop pos) = true) : getR (s.data.toList.drop pos) = some (Utf8.decode s pos) ∧ Lib.validD (s.data.toList.drop (pos + (Utf8.decode s pos).2)) = true := by
  have hne : s.data.toList.drop pos ≠ [] := drop_ne (by rw [blen_of]; exact h)
  rw [validD_getR hne] at hv
  have hd := Lib.decodeL_drop s pos
  cases hg : getR (s.data.toList.drop pos) with
  | none => rw [hg] at hv; cases hv
  | some d =>
    rw [hg] at hv
    simp only [List.drop_drop] at hv
    have hg2 := hg
    unfold getR at hg2
    rw [if_neg hne] at hg2
    split at hg2
    · cases hg2
    · injection hg2 with e
      rw [hd] at e
      subst e
      exact ⟨rfl, hv⟩
theorem BS.blk_ {w w' : World} {lo n c : Nat} {A : Option Addr} {b : List UInt8} (h : BS w lo A n c b) (hk : ∀ g ∈ blkOf A, w'.heap[g]? = w.heap[g]?) : BS w' lo A n c b := h.heap fun g hg => hk g (mem_blkOf.2 hg)
theorem iterAt_oth (w : World) (k g : Nat) (s : ByteArray) (p : Nat) (h : g ≠ k) : (w.iterAt k s p).heap[g]? = w.heap[g]? := Lib.iterAt_other w k g s p h
set_option maxHeartbeats 2000000 in
theorem i_Quote (s : ByteArray) (w : World) (hs : s.size ≤ 1073741824) (hT : Lib.Utf8Tabs 1 2 w) :
    Calls Tryz.prog 71 #[.string s] w fun e w' => e = .returned (.string ⟨(quoteL s.data.toList).toArray⟩) ∧ Below w.heap.size w w' := by
  have htx := i_TextOk s w (by omega) hT
  cases hV : Lib.validD s.data.toList
  · rw [hV] at htx
    rw [quoteL_no hV]
    clear hV
    go_enter Tryz.func71, Tryz.ntmps71
    go_wp2_with (go_at_call 107; refine htx.mono ?_; rintro e w1 ⟨rfl, hb1⟩)
    go_ret
    exact ⟨ret_str rfl, hb1⟩
  · rw [hV] at htx
    rw [quoteL_yes hV]
    have hV0 : Hid (Lib.validD (s.data.toList.drop 0) = true) := by rw [List.drop_zero]; exact Lib.hid hV
    obtain ⟨R, hR⟩ : ∃ R, 34 :: escs (runesL s.data.toList) = R := ⟨_, rfl⟩
    rw [← List.cons_append, hR]
    have hR0 : Hid (34 :: (([] : List UInt8) ++ escs (runesL (s.data.toList.drop 0))) = R) := by rw [List.drop_zero, List.nil_append]; exact Lib.hid hR
    have hlR := escs_len (runesL s.data.toList)
    have hlR2 := runesL_len s.data.toList
    rw [blen_of] at hlR2
    have hRl : R.length ≤ 8 * s.size + 1 := by rw [← hR, List.length_cons]; omega
    clear hV hR hlR hlR2
    go_enter Tryz.func71, Tryz.ntmps71
    go_wp2_with (go_at_call 107; refine htx.mono ?_; rintro e w1 ⟨rfl, hb1⟩)
    clear htx
    go_loopw [3, 5] (fun v x wr => ∃ (pos n c : Nat) (A : Option Addr) (b : List UInt8), v = .slice A n c ∧ BS wr w1.heap.size A n c (34 :: b) ∧ wr.heap[w1.heap.size + 1]? = some (.stringIter s pos) ∧ w1.heap.size + 1 ∉ blkOf A ∧ n ≤ 8 * pos + 1 ∧ pos ≤ s.size ∧ Hid (Lib.validD (s.data.toList.drop pos) = true) ∧ Hid (34 :: (b ++ escs (runesL (s.data.toList.drop pos))) = R) ∧ Below w1.heap.size w1 wr) (fun _ _ wr => s.size - wr.iterPos (w1.heap.size + 1))
    case atStart =>
      refine ⟨0, 1, 1, some ⟨w1.heap.size, 0, none⟩, [], rfl, ?_, ?_, by simp [blkOf], by omega, by omega, hV0, hR0, ((Below.refl _ _).alloc (Nat.le_refl _) _).alloc (by simp) _⟩
      · exact BS.alloc (show BS (w1.alloc (.cells #[.int .u8 34] 5)) w1.heap.size (some ⟨w1.heap.size, 0, none⟩) 1 1 [34] from World.ownsRow_lit w1 #[.int .u8 34] 1 (Nat.le_refl _) (by decide) rfl) _
      · have := World.iter_heap (w1.alloc (.cells #[.int .u8 34] 5)) s 0
        simpa using this
    case round =>
      obtain ⟨pos, n, c, A, b, rfl, hI, hit, hnA, hn, hps, hV, hB, hK⟩ := hrel
      have hsz : w1.heap.size + 1 < wr.heap.size := lt_of_block hit
      have hp0 := iterPos_of hit
      by_cases hp : pos < s.size
      · have hnx : ∀ ty, (Instr.next (.pointer (some ⟨w1.heap.size + 1, 0, none⟩)) true ty).run Tryz.prog wr = _ := fun ty => Lib.run_next_any_at wr (w1.heap.size + 1) s pos ty hit hp
        have hd := decode_getR hp hV.out
        have hd1 := decode_le s pos
        have hb := hB.out
        rw [runesL_cons hd.1, List.drop_drop] at hb
        have hgs := getR_some (c := (Utf8.decode s pos).1) (k := (Utf8.decode s pos).2) hd.1
        rw [List.length_drop, blen_of] at hgs
        have HV := Lib.hid hd.2
        have hit2 := Lib.iterAt_heap wr (w1.heap.size + 1) s pos (pos + (Utf8.decode s pos).2) hit
        have hI2 := hI.blk_ (w' := wr.iterAt (w1.heap.size + 1) s (pos + (Utf8.decode s pos).2)) (fun g hg => iterAt_oth _ _ _ _ _ (fun e => hnA (e ▸ hg)))
        have hK2 := Lib.below_iterAt hK (k := w1.heap.size + 1) (by omega) s (pos + (Utf8.decode s pos).2)
        have hz2 := Lib.iterAt_size wr (w1.heap.size + 1) s (pos + (Utf8.decode s pos).2)
        obtain ⟨W1, hW1⟩ : ∃ W1, W1 = wr.iterAt (w1.heap.size + 1) s (pos + (Utf8.decode s pos).2) := ⟨_, rfl⟩
        rw [← hW1] at hnx hit2 hI2 hK2 hz2
        obtain ⟨⟨dc, dw⟩, hdd⟩ : ∃ d, Utf8.decode s pos = d := ⟨_, rfl⟩
        rw [hdd] at hnx hit2 hd1 hb hgs HV
        simp only [] at hnx hit2 hd1 hb hgs HV
        have hsz2 : w1.heap.size + 1 < W1.heap.size := by omega
        have hel := escL_len (dc : Int)
        have hes : ∀ b : List UInt8, 34 :: (b ++ escs ((dc : Int) :: runesL (s.data.toList.drop (pos + dw)))) = 34 :: ((b ++ escL (dc : Int)) ++ escs (runesL (s.data.toList.drop (pos + dw)))) := by intro b; simp [escs]
        rw [hes] at hb
        have HB := Lib.hid hb
        obtain ⟨_, _, g1, g4, g5, _⟩ := hgs
        clear hW1 hz2 hdd hd hb hes hI hit hB hV hsz hK
        go_wp2_with (first
          | (go_at_call 108; refine (i_EscapeOf _ _).mono ?_; rintro e w3 ⟨rfl, hb3⟩)
          | (at_builtin; refine app_strg rfl _ _ rfl (hI2.below hb3) rfl rfl (by rw [ba_sz]; omega) (by have := hb3.size; omega) ?_; intro A6 c6 w6 h6 hg6))
        have hit6 : w6.heap[w1.heap.size + 1]? = some (.stringIter s (pos + dw)) := by
          rw [hg6.fr.block _ (by have := hb3.size; omega) hnA, hb3.block _ (by omega)]; exact hit2
        have hnA6 := hg6.notin hnA (by have := hb3.size; omega)
        have hK6 := (hK2.up hb3).trans (hg6.below (hI2.below hb3) (by have := hb3.size; omega))
        go_roundw
        case measure => rw [iterPos_of hit6, hp0]; omega
        case rel => exact ⟨pos + dw, _, c6, A6, b ++ escL (dc : Int), rfl, h6, hit6, hnA6, by (show n + (escL (dc : Int)).length ≤ 8 * (pos + dw) + 1); omega, by omega, HV, HB, hK6⟩
      · have hnx : ∀ ty, (Instr.next (.pointer (some ⟨w1.heap.size + 1, 0, none⟩)) true ty).run Tryz.prog wr = _ := fun ty => Lib.run_next_end_at wr (w1.heap.size + 1) s pos ty hit hp
        have hb := hB.out
        rw [List.drop_eq_nil_of_le (by rw [blen_of]; omega)] at hb
        have hb2 : (34 :: b : List UInt8) = R := by rw [← hb]; simp [runesL_nil, escs]
        rw [hb2] at hI
        clear hb hb2 hB hV
        go_wp2_with (at_builtin; refine app_u8g rfl _ _ rfl (hI.alloc _) rfl (lit1 wr 34 (by decide)) rfl (by omega) (by simp; omega) ?_; intro A6 c6 w6 h6 hg6; have hcv := run_str_sl (P := Tryz.prog) 22 5 Tryz.underlying22 Tryz.underlying5 h6.sl 9 Tryz.underlying9)
        go_ret
        exact ⟨ret_str rfl, hb1.up ((hK.alloc (by have := hK.size; omega) _).trans (hg6.below (hI.alloc _) (by simp; omega)))⟩
theorem quoted_eq (s : ByteArray) : ({ data := #[34] } ++ s ++ { data := #[34] } : ByteArray).toList = 34 :: (s.data.toList ++ [34]) := by rw [ByteArray.toList_eq]; simp
/-- Nothing is escaped. -/
def bareL (l : List UInt8) : Bool := Lib.validD l && (quoteL l == 34 :: (l ++ [34]))
end Go.Proofs.YtceijgaocjghcaaGreatDoor
