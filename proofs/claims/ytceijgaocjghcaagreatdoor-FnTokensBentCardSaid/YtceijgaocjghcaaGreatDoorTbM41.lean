/- The laws' sameTokens; tokens that are read. Written by gen/tokbent.py. Numbers drawn, bounded on both sides. Written by gen/tokdraws.py. Texts drawn are texts. Written by gen/tokdraws.py. ReadToken: plain, for both sides. Written by gen/readtok.py. -/
import Derived.Test.YtceijgaocjghcaaGreatDoorTbM26
import Derived.Test.YtceijgaocjghcaaGreatDoorTbTokRound
import Derived.Test.YtceijgaocjghcaaGreatDoorTbQuotesLaw
import Derived.BigQuiet
import Derived.Deep.LoopGhost
import Derived.Test.YtceijgaocjghcaaGreatDoorTbM34
import Derived.Test.YtceijgaocjghcaaGreatDoorTbQDraws2
import Derived.Test.YtceijgaocjghcaaGreatDoorTbQuotePlain
import Derived.Test.YtceijgaocjghcaaGreatDoorTbTokP
set_option linter.unusedVariables false
set_option maxRecDepth 100000
set_option linter.unusedSimpArgs false
namespace Go.Proofs.YtceijgaocjghcaaGreatDoor
open Go.RowKit

theorem tokQ_rd {l : List UInt8} {p : Nat} {t : Tk} {q : Int} (hl : l.length ≤ 1073741824) (h : tokQ l p = (t, q, 0)) (hk : ¬ t.k = 0) : RdTk t := by
  unfold tokQ at h
  split at h
  · simp only [Prod.mk.injEq] at h
    rw [← h.1] at hk
    exact absurd rfl hk
  split at h
  · rename_i hs
    simp only [Prod.mk.injEq] at h
    rw [← h.1]
    exact .sign _ hs
  split at h
  · unfold quoP at h
    split at h
    · rename_i h0
      simp only [Prod.mk.injEq] at h
      rw [← h.1]
      exact .text _ (quotedL_text h0)
    · rename_i h0
      simp only [Prod.mk.injEq] at h
      exact absurd h.2.2 h0
  split at h
  · unfold numT at h
    split at h
    · simp only [Prod.mk.injEq] at h
      rw [← h.1]
      exact .num _ _ (numbP_num (p := p) hl).n
    · rename_i h0
      simp only [Prod.mk.injEq] at h
      exact absurd h.2.2 h0
  unfold wordP at h
  split at h
  · simp only [Prod.mk.injEq] at h; rw [← h.1]; exact .word _ (.inl rfl)
  split at h
  · simp only [Prod.mk.injEq] at h; rw [← h.1]; exact .word _ (.inr (.inl rfl))
  split at h
  · simp only [Prod.mk.injEq] at h; rw [← h.1]; exact .word _ (.inr (.inr rfl))
  · simp only [Prod.mk.injEq] at h; exact absurd h.2.2 (by decide)
theorem tokP_rd {l : List UInt8} {i : Int} {t : Tk} {q : Int} (hl : l.length ≤ 1073741824) (h : tokP l i = (t, q, 0)) (hk : ¬ t.k = 0) : RdTk t := by
  unfold tokP at h
  split at h
  · simp only [Prod.mk.injEq] at h; exact absurd h.2.2 (by decide)
  · exact tokQ_rd hl h hk
theorem toksG_rd {l : List UInt8} (hl : l.length ≤ 1073741824) : ∀ (f p : Nat) (acc : List Tk), (∀ t ∈ acc, RdTk t) → ∀ t ∈ (toksG l f p acc).1, RdTk t
  | 0, _, _, _ => fun t ht => by (simp only [toksG] at ht; cases ht)
  | f + 1, p, acc, ha => by
    obtain ⟨⟨t, q, c⟩, hr⟩ : ∃ r, tokP l p = r := ⟨_, rfl⟩
    by_cases hc : c = 0
    · subst hc
      by_cases hk : t.k = 0
      · rw [toksG_end hr hk]; exact ha
      · rw [toksG_step hr hk]
        refine toksG_rd hl f _ _ fun u hu => ?_
        rcases List.mem_append.1 hu with hu | hu
        · exact ha u hu
        · rw [List.mem_singleton] at hu; rw [hu]; exact tokP_rd hl hr hk
    · rw [toksG_bad hr hc]; exact fun u hu => by (cases hu)
theorem toksL_rd {l : List UInt8} (hl : l.length ≤ 1073741824) : ∀ t ∈ (toksL l).1, RdTk t := toksG_rd hl _ _ _ (fun t ht => by cases ht)
theorem toksG_none (l : List UInt8) : ∀ (f p : Nat) (acc : List Tk), ¬ (toksG l f p acc).2 = 0 → (toksG l f p acc).1 = []
  | 0, _, _, _ => rfl
  | f + 1, p, acc, h => by
    obtain ⟨⟨t, q, c⟩, hr⟩ : ∃ r, tokP l p = r := ⟨_, rfl⟩
    by_cases hc : c = 0
    · subst hc
      by_cases hk : t.k = 0
      · rw [toksG_end hr hk] at h; exact absurd rfl h
      · rw [toksG_step hr hk] at h ⊢; exact toksG_none l f _ _ h
    · rw [toksG_bad hr hc]
set_option maxHeartbeats 1600000 in
theorem l_sameTokens (l : List Tk) (A1 : Option Addr) (n1 c1 : Nat) (A2 : Option Addr) (n2 c2 : Nat) (w : World) (h1 : Sl w w.heap.size 4 A1 n1 c1 (tkC l)) (h2 : Sl w w.heap.size 4 A2 n2 c2 (tkC l)) :
    Calls Tryz.prog 15 #[.slice A1 n1 c1, .slice A2 n2 c2] w fun r w' => r = .returned (.bool true) ∧ Below w.heap.size w w' := by
  have e1 := h1.tklen
  have e2 := h2.tklen
  have hc : n1 ≤ 9223372036854775807 := by have := h1.cap; have := h1.max; unfold maxLen at *; omega
  obtain rfl : n1 = n2 := by omega
  go_enter Tryz.func15, Tryz.ntmps15
  go_wp2_with fail
  go_loopg [5] n1 (fun f i wr => ∃ j : Nat, j + f = n1 ∧ i = .int .i64 j ∧ Below w.heap.size w wr)
  case atStart => exact ⟨0, by omega, rfl, Below.refl _ _⟩
  case round =>
    obtain ⟨j, hjk, rfl, hb⟩ := hrel
    by_cases hlt : j < n1
    · obtain ⟨f, rfl⟩ : ∃ f, gk = f + 1 := ⟨gk - 1, by omega⟩
      obtain ⟨g1, o1, hl, hA1, hg1, x0, x1, x2, x3⟩ := (h1.below hb).tok hlt
      obtain ⟨g2, o2, hl', hA2, hg2, y0, y1, y2, y3⟩ := (h2.below hb).tok hlt
      subst hA1 hA2
      obtain ⟨⟨tk, ts, tn, tx⟩, ht⟩ : ∃ t, l[j] = t := ⟨_, rfl⟩
      rw [ht] at x0 x1 x2 x3 y0 y1 y2 y3
      simp only at x0 x1 x2 x3 y0 y1 y2 y3
      have hji : (j : Int) < (n1 : Int) := by omega
      have hjk2 : j + 1 + f = n1 := by omega
      clear hjk
      go_wp2_with fail
      go_quiet (fail)
      go_wp2_with fail
      go_roundg f
      case measure => omega
      case rel => exact ⟨j + 1, hjk2, by go_num, hb.trans ((Drawn.drewN (Drawn.refl _) _).below _)⟩
    · go_wp2_with fail
      go_ret
      exact ⟨rfl, hb⟩
end Go.Proofs.YtceijgaocjghcaaGreatDoor

namespace Go.Proofs.YtceijgaocjghcaaGreatDoor
open Go.RowKit

theorem wrap64_two (x : Int) : -9223372036854775808 ≤ wrap64 x ∧ wrap64 x ≤ 9223372036854775807 := by unfold wrap64; omega
set_option maxHeartbeats 2000000 in
theorem s_l1NumB (B g n c : Nat) (A : Option Addr) (b : List UInt8) (w : World) (h : Cur w B g A n c b) :
    Calls Tryz.prog 172 #[.pointer (some ⟨g, 0, none⟩)] w fun r w' => ∃ x : Int, r = .returned (.int .i64 x) ∧ (-9223372036854775808 ≤ x ∧ x ≤ 9223372036854775807) ∧ Cur w' B g A n c b ∧ Fr [g] w w' := by
  have hF0 := Fr.refl [g] w
  go_enter Tryz.func172, Tryz.ntmps172
  go_wp2_with fail
  refine (s_l1Below B g n c A b 5 _ h (by decide)).mono ?_; rintro r w1 ⟨x, rfl, hx, hCw1, hfw1⟩
  have hFw1 := hF0.trans hfw1
  by_cases e0 : x = 0
  · subst e0
    go_wp2_with fail
    refine (s_l1Below B g n c A b 70000 _ hCw1 (by decide)).mono ?_; rintro r w2 ⟨y, rfl, hy, hCw2, hfw2⟩
    have hFw2 := hFw1.trans hfw2
    go_wp2_with fail
    go_ret
    refine ⟨_, rfl, ?_, hCw2, hFw2⟩
    have hyb := hy.2 (by decide)
    first | omega | exact wrap64_two _ | exact hy
  have z0 : (x == 0) = false := by simp [e0]
  by_cases e1 : x = 1
  · subst e1
    go_wp2_with fail
    refine (s_l1Int B g n c A b (some ⟨w1.heap.size, 0, none⟩) 9 9 [0, 1, 9, 10, 255, 256, 65535, 65536, 1000000000000000] _ (hCw1.below (Below.one _ _)) (by exact i64s_lit _ _ [0, 1, 9, 10, 255, 256, 65535, 65536, 1000000000000000] _ rfl (by exact Nat.le_of_ble_eq_true rfl)) (lit_ne hCw1.lt) (by decide)).mono ?_; rintro r w2 ⟨y, rfl, hy, hCw2, hfw2⟩
    have hFw2 := (hFw1.trans (Fr.of_below (Below.one _ _))).trans hfw2
    go_wp2_with fail
    go_ret
    refine ⟨_, rfl, ?_, hCw2, hFw2⟩
    simp only [List.mem_cons, List.not_mem_nil, or_false] at hy
    first | omega | exact wrap64_two _ | exact hy
  have z1 : (x == 1) = false := by simp [e1]
  by_cases e2 : x = 2
  · subst e2
    go_wp2_with fail
    refine (s_l1Below B g n c A b 1000000 _ hCw1 (by decide)).mono ?_; rintro r w2 ⟨y, rfl, hy, hCw2, hfw2⟩
    have hFw2 := hFw1.trans hfw2
    go_wp2_with fail
    refine (s_l1Below B g n c A b 1000000 _ hCw2 (by decide)).mono ?_; rintro r w3 ⟨y2, rfl, hy2, hCw3, hfw3⟩
    have hFw3 := hFw2.trans hfw3
    go_wp2_with fail
    go_ret
    refine ⟨_, rfl, ?_, hCw3, hFw3⟩
    first | omega | exact wrap64_two _ | exact hy
  have z2 : (x == 2) = false := by simp [e2]
  by_cases e3 : x = 3
  · subst e3
    go_wp2_with fail
    refine (s_l1Below B g n c A b 50 _ hCw1 (by decide)).mono ?_; rintro r w2 ⟨y, rfl, hy, hCw2, hfw2⟩
    have hFw2 := hFw1.trans hfw2
    obtain ⟨hy0, hy1⟩ := hy.2 (by decide)
    obtain ⟨k, rfl⟩ := Int.eq_ofNat_of_zero_le hy0
    go_wp2_with fail
    go_ret
    refine ⟨_, rfl, ?_, hCw2, hFw2⟩
    first | omega | exact wrap64_two _ | exact hy
  · have z3 : (x == 3) = false := by simp [e3]
    go_wp2_with fail
    refine (s_l1Below B g n c A b 30 _ hCw1 (by decide)).mono ?_; rintro r w2 ⟨y, rfl, hy, hCw2, hfw2⟩
    have hFw2 := hFw1.trans hfw2
    go_wp2_with fail
    go_ret
    refine ⟨_, rfl, ?_, hCw2, hFw2⟩
    have hyb := hy.2 (by decide)
    first | omega | exact wrap64_two _ | exact hy
set_option maxHeartbeats 2000000 in
theorem s_l1SignedB (B g n c : Nat) (A : Option Addr) (b : List UInt8) (w : World) (h : Cur w B g A n c b) :
    Calls Tryz.prog 129 #[.pointer (some ⟨g, 0, none⟩)] w fun r w' => ∃ x : Int, r = .returned (.int .i64 x) ∧ (-9223372036854775808 ≤ x ∧ x ≤ 9223372036854775807) ∧ Cur w' B g A n c b ∧ Fr [g] w w' := by
  have hF0 := Fr.refl [g] w
  go_enter Tryz.func129, Tryz.ntmps129
  go_wp2_with fail
  refine (s_l1Once B g n c A b 2 _ h (by decide)).mono ?_; rintro r w1 ⟨o1, rfl, hCw1, hfw1⟩
  have hFw1 := hF0.trans hfw1
  cases o1
  · go_wp2_with fail
    refine (s_l1NumB B g n c A b _ hCw1).mono ?_; rintro r w2 ⟨y, rfl, hy, hCw2, hfw2⟩
    have hFw2 := hFw1.trans hfw2
    go_wp2_with fail
    go_ret
    refine ⟨_, rfl, ?_, hCw2, hFw2⟩
    first | omega | exact wrap64_two _ | exact hy
  · go_wp2_with fail
    refine (s_l1NumB B g n c A b _ hCw1).mono ?_; rintro r w2 ⟨y, rfl, hy, hCw2, hfw2⟩
    have hFw2 := hFw1.trans hfw2
    go_wp2_with fail
    go_ret
    refine ⟨_, rfl, ?_, hCw2, hFw2⟩
    first | omega | exact wrap64_two _ | exact hy
end Go.Proofs.YtceijgaocjghcaaGreatDoor

namespace Go.Proofs.YtceijgaocjghcaaGreatDoor
open Go.RowKit

theorem s_l2RuneV (B g n c : Nat) (A : Option Addr) (b : List UInt8) (w : World) (h : Cur w B g A n c b) :
    Calls Tryz.prog 149 #[.pointer (some ⟨g, 0, none⟩)] w fun r w' => ∃ x : Int, r = .returned (.int .i64 x) ∧ runeOk x = true ∧ Cur w' B g A n c b ∧ Fr [g] w w' := by
  go_enter Tryz.func149, Tryz.ntmps149
  go_wp2_with fail
  refine (s_l1Int _ _ n c A b (some ⟨w.heap.size, 0, none⟩) 18 18 [0, 97, 98, 34, 92, 10, 127, 128, 233, 2047, 2048, 8364, 55295, 57344, 65535, 65536, 128512, 1114111] _ (h.below (Below.one _ _)) (by exact i64s_lit _ _ [0, 97, 98, 34, 92, 10, 127, 128, 233, 2047, 2048, 8364, 55295, 57344, 65535, 65536, 128512, 1114111] _ rfl (by exact Nat.le_of_ble_eq_true rfl)) (lit_ne h.lt) (by decide)).mono ?_; rintro r w2 ⟨x, rfl, hx, hC2, hf2⟩
  go_wp2_with fail
  go_ret
  have hro : ∀ x ∈ ([0, 97, 98, 34, 92, 10, 127, 128, 233, 2047, 2048, 8364, 55295, 57344, 65535, 65536, 128512, 1114111] : List Int), runeOk x = true := by decide
  exact ⟨x, rfl, hro x hx, hC2, (Fr.of_below (Below.one _ _)).trans hf2⟩
set_option maxHeartbeats 2000000 in
theorem s_l2TextV (B g n c : Nat) (A : Option Addr) (b : List UInt8) (w : World) (h : Cur w B g A n c b) :
    Calls Tryz.prog 105 #[.pointer (some ⟨g, 0, none⟩)] w fun r w' => ∃ s : ByteArray, r = .returned (.string s) ∧ s.size ≤ 100 ∧ Lib.validD s.data.toList = true ∧ Cur w' B g A n c b ∧ Fr [g] w w' := by
  have hgw := h.lt
  go_enter Tryz.func105, Tryz.ntmps105
  go_wp2_with fail
  refine (s_l1Once B g n c A b 2 _ h (by decide)).mono ?_; rintro r w1 ⟨x1, rfl, hC1, hf1⟩
  cases x1 with
  | true =>
    go_wp2_with fail
    refine (s_l1Str _ _ n c A b (some ⟨w1.heap.size, 0, none⟩) 9 9 [⟨#[]⟩, ⟨#[97]⟩, ⟨#[98]⟩, ⟨#[107, 101, 121]⟩, ⟨#[120, 32, 121]⟩, ⟨#[49]⟩, ⟨#[195, 169]⟩, ⟨#[34]⟩, ⟨#[92]⟩] _ (hC1.below (Below.one _ _)) (by exact strs_lit _ 0 [⟨#[]⟩, ⟨#[97]⟩, ⟨#[98]⟩, ⟨#[107, 101, 121]⟩, ⟨#[120, 32, 121]⟩, ⟨#[49]⟩, ⟨#[195, 169]⟩, ⟨#[34]⟩, ⟨#[92]⟩] _ rfl (by exact Nat.le_of_ble_eq_true rfl)) (lit_ne hC1.lt) (by decide)).mono ?_; rintro r w2 ⟨s, rfl, hs, hC2, hf2⟩
    go_wp2_with fail
    go_ret
    have hsd : s.size ≤ 100 := by
      simp only [List.mem_cons, List.mem_nil_iff, or_false] at hs
      rcases hs with rfl | rfl | rfl | rfl | rfl | rfl | rfl | rfl | rfl <;> decide
    have hsv : Lib.validD s.data.toList = true := by
      simp only [List.mem_cons, List.mem_nil_iff, or_false] at hs
      rcases hs with rfl | rfl | rfl | rfl | rfl | rfl | rfl | rfl | rfl
      · exact (encAll_text [] (by decide)).1
      · exact (encAll_text [97] (by decide)).1
      · exact (encAll_text [98] (by decide)).1
      · exact (encAll_text [107, 101, 121] (by decide)).1
      · exact (encAll_text [120, 32, 121] (by decide)).1
      · exact (encAll_text [49] (by decide)).1
      · exact (encAll_text [233] (by decide)).1
      · exact (encAll_text [34] (by decide)).1
      · exact (encAll_text [92] (by decide)).1
    exact ⟨s, rfl, hsd, hsv, hC2, (hf1.trans (Fr.of_below (Below.one _ _))).trans hf2⟩
  | false =>
    have hE : IS (w1.alloc (.cells #[] 3)) w.heap.size (some ⟨w1.heap.size, 0, none⟩) 0 0 [] := own_mono (World.ownsRow_lit w1 #[] 0 (Nat.le_refl _) (by decide) rfl) hf1.size
    have hfE := hf1.trans (Fr.of_below (Below.one w1 (.cells #[] 3)))
    go_wp2_with fail
    refine (s_l1Below B g n c A b 4 _ (hC1.below (Below.one _ _)) (by decide)).mono ?_; rintro r w2 ⟨x, rfl, hx, hC2, hf2⟩
    obtain ⟨hx0, hx1⟩ := hx.2 (by decide)
    obtain ⟨i0, rfl⟩ := Int.eq_ofNat_of_zero_le hx0
    have hI2 := hE.fr hf2 (fun y hy => by have := (row_ltI hE hy).1; simp; omega)
    have hF2 := hfE.trans hf2
    clear hE hfE hf2 hC1 hf1
    go_wp2_with fail
    go_loopg [3, 4] i0 (fun f v3 v4 wr => ∃ (k c' : Nat) (A' : Option Addr) (l : List Int), v4 = .int .i64 f ∧ v3 = .slice A' k c' ∧ k + f ≤ 3 ∧ IS wr w.heap.size A' k c' l ∧ w.heap.size ≤ wr.heap.size ∧ Cur wr B g A n c b ∧ Fr [g] w wr ∧ ∀ x ∈ l, runeOk x = true)
    case atStart => exact ⟨0, 0, _, [], rfl, rfl, by omega, hI2, hF2.size, hC2, hF2, fun x hx => by (cases hx)⟩
    case round =>
      obtain ⟨k, c', A', l, rfl, rfl, hk, hI, hz, hC, hF, hro⟩ := hrel
      clear hI2 hF2 hC2
      cases gk with
      | zero =>
        have hfr := s_FromRunes A' k c' l wr wr.heap.size hI.sl (Nat.le_refl _) (by omega)
        have hll := encAll_len l
        have hlk := hI.len
        go_wp2_with (go_at_call 82; refine hfr.mono ?_; rintro e w3 ⟨rfl, hb3⟩)
        go_ret
        exact ⟨_, rfl, by rw [ba_sz]; omega, by (have := (encAll_text l hro).1; simpa using this), hC.below hb3, hF.trans (Fr.of_below hb3)⟩
      | succ f =>
        have hpos : (0 : Int) < ((f + 1 : Nat) : Int) := by omega
        have hru := s_l2RuneV B g n c A b wr hC
        go_wp2_with (first
          | (go_at_call 149; refine hru.mono ?_; rintro e w3 ⟨z, rfl, hzr, hC3, hf3⟩; have hI3 := hI.fr hf3 (fun y hy => by have := (row_ltI hI hy).1; simp; omega); have hz3 : w.heap.size ≤ w3.heap.size := Nat.le_trans hz hf3.size)
          | (at_builtin; refine app_int rfl _ _ rfl (hI3.below (Below.one w3 _)) rfl (int1 w3 z) rfl (by omega) (by simp; omega) ?_; intro A6 c6 w6 h6 hg6))
        have kb6 : Below w.heap.size w3 w6 := ((Below.refl w.heap.size w3).alloc hz3 (.cells #[.int .i64 z] 3)).trans (hg6.fr.below (B := w.heap.size) (fun y hy => (row_ltI hI3 hy).1) (by simp; omega))
        have hC6 := hC3.low kb6 hgw
        have hF6 : Fr [g] w w6 := (hF.trans hf3).onBelow kb6
        go_roundg f
        case measure => omega
        case rel => exact ⟨k + 1, c6, A6, _, by go_num, rfl, by omega, h6, hF6.size, hC6, hF6, fun x hx => by (rcases List.mem_append.1 hx with hx | hx; exact hro x hx; rw [List.mem_singleton] at hx; rw [hx]; exact hzr)⟩
end Go.Proofs.YtceijgaocjghcaaGreatDoor

namespace Go.Proofs.YtceijgaocjghcaaGreatDoor
open Go.RowKit

/-- What is left of the words at the j-th. -/
def wordG (l : List UInt8) (p : Nat) : Nat → TkR
  | 0 => wordP l p
  | 1 => if Lib.hasPrefix (l.drop p) wTrue = true then (⟨4, ⟨wTrue.toArray⟩, 0, 0⟩, (p : Int) + 4, 0) else if Lib.hasPrefix (l.drop p) wFalse = true then (⟨4, ⟨wFalse.toArray⟩, 0, 0⟩, (p : Int) + 5, 0) else (noTk, 0, 1)
  | 2 => if Lib.hasPrefix (l.drop p) wFalse = true then (⟨4, ⟨wFalse.toArray⟩, 0, 0⟩, (p : Int) + 5, 0) else (noTk, 0, 1)
  | _ => (noTk, 0, 1)
def wordOf : Nat → List UInt8
  | 0 => wNull
  | 1 => wTrue
  | _ => wFalse
theorem wordG_yes {l : List UInt8} {p : Nat} : ∀ {j : Nat}, j < 3 → Lib.hasPrefix (l.drop p) (wordOf j) = true → wordG l p j = (⟨4, ⟨(wordOf j).toArray⟩, 0, 0⟩, (p : Int) + (wordOf j).length, 0)
  | 0, _, h => if_pos h
  | 1, _, h => if_pos h
  | 2, _, h => if_pos h
  | j + 3, h0, _ => by omega
theorem wordG_no {l : List UInt8} {p : Nat} : ∀ {j : Nat}, j < 3 → Lib.hasPrefix (l.drop p) (wordOf j) = false → wordG l p j = wordG l p (j + 1)
  | 0, _, h => if_neg (by rw [show Lib.hasPrefix (l.drop p) wNull = false from h]; decide)
  | 1, _, h => if_neg (by rw [show Lib.hasPrefix (l.drop p) wTrue = false from h]; decide)
  | 2, _, h => if_neg (by rw [show Lib.hasPrefix (l.drop p) wFalse = false from h]; decide)
  | j + 3, h0, _ => by omega
theorem Blk.tokQ {w : World} {g : Nat} {t : TypeId} {y0 y1 y2 y3 : Value} (h : Blk w g t #[y0, y1, y2, y3]) (a b c d : Value) : Blk ((((w.setCell ⟨g, 0, none⟩ a).setCell ⟨g, 1, none⟩ b).setCell ⟨g, 2, none⟩ c).setCell ⟨g, 3, none⟩ d) g t #[a, b, c, d] := by
  simpa using (((h.set_ 0 a).set_ 1 b).set_ 2 c).set_ 3 d
theorem below_set4 {w w' : World} {g : Nat} (K : Below w.heap.size w w') (hg : w.heap.size ≤ g) (a b c d : Value) : Below w.heap.size w ((((w'.setCell ⟨g, 0, none⟩ a).setCell ⟨g, 1, none⟩ b).setCell ⟨g, 2, none⟩ c).setCell ⟨g, 3, none⟩ d) :=
  (((K.setCell (p := ⟨g, 0, none⟩) hg a).setCell (p := ⟨g, 1, none⟩) hg b).setCell (p := ⟨g, 2, none⟩) hg c).setCell (p := ⟨g, 3, none⟩) hg d
theorem retT_eq {t t' : Tk} {q q' c c' : Int} (h1 : t = t') (h2 : q = q') (h3 : c = c') : Ending.returned (.tuple #[.agg #[.int .i64 t.k, .string t.s, .int .i64 t.n, .int .i64 t.x], .int .i64 q, .int .i64 c]) = retT (t', q', c') := by subst h1 h2 h3; rfl
theorem extract_one (s : ByteArray) (q : Nat) (h : q < s.size) : s.extract q (q + 1) = ⟨#[s[q]]⟩ := by
  rw [extractL, show q + 1 - q = 1 by omega, List.drop_eq_getElem_cons (by rw [blen_of]; exact h), getElem_data s q h]
  rfl
theorem skip_in {l : List UInt8} {p : Nat} (h : p ≤ l.length) : tokP l (p : Int) = tokQ l (skipN l p) := by
  unfold tokP; rw [if_neg (by omega), Int.toNat_natCast]
theorem tokQ_end {l : List UInt8} {p : Nat} (h : l.length ≤ p) : tokQ l p = (noTk, (p : Int), 0) := by unfold tokQ; rw [if_pos h]
theorem tokQ_sign {l : List UInt8} {p : Nat} (h : p < l.length) (h2 : isSign (l.getD p 0) = true) : tokQ l p = (⟨1, ⟨#[l.getD p 0]⟩, 0, 0⟩, (p : Int) + 1, 0) := by
  unfold tokQ; rw [if_neg (by omega), if_pos h2]
theorem sign_no {l : List UInt8} {p : Nat} (h2 : isSign (l.getD p 0) = false) : ¬ isSign (l.getD p 0) = true := by rw [h2]; decide
theorem tokQ_quo {l : List UInt8} {p : Nat} (h : p < l.length) (h2 : isSign (l.getD p 0) = false) (h3 : l.getD p 0 = 34) : tokQ l p = quoP (quotedL l p) := by
  unfold tokQ; rw [if_neg (by omega), if_neg (sign_no h2), if_pos h3]
theorem tokQ_num {l : List UInt8} {p : Nat} (h : p < l.length) (h2 : isSign (l.getD p 0) = false) (h3 : ¬ l.getD p 0 = 34) (h4 : l.getD p 0 = 45 ∨ isDg (l.getD p 0) = true) : tokQ l p = numT (numbP l p) := by
  unfold tokQ; rw [if_neg (by omega), if_neg (sign_no h2), if_neg h3, if_pos h4]
theorem tokQ_word {l : List UInt8} {p : Nat} (h : p < l.length) (h2 : isSign (l.getD p 0) = false) (h3 : ¬ l.getD p 0 = 34) (h4 : ¬ l.getD p 0 = 45) (h5 : isDg (l.getD p 0) = false) : tokQ l p = wordP l p := by
  unfold tokQ; rw [if_neg (by omega), if_neg (sign_no h2), if_neg h3, if_neg (fun h => by rcases h with h | h; exact h4 h; rw [h5] at h; cases h)]
theorem ba_dataW (W : List UInt8) : (⟨W.toArray⟩ : ByteArray).data.toList = W := by simp
end Go.Proofs.YtceijgaocjghcaaGreatDoor
