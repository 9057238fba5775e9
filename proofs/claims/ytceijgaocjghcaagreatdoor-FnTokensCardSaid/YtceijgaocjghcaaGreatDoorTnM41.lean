/- Texts of tokens drawn; the draws of the laws on tokens. Written by gen/tokdraws.py. The draws of the law FnTokens. Written by gen/toklaw.py. -/
import Derived.Test.YtceijgaocjghcaaGreatDoorTnTokDraws
import Derived.Deep.Cut
set_option linter.unusedVariables false
set_option maxRecDepth 100000
set_option linter.unusedSimpArgs false
namespace Go.Proofs.YtceijgaocjghcaaGreatDoor
open Go.RowKit

theorem KS.frD {w w' : World} {lo n c : Nat} {A : Option Addr} {l : List Tk} {fp : List Nat} (h : KS w lo A n c l) (hf : Fr fp w w') (hn : ∀ g ∈ blkOf A, g ∉ fp) : KS w' lo A n c l := by
  have hlt := h.fromT
  refine ⟨h.1, ?_⟩
  rcases h.2 with h1 | ⟨g, cap, cur, h1, h2, h3, h4⟩
  · exact .inl h1
  · simp only [Value.slice.injEq] at h1
    have hg : g ∈ blkOf A := by rw [h1.1]; simp [blkOf]
    exact .inr ⟨g, cap, cur, by rw [h1.1, h1.2.2], h2, (hf.block g (hlt g hg).2 (hn g hg)).trans h3, h4⟩
theorem GdTk.wfD {t : Tk} (h : GdTk t) (hs : t.s.size ≤ 1073741824) : t.wf := by
  obtain ⟨h1, h2, h3⟩ := h
  refine ⟨?_, by unfold maxLen; omega, ?_, by omega⟩
  · cases h1 with
    | sign c h => show -9223372036854775808 ≤ (1 : Int) ∧ (1 : Int) ≤ _; decide
    | text s h => show -9223372036854775808 ≤ (2 : Int) ∧ (2 : Int) ≤ _; decide
    | num n x h => show -9223372036854775808 ≤ (3 : Int) ∧ (3 : Int) ≤ _; decide
    | word w h => show -9223372036854775808 ≤ (4 : Int) ∧ (4 : Int) ≤ _; decide
  · cases h1 with
    | sign c h => exact zz64
    | text s h => exact zz64
    | num n x h => show -9223372036854775808 ≤ n ∧ n ≤ _; omega
    | word w h => exact zz64
theorem szK_few : ∀ (ts : List Tk), (∀ t ∈ ts, t.s.size ≤ 100) → szK ts ≤ 101 * ts.length
  | [], _ => Nat.zero_le _
  | t :: ts, h => by
    have h1 := szK_few ts fun u hu => h u (List.mem_cons_of_mem _ hu)
    have h2 := h t (by simp)
    rw [szK_cons, List.length_cons]
    omega
set_option maxHeartbeats 2000000 in
theorem s_l10List (B g n c : Nat) (A : Option Addr) (b : List UInt8) (w : World) (h : Cur w B g A n c b) :
    Calls Tryz.prog 69 #[.pointer (some ⟨g, 0, none⟩)] w fun r w' => ∃ (A' : Option Addr) (k c' : Nat) (ts : List Tk), r = .returned (.slice A' k c') ∧ KS w' w.heap.size A' k c' ts ∧ (∀ t ∈ ts, GdTk t ∧ t.s.size ≤ 100) ∧ k ≤ 5 ∧ Cur w' B g A n c b ∧ Fr [g] w w' := by
  have hgw := h.lt
  have hE := KS.newT w
  have hfE : Fr [g] w (w.alloc (.cells #[] 31)) := Fr.of_below (Below.one w _)
  go_enter Tryz.func69, Tryz.ntmps69
  go_wp2_with fail
  refine (s_l1Below B g n c A b 6 _ (h.below (Below.one _ _)) (by decide)).mono ?_; rintro r w2 ⟨x, rfl, hx, hC2, hf2⟩
  obtain ⟨hx0, hx1⟩ := hx.2 (by decide)
  obtain ⟨i0, rfl⟩ := Int.eq_ofNat_of_zero_le hx0
  have hI2 := hE.frD hf2 (fun y hy => by have := (hE.fromT y hy).1; simp; omega)
  have hF2 := hfE.trans hf2
  clear hE hfE hf2
  go_wp2_with fail
  go_loopg [3, 4] i0 (fun f v3 v4 wr => ∃ (k c' : Nat) (A' : Option Addr) (l : List Tk), v4 = .int .i64 f ∧ v3 = .slice A' k c' ∧ k + f ≤ 5 ∧ KS wr w.heap.size A' k c' l ∧ Cur wr B g A n c b ∧ Fr [g] w wr ∧ ∀ t ∈ l, GdTk t ∧ t.s.size ≤ 100)
  case atStart => exact ⟨0, 0, _, [], rfl, rfl, by omega, hI2, hC2, hF2, fun t ht => by (cases ht)⟩
  case round =>
    obtain ⟨k, c', A', l, rfl, rfl, hk, hI, hC, hF, hl⟩ := hrel
    clear hI2 hF2 hC2
    have hz := hF.size
    cases gk with
    | zero =>
      go_wp2_with fail
      go_ret
      exact ⟨A', k, c', l, rfl, hI, hl, by omega, hC, hF⟩
    | succ f =>
      have hpos : (0 : Int) < ((f + 1 : Nat) : Int) := by omega
      have htk := s_l10Token B g n c A b wr hC
      go_wp2_with (first
        | (go_at_call 70; refine htk.mono ?_; rintro e w3 ⟨t, rfl, ht, hC3, hf3⟩; have hI3 := hI.frD hf3 (fun y hy => by have := (hI.fromT y hy).1; simp; omega); have hz3 : w.heap.size ≤ w3.heap.size := Nat.le_trans hz hf3.size)
        | (at_builtin; refine app_tok rfl _ _ rfl (hI3.belowT (Below.one w3 _)) rfl (tok1 w3 t) rfl (by omega) (by simp; omega) ?_; intro A6 c6 w6 h6 hg6))
      have kb6 : Below w.heap.size w3 w6 := ((Below.refl w.heap.size w3).alloc hz3 (.cells #[.int .i64 t.k, .string t.s, .int .i64 t.n, .int .i64 t.x] 31)).trans (hg6.fr.below (B := w.heap.size) (fun y hy => (hI3.fromT y hy).1) (by simp; omega))
      have hC6 := hC3.low kb6 hgw
      have hF6 : Fr [g] w w6 := (hF.trans hf3).onBelow kb6
      go_roundg f
      case measure => omega
      case rel => exact ⟨k + 1, c6, A6, _, by go_num, rfl, by omega, h6, hC6, hF6, fun u hu => by (rcases List.mem_append.1 hu with hu | hu; exact hl u hu; rw [List.mem_singleton] at hu; rw [hu]; exact ht)⟩
set_option maxHeartbeats 2000000 in
theorem s_l10Text (B g n c : Nat) (A : Option Addr) (b : List UInt8) (w : World) (h : Cur w B g A n c b) :
    Calls Tryz.prog 39 #[.pointer (some ⟨g, 0, none⟩)] w fun r w' => ∃ s : ByteArray, r = .returned (.string s) ∧ s.size ≤ 40000 ∧ Cur w' B g A n c b ∧ Fr [g] w w' := by
  go_enter Tryz.func39, Tryz.ntmps39
  go_wp2_with fail
  refine (s_l1Once B g n c A b 4 _ h (by decide)).mono ?_; rintro r w1 ⟨x1, rfl, hC1, hf1⟩
  cases x1 with
  | true =>
    go_wp2_with fail
    refine (s_l1Str _ _ n c A b (some ⟨w1.heap.size, 0, none⟩) 12 12 [⟨#[]⟩, ⟨#[32]⟩, ⟨#[110, 117, 108]⟩, ⟨#[116, 114, 117, 101, 102, 97, 108, 115, 101]⟩, ⟨#[91, 49, 44, 50, 93]⟩, ⟨#[123, 34, 97, 34, 58, 49, 125]⟩, ⟨#[49, 101, 57, 57, 57]⟩, ⟨#[49, 101, 57, 57, 57, 57]⟩, ⟨#[45]⟩, ⟨#[9, 91, 10, 93, 13, 32]⟩, ⟨#[120]⟩, ⟨#[49, 50, 51, 52, 53, 54, 55, 56, 57, 48, 49, 50, 51, 52, 53, 54, 55, 56]⟩] _ (hC1.below (Below.one _ _)) (by exact strs_lit _ 0 [⟨#[]⟩, ⟨#[32]⟩, ⟨#[110, 117, 108]⟩, ⟨#[116, 114, 117, 101, 102, 97, 108, 115, 101]⟩, ⟨#[91, 49, 44, 50, 93]⟩, ⟨#[123, 34, 97, 34, 58, 49, 125]⟩, ⟨#[49, 101, 57, 57, 57]⟩, ⟨#[49, 101, 57, 57, 57, 57]⟩, ⟨#[45]⟩, ⟨#[9, 91, 10, 93, 13, 32]⟩, ⟨#[120]⟩, ⟨#[49, 50, 51, 52, 53, 54, 55, 56, 57, 48, 49, 50, 51, 52, 53, 54, 55, 56]⟩] _ rfl (by exact Nat.le_of_ble_eq_true rfl)) (lit_ne hC1.lt) (by decide)).mono ?_; rintro r w2 ⟨s, rfl, hs, hC2, hf2⟩
    go_wp2_with fail
    go_ret
    have hsd : s.size ≤ 40000 := by
      simp only [List.mem_cons, List.mem_nil_iff, or_false] at hs
      rcases hs with rfl | rfl | rfl | rfl | rfl | rfl | rfl | rfl | rfl | rfl | rfl | rfl <;> decide
    exact ⟨s, rfl, hsd, hC2, (hf1.trans (Fr.of_below (Below.one _ _))).trans hf2⟩
  | false =>
    go_wp2_with fail
    refine (s_l10List B g n c A b _ hC1).mono ?_; rintro r w2 ⟨A2, k2, c2, ts, rfl, hI2, hts, hk2, hC2, hf2⟩
    have hwf : ∀ t ∈ ts, t.wf := fun t ht => (hts t ht).1.wfD (by have := (hts t ht).2; omega)
    have hln := hI2.lenT
    have hsz := szK_few ts fun t ht => (hts t ht).2
    have hjl := joinT_len ts hwf
    have hJ := s_JoinTokens A2 k2 c2 ts w2 _ hI2.sl (Nat.le_refl _) hwf (by omega)
    obtain ⟨J, hJJ⟩ : ∃ J : ByteArray, ⟨(joinT ts).toArray⟩ = J := ⟨_, rfl⟩
    have hJz : J.size ≤ 30000 := by rw [← hJJ, ba_sz]; omega
    rw [hJJ] at hJ
    have hF2 := hf1.trans hf2
    clear hJJ hjl hwf hts hf1 hf2 hC1
    go_wp2_with fail
    refine hJ.mono ?_; rintro r w3 ⟨rfl, hb3⟩
    have hC3 := hC2.below hb3
    have hF3 := hF2.trans (Fr.of_below (fp := [g]) hb3)
    clear hI2 hF2 hC2 hb3
    go_wp2_with fail
    refine (s_l1Once B g n c A b 4 _ hC3 (by decide)).mono ?_; rintro r w4 ⟨x4, rfl, hC4, hf4⟩
    have hF4 := hF3.trans hf4
    clear hC3 hF3 hf4
    cases x4 with
    | false =>
      go_wp2_with fail
      go_ret
      exact ⟨J, rfl, by omega, hC4, hF4⟩
    | true =>
      obtain ⟨cb, w5, hrun, hsl, hb5, _⟩ := run_bytes_of J w4 (by omega)
      go_wp2_with fail
      refine (s_l1Bent B g n c A b _ _ _ _ w5 (hC4.below hb5) hsl (by omega)).mono ?_; rintro e w6 ⟨A6, k6, c6, l6, rfl, h6, _, hk6, hC6, hf6⟩
      have hcv := run_str_sl (P := Tryz.prog) 22 5 Tryz.underlying22 Tryz.underlying5 h6 9 Tryz.underlying9
      have hl6 := h6.blen
      clear hrun hsl
      go_wp2_with fail
      go_ret
      exact ⟨_, rfl, by rw [ba_sz]; omega, hC6, (hF4.trans (Fr.of_below hb5)).trans hf6⟩
theorem s_DrawTokens (A : Option Addr) (n c : Nat) (b : List UInt8) (w : World) (h : Sl w w.heap.size 1 A n c (u8s b)) (hn : n ≤ 1048576) :
    Calls Tryz.prog 7 #[.slice A n c] w fun r w' => ∃ s : ByteArray, r = .returned (.string s) ∧ s.size ≤ 40000 ∧ Below w.heap.size w w' := by
  go_enter Tryz.func7, Tryz.ntmps7
  go_wp2_with fail
  refine (s_l1New A n c b _ h hn).mono ?_; rintro r w1 ⟨rfl, hC, hb1⟩
  go_wp2_with fail
  refine (s_l10Text _ _ n c A b _ hC).mono ?_; rintro r w2 ⟨s, rfl, hs, hC2, hf2⟩
  go_wp2_with fail
  go_ret
  exact ⟨s, rfl, hs, hb1.trans (frLow hf2 (Nat.le_refl _) hb1.size)⟩
theorem s_DrawReadToken (A : Option Addr) (n c : Nat) (b : List UInt8) (w : World) (h : Sl w w.heap.size 1 A n c (u8s b)) (hn : n ≤ 1048576) :
    Calls Tryz.prog 10 #[.slice A n c] w fun r w' => ∃ (s : ByteArray) (x : Int), r = .returned (.tuple #[.string s, .int .i64 x]) ∧ s.size ≤ 40000 ∧ (-1 ≤ x ∧ x ≤ 99) ∧ Below w.heap.size w w' := by
  have hbd : ∀ x ∈ ([0, 0, 0, 1, 2, 5, -1, 99] : List Int), -1 ≤ x ∧ x ≤ 99 := by decide
  go_enter Tryz.func10, Tryz.ntmps10
  go_wp2_with fail
  refine (s_l1New A n c b _ h hn).mono ?_; rintro r w1 ⟨rfl, hC, hb1⟩
  go_wp2_with fail
  refine (s_l10Text _ _ n c A b _ hC).mono ?_; rintro r w2 ⟨s, rfl, hs, hC2, hf2⟩
  have k2 := hb1.trans (frLow hf2 (Nat.le_refl _) hb1.size)
  go_wp2_with fail
  refine (s_l1Int _ _ n c A b (some ⟨w2.heap.size, 0, none⟩) 8 8 [0, 0, 0, 1, 2, 5, -1, 99] _ (hC2.below (Below.one _ _)) (by exact i64s_lit _ _ [0, 0, 0, 1, 2, 5, -1, 99] _ rfl (by exact Nat.le_of_ble_eq_true rfl)) (lit_ne hC2.lt) (by decide)).mono ?_; rintro r w3 ⟨x, rfl, hx, hC3, hf3⟩
  go_wp2_with fail
  go_ret2
  exact ⟨s, x, rfl, hs, hbd x hx, (k2.up (Below.one _ _)).trans (frLow hf3 (Nat.le_refl _) (k2.up (Below.one _ _)).size)⟩
theorem s_DrawSkip (A : Option Addr) (n c : Nat) (b : List UInt8) (w : World) (h : Sl w w.heap.size 1 A n c (u8s b)) (hn : n ≤ 1048576) :
    Calls Tryz.prog 13 #[.slice A n c] w fun r w' => ∃ (s : ByteArray) (x : Int), r = .returned (.tuple #[.string s, .int .i64 x]) ∧ s.size ≤ 40000 ∧ (-1 ≤ x ∧ x ≤ 99) ∧ Below w.heap.size w w' := by
  go_enter Tryz.func13, Tryz.ntmps13
  go_wp2_with fail
  refine (s_l1New A n c b _ h hn).mono ?_; rintro r w1 ⟨rfl, hC, hb1⟩
  go_wp2_with fail
  refine (s_l10Text _ _ n c A b _ hC).mono ?_; rintro r w2 ⟨s, rfl, hs, hC2, hf2⟩
  have k2 := hb1.trans (frLow hf2 (Nat.le_refl _) hb1.size)
  go_wp2_with fail
  refine (s_l1Below _ _ n c A b 9 _ hC2 (by decide)).mono ?_; rintro r w3 ⟨x, rfl, hx, hC3, hf3⟩
  obtain ⟨hx0, hx1⟩ := hx.2 (by decide)
  go_wp2_with fail
  go_ret2
  exact ⟨s, x - 1, by first | rfl | go_num, hs, by omega, k2.trans (frLow hf3 (Nat.le_refl _) k2.size)⟩
theorem s_DrawSignOk (A : Option Addr) (n c : Nat) (b : List UInt8) (w : World) (h : Sl w w.heap.size 1 A n c (u8s b)) (hn : n ≤ 1048576) :
    Calls Tryz.prog 14 #[.slice A n c] w fun r w' => ∃ s : ByteArray, r = .returned (.string s) ∧ s.size ≤ 40000 ∧ Below w.heap.size w w' := by
  go_enter Tryz.func14, Tryz.ntmps14
  go_wp2_with fail
  refine (s_l1New A n c b _ h hn).mono ?_; rintro r w1 ⟨rfl, hC, hb1⟩
  go_wp2_with fail
  refine (s_l1Str _ _ n c A b (some ⟨w1.heap.size, 0, none⟩) 9 9 [⟨#[123]⟩, ⟨#[125]⟩, ⟨#[91]⟩, ⟨#[93]⟩, ⟨#[58]⟩, ⟨#[44]⟩, ⟨#[]⟩, ⟨#[123, 125]⟩, ⟨#[120]⟩] _ (hC.below (Below.one _ _)) (by exact strs_lit _ 0 [⟨#[123]⟩, ⟨#[125]⟩, ⟨#[91]⟩, ⟨#[93]⟩, ⟨#[58]⟩, ⟨#[44]⟩, ⟨#[]⟩, ⟨#[123, 125]⟩, ⟨#[120]⟩] _ rfl (by exact Nat.le_of_ble_eq_true rfl)) (lit_ne hC.lt) (by decide)).mono ?_; rintro r w2 ⟨s, rfl, hs, hC2, hf2⟩
  have hsd : s.size ≤ 40000 := by
    simp only [List.mem_cons, List.mem_nil_iff, or_false] at hs
    rcases hs with rfl | rfl | rfl | rfl | rfl | rfl | rfl | rfl | rfl <;> decide
  go_wp2_with fail
  go_ret
  exact ⟨s, rfl, hsd, (hb1.up (Below.one _ _)).trans (frLow hf2 (Nat.le_refl _) (hb1.up (Below.one _ _)).size)⟩
end Go.Proofs.YtceijgaocjghcaaGreatDoor

namespace Go.Proofs.YtceijgaocjghcaaGreatDoor
open Go.RowKit

theorem KS.moreD {w : World} {lo lo' n c : Nat} {A : Option Addr} {l : List Tk} (h : KS w lo' A n c l) (hl : lo ≤ lo') : KS w lo A n c l := by
  refine ⟨h.1, ?_⟩
  rcases h.2 with h1 | ⟨g, cap, cur, h1, h2, h3⟩
  · exact .inl h1
  · exact .inr ⟨g, cap, cur, h1, Nat.le_trans hl h2, h3⟩
theorem s_DrawJoinTokens (A : Option Addr) (n c : Nat) (b : List UInt8) (w : World) (h : Sl w w.heap.size 1 A n c (u8s b)) (hn : n ≤ 1048576) :
    Calls Tryz.prog 33 #[.slice A n c] w fun r w' => ∃ (A' : Option Addr) (k c' : Nat) (ts : List Tk), r = .returned (.slice A' k c') ∧ KS w' w.heap.size A' k c' ts ∧ (∀ t ∈ ts, GdTk t ∧ t.s.size ≤ 100) ∧ k ≤ 5 ∧ Below w.heap.size w w' := by
  go_enter Tryz.func33, Tryz.ntmps33
  go_wp2_with fail
  refine (s_l1New A n c b _ h hn).mono ?_; rintro r w1 ⟨rfl, hC, hb1⟩
  go_wp2_with fail
  refine (s_l10List _ _ n c A b _ hC).mono ?_; rintro r w2 ⟨A2, k2, c2, ts, rfl, hI2, hts, hk2, hC2, hf2⟩
  go_wp2_with fail
  go_ret
  exact ⟨A2, k2, c2, ts, rfl, hI2.moreD hb1.size, hts, hk2, hb1.trans (frLow hf2 (Nat.le_refl _) hb1.size)⟩
set_option maxHeartbeats 2000000 in
theorem s_DrawTokenText (A : Option Addr) (n c : Nat) (b : List UInt8) (w : World) (h : Sl w w.heap.size 1 A n c (u8s b)) (hn : n ≤ 1048576) :
    Calls Tryz.prog 34 #[.slice A n c] w fun r w' => ∃ (tk : Int) (ts : ByteArray) (tn tx : Int), r = .returned (.agg #[.int .i64 tk, .string ts, .int .i64 tn, .int .i64 tx]) ∧ ((-1 ≤ tk ∧ tk ≤ 5) ∧ ts.size ≤ 100 ∧ (-100000000000000000 < tn ∧ tn < 100000000000000000) ∧ (-999 ≤ tx ∧ tx ≤ 999)) ∧ Below w.heap.size w w' := by
  have k0 := Below.one w (.cells #[.int .i64 0, .string ⟨#[]⟩, .int .i64 0, .int .i64 0] 31)
  have R0 := Blk.new w 31 #[.int .i64 0, .string ⟨#[]⟩, .int .i64 0, .int .i64 0]
  have h0 := (h.below k0).more k0.size
  go_enter Tryz.func34, Tryz.ntmps34
  go_wp2_with fail
  refine (s_l1New A n c b _ h0 hn).mono ?_; rintro r w1 ⟨rfl, hC, hb1⟩
  have R1 := R0.below hb1 (by simp)
  have k1 := k0.up hb1
  have hg : (w.alloc (.cells #[.int .i64 0, .string ⟨#[]⟩, .int .i64 0, .int .i64 0] 31)).heap.size = w.heap.size + 1 := by simp
  rw [hg] at hC
  have zg2 : w.heap.size ≤ w.heap.size + 1 := by omega
  clear R0 k0 h0 hb1 hg
  go_wp2_with fail
  refine (s_l10Token _ (w.heap.size + 1) n c A b _ hC).mono ?_; rintro r w2 ⟨⟨tk, ts, tn, tx⟩, rfl, ⟨ht, hsz⟩, hC2, hf2⟩
  have R2 := R1.fr_' hf2 (by first | (simp; done) | (simp; omega))
  have k2 := k1.trans (frLow hf2 zg2 k1.size)
  have htn : (-1 ≤ tk ∧ tk ≤ 5) ∧ (-100000000000000000 < tn ∧ tn < 100000000000000000) ∧ (-999 ≤ tx ∧ tx ≤ 999) := by
    obtain ⟨h1, h2⟩ := ht
    refine ⟨?_, ?_, h2⟩
    · cases h1 <;> constructor <;> decide
    · cases h1 with
      | num n x h => exact h
      | sign c h => exact ⟨by decide, by decide⟩
      | text s h => exact ⟨by decide, by decide⟩
      | word w h => exact ⟨by decide, by decide⟩
  have T2 := Blk.new w2 31 #[.int .i64 tk, .string ts, .int .i64 tn, .int .i64 tx]
  have kt := Below.one w2 (.cells #[.int .i64 tk, .string ts, .int .i64 tn, .int .i64 tx] 31)
  have R3 := R2.below kt R2.lt
  have k3 := k2.up kt
  have hC3 := hC2.below kt
  have zt := hC2.lt
  have zr := R2.lt
  clear R1 R2 k1 k2 hC hf2 ht
  simp only at hsz
  go_wp2_with fail
  refine (s_l1Once _ (w.heap.size + 1) n c A b 8 _ hC3 (by decide)).mono ?_; rintro r w4 ⟨x4, rfl, hC4, hf4⟩
  have T4 := T2.fr_' hf4 (by first | (simp; done) | (simp; omega))
  have R4 := R3.fr_' hf4 (by first | (simp; done) | (simp; omega))
  have k4 := k3.trans (frLow hf4 zg2 k3.size)
  clear T2 R3 k3 hC3 kt hf4
  cases x4 with
  | false =>
    have r0 := R4.cell 0
    have r1 := R4.cell 1
    have r2 := R4.cell 2
    have r3 := R4.cell 3
    have f0 := R4.frozen 0
    have f1 := R4.frozen 1
    have f2 := R4.frozen 2
    have f3 := R4.frozen 3
    have t0 := T4.cell 0
    have t1 := T4.cell 1
    have t2 := T4.cell 2
    have t3 := T4.cell 3
    go_wp2_with fail
    exact bodyPost_ret (results_blk Tryz.results34 Tryz.isAgg31 (by exact Tryz.sizeOf31) rfl (R4.tokQ _ _ _ _)) rfl ⟨tk, ts, tn, tx, rfl, ⟨htn.1, hsz, htn.2⟩, below_set4 k4 (Nat.le_refl _) _ _ _ _⟩
  | true =>
    have t0 := T4.cell 0
    have f0 := T4.frozen 0
    go_wp2_with fail
    clear t0 f0
    refine (s_l1Below _ (w.heap.size + 1) n c A b 7 _ hC4 (by decide)).mono ?_; rintro r w5 ⟨x, rfl, hx, hC5, hf5⟩
    obtain ⟨hx0, hx1⟩ := hx.2 (by decide)
    have T5 := (T4.fr_' hf5 (by first | (simp; done) | (simp; omega)))
    have R5 := R4.fr_' hf5 (by first | (simp; done) | (simp; omega))
    have k5 := k4.trans (frLow hf5 zg2 k4.size)
    have T6 := T5.set_ 0 (.int .i64 (x - 1))
    have R6 := R5.far (p := ⟨w2.heap.size, 0, none⟩) (by show w.heap.size ≠ w2.heap.size; omega) (.int .i64 (x - 1))
    have k6 := k5.setCell (p := ⟨w2.heap.size, 0, none⟩) (by show w.heap.size ≤ w2.heap.size; omega) (.int .i64 (x - 1))
    have t0 := T5.cell 0
    have f0 := T5.frozen 0
    have T7 : Blk (w5.setCell ⟨w2.heap.size, 0, none⟩ (.int .i64 (x - 1))) w2.heap.size 31 #[.int .i64 (x - 1), .string ts, .int .i64 tn, .int .i64 tx] := by simpa using T6
    clear T4 R4 k4 hC4 hf5 hx T6
    go_upto_region 5 with fail
    clear t0 f0
    generalize w5.setCell ⟨w2.heap.size, 0, none⟩ (.int .i64 (x - 1)) = w6 at T7 R6 k6 ⊢
    have r0 := R6.cell 0
    have r1 := R6.cell 1
    have r2 := R6.cell 2
    have r3 := R6.cell 3
    have f0 := R6.frozen 0
    have f1 := R6.frozen 1
    have f2 := R6.frozen 2
    have f3 := R6.frozen 3
    have t0 := T7.cell 0
    have t1 := T7.cell 1
    have t2 := T7.cell 2
    have t3 := T7.cell 3
    go_wp2_with fail
    exact bodyPost_ret (results_blk Tryz.results34 Tryz.isAgg31 (by exact Tryz.sizeOf31) rfl (R6.tokQ _ _ _ _)) rfl ⟨x - 1, ts, tn, tx, rfl, ⟨by omega, hsz, htn.2⟩, below_set4 k6 (Nat.le_refl _) _ _ _ _⟩
end Go.Proofs.YtceijgaocjghcaaGreatDoor
