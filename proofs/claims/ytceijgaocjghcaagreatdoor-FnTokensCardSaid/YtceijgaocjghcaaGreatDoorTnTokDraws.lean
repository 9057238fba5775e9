/- Tokens drawn. Written by gen/tokdraws.py. -/
import Derived.Test.YtceijgaocjghcaaGreatDoorTnM21
import Derived.Test.YtceijgaocjghcaaGreatDoorTnM28
import Derived.Test.YtceijgaocjghcaaGreatDoorTnTokRound
import Derived.Test.YtceijgaocjghcaaGreatDoorTnM39
import Derived.Test.YtceijgaocjghcaaGreatDoorTnM24
set_option linter.unusedVariables false
set_option maxRecDepth 100000
set_option linter.unusedSimpArgs false
namespace Go.Proofs.YtceijgaocjghcaaGreatDoor
open Go.RowKit

theorem decNew_bd {n x a b : Int} (h : decNew n x = some (a, b)) : (-100000000000000000 < a ∧ a < 100000000000000000) ∧ (-16 ≤ b ∧ b ≤ 0) := by
  unfold decNew at h
  split at h
  · cases h
  split at h
  · cases h; decide
  split at h
  · split at h
    · rename_i hok
      simp only [Option.some.injEq, Prod.mk.injEq] at h
      obtain ⟨rfl, rfl⟩ := h
      generalize (stripD (-x).toNat n).1 = a at hok ⊢
      generalize (stripD (-x).toNat n).2 = k at hok ⊢
      by_cases h0 : -(k : Int) = 0
      · rw [h0, decOk_zero] at hok
        have := inR_iff.1 hok
        omega
      · rw [decOk_nz h0, Bool.and_eq_true, Bool.and_eq_true] at hok
        have h1 := inR_iff.1 hok.1
        have h2 := digN_17.1 (of_decide_eq_true hok.2.1)
        omega
    · cases h
  split at h
  · simp only [Option.some.injEq, Prod.mk.injEq] at h
    omega
  · cases h
theorem cur_four {w' : World} {B g n c k : Nat} {A : Option Addr} {b : List UInt8} {x y z u : Value} (h : Cur w' B g A n c b) (hg : g < k) : Cur ((((w'.setCell ⟨k, 0, none⟩ x).setCell ⟨k, 1, none⟩ y).setCell ⟨k, 2, none⟩ z).setCell ⟨k, 3, none⟩ u) B g A n c b := (((h.set_ hg x).set_ hg y).set_ hg z).set_ hg u
theorem fr_four {w w' : World} {fp : List Nat} {k : Nat} {x y z u : Value} (h : Fr fp w w') (hk : w.heap.size ≤ k) : Fr fp w ((((w'.setCell ⟨k, 0, none⟩ x).setCell ⟨k, 1, none⟩ y).setCell ⟨k, 2, none⟩ z).setCell ⟨k, 3, none⟩ u) :=
  (((h.new_ (p := ⟨k, 0, none⟩) hk x).new_ (p := ⟨k, 1, none⟩) hk y).new_ (p := ⟨k, 2, none⟩) hk z).new_ (p := ⟨k, 3, none⟩) hk u
set_option maxHeartbeats 2000000 in
theorem s_l4Draw (B g n c : Nat) (A : Option Addr) (b : List UInt8) (w : World) (h : Cur w B g A n c b) :
    Calls Tryz.prog 106 #[.pointer (some ⟨g, 0, none⟩)] w fun r w' => ∃ x y : Int, r = .returned (.agg #[.int .i64 x, .int .i64 y]) ∧ (-100000000000000000 < x ∧ x < 100000000000000000) ∧ (-16 ≤ y ∧ y ≤ 0) ∧ Cur w' B g A n c b ∧ Fr [g] w w' := by
  have hgl := h.lt
  have hgn : w.heap.size ≠ g := by omega
  have h0 := h.below (Below.one w (.cells #[.int .i64 0, .int .i64 0] 122))
  have hF0 : Fr [g] w (w.alloc (.cells #[.int .i64 0, .int .i64 0] 122)) := Fr.of_below (Below.one _ _)
  have hB0 := Blk.new w 122 #[.int .i64 0, .int .i64 0]
  go_enter Tryz.func106, Tryz.ntmps106
  go_wp2_with fail
  go_loopg [3, 4, 5] 6 (fun f v3 v4 v5 wr => ∃ j : Nat, j + f = 6 ∧ v3 = .int .i64 j ∧ Blk wr w.heap.size 122 #[.int .i64 0, .int .i64 0] ∧ Cur wr B g A n c b ∧ Fr [g] w wr)
  case atStart => exact ⟨0, rfl, rfl, hB0, h0, hF0⟩
  case round =>
    obtain ⟨j, hjf, rfl, hB, hC, hF⟩ := hrel
    clear hB0 h0 hF0
    by_cases hj : j < 6
    · obtain ⟨f, rfl⟩ : ∃ f, gk = f + 1 := ⟨gk - 1, by omega⟩
      have hji : (j : Int) < 6 := by omega
      have hjf2 : j + 1 + f = 6 := by omega
      clear hjf
      go_wp2_with fail
      refine (s_l1SignedB B g n c A b _ hC).mono ?_; rintro r w1 ⟨z, rfl, hz, hC1, hf1⟩
      have hB1 := hB.fr_' hf1 (by simpa using hgn)
      have hF1 := hF.trans hf1
      go_wp2_with fail
      refine (s_l1Below B g n c A b 17 _ hC1 (by decide)).mono ?_; rintro r w2 ⟨y, rfl, hy, hC2, hf2⟩
      obtain ⟨hy0, hy1⟩ := hy.2 (by decide)
      have hB2 := hB1.fr_' hf2 (by simpa using hgn)
      have hF2 := hF1.trans hf2
      clear hB hB1 hF hF1 hf1 hf2 hC hC1 hy
      go_wp2_with fail
      refine (s_DecNew z (-y) _ hz (by omega)).mono ?_; rintro r w3 ⟨rfl, hb3⟩
      have hB3 := hB2.below hb3 hB2.lt
      have hC3 := hC2.below hb3
      have hF3 := hF2.onBelow (hb3.mono hF2.size)
      have hz3 := hF3.size
      have hl3 := hB3.lt
      clear hB2 hC2 hF2
      cases hd : decNew z (-y) with
      | none =>
        simp only [decV]
        go_wp2_with fail
        go_roundg f
        case measure => omega
        case rel => exact ⟨j + 1, hjf2, by go_num, hB3.alloc _, hC3.below (Below.one _ _), hF3.trans (Fr.of_below (Below.one _ _))⟩
      | some p =>
        obtain ⟨a1, a2⟩ := p
        obtain ⟨b1, b2⟩ := decNew_bd hd
        simp only [decV]
        have r0 := hB3.cell 0
        have r1 := hB3.cell 1
        have f0 := hB3.frozen 0
        have f1 := hB3.frozen 1
        clear hd hb3
        go_wp2_with fail
        exact bodyPost_ret (results_blk Tryz.results106 Tryz.isAgg122 (by exact Tryz.sizeOf122) rfl ((hB3.two _ _).alloc _)) rfl ⟨a1, a2, rfl, b1, b2, (cur_two hC3 hgn hgl).below (Below.one _ _), ((hF3.new_ (p := ⟨w.heap.size, 0, none⟩) (Nat.le_refl _) _).new_ (p := ⟨w.heap.size, 1, none⟩) (Nat.le_refl _) _).trans (Fr.of_below (Below.one _ _))⟩
    · obtain rfl : j = 6 := by omega
      have r0 := hB.cell 0
      have r1 := hB.cell 1
      have f0 := hB.frozen 0
      have f1 := hB.frozen 1
      go_wp2_with fail
      exact bodyPost_ret (results_blk Tryz.results106 Tryz.isAgg122 (by exact Tryz.sizeOf122) rfl (hB.two _ _)) rfl ⟨15, -1, rfl, by decide, by decide, cur_two hC hgn hgl, (hF.new_ (p := ⟨w.heap.size, 0, none⟩) (Nat.le_refl _) _).new_ (p := ⟨w.heap.size, 1, none⟩) (Nat.le_refl _) _⟩
theorem rd_text {s : ByteArray} (h : Lib.validD s.data.toList = true) : RdTk ⟨2, s, 0, 0⟩ := by
  have := RdTk.text s.data.toList h
  rwa [ba_str] at this
set_option maxHeartbeats 2000000 in
theorem s_l10Token (B g n c : Nat) (A : Option Addr) (b : List UInt8) (w : World) (h : Cur w B g A n c b) :
    Calls Tryz.prog 70 #[.pointer (some ⟨g, 0, none⟩)] w fun r w' => ∃ t : Tk, r = .returned (.agg #[.int .i64 t.k, .string t.s, .int .i64 t.n, .int .i64 t.x]) ∧ (GdTk t ∧ t.s.size ≤ 100) ∧ Cur w' B g A n c b ∧ Fr [g] w w' := by
  have hgl := h.lt
  have hgn : w.heap.size ≠ g := by omega
  have h0 := h.below (Below.one w (.cells #[.int .i64 0, .string ⟨#[]⟩, .int .i64 0, .int .i64 0] 31))
  have hF0 : Fr [g] w (w.alloc (.cells #[.int .i64 0, .string ⟨#[]⟩, .int .i64 0, .int .i64 0] 31)) := Fr.of_below (Below.one _ _)
  have hB0 := Blk.new w 31 #[.int .i64 0, .string ⟨#[]⟩, .int .i64 0, .int .i64 0]
  go_enter Tryz.func70, Tryz.ntmps70
  go_wp2_with fail
  refine (s_l1Below B g n c A b 4 _ h0 (by decide)).mono ?_; rintro r w1 ⟨x, rfl, hx, hC1, hf1⟩
  have hB1 := hB0.fr_' hf1 (by simpa using hgn)
  have hF1 := hF0.trans hf1
  have z1 := hF1.size
  clear hB0 h0 hF0 hf1 hx
  by_cases e0 : x = 0
  · subst e0
    go_wp2_with fail
    refine (s_l1Str _ _ n c A b (some ⟨w1.heap.size, 0, none⟩) 6 6 [⟨#[123]⟩, ⟨#[125]⟩, ⟨#[91]⟩, ⟨#[93]⟩, ⟨#[58]⟩, ⟨#[44]⟩] _ (hC1.below (Below.one _ _)) (by exact strs_lit _ 0 [⟨#[123]⟩, ⟨#[125]⟩, ⟨#[91]⟩, ⟨#[93]⟩, ⟨#[58]⟩, ⟨#[44]⟩] _ rfl (by exact Nat.le_of_ble_eq_true rfl)) (lit_ne hC1.lt) (by decide)).mono ?_; rintro r w2 ⟨s, rfl, hs, hC9, hf2⟩
    have hm : ∀ s ∈ ([⟨#[123]⟩, ⟨#[125]⟩, ⟨#[91]⟩, ⟨#[93]⟩, ⟨#[58]⟩, ⟨#[44]⟩] : List ByteArray), ∃ c, s = ⟨#[c]⟩ ∧ isSign c = true := by
      intro s hs
      simp only [List.mem_cons, List.mem_nil_iff, or_false] at hs
      rcases hs with rfl | rfl | rfl | rfl | rfl | rfl <;> exact ⟨_, rfl, by decide⟩
    obtain ⟨ch, rfl, hch⟩ := hm s hs
    have B9 := (hB1.alloc (.cells _ 9)).fr_' hf2 (by simpa using hgn)
    have hF9 := (hF1.trans (Fr.of_below (fp := [g]) (Below.one w1 (.cells _ 9)))).trans hf2
    clear hs hm hf2
    have r0 := B9.cell 0
    have f0 := B9.frozen 0
    have r1 := B9.cell 1
    have f1 := B9.frozen 1
    have r2 := B9.cell 2
    have f2 := B9.frozen 2
    have r3 := B9.cell 3
    have f3 := B9.frozen 3
    go_wp2_with fail
    exact bodyPost_ret (results_blk Tryz.results70 Tryz.isAgg31 (by exact Tryz.sizeOf31) rfl (B9.tokQ _ _ _ _)) rfl ⟨⟨1, ⟨#[ch]⟩, 0, 0⟩, rfl, ⟨⟨.sign ch hch, by show -999 ≤ (0 : Int); decide, by show (0 : Int) ≤ 999; decide⟩, by show 1 ≤ 100; decide⟩, cur_four hC9 hgl, fr_four hF9 (Nat.le_refl _)⟩
  have z0 : (x == 0) = false := by simp [e0]
  by_cases e1 : x = 1
  · subst e1
    go_wp2_with fail
    refine (s_l2TextV B g n c A b _ hC1).mono ?_; rintro r w2 ⟨s, rfl, hsz, hsv, hC9, hf2⟩
    have B9 := hB1.fr_' hf2 (by simpa using hgn)
    have hF9 := hF1.trans hf2
    clear hf2
    have r0 := B9.cell 0
    have f0 := B9.frozen 0
    have r1 := B9.cell 1
    have f1 := B9.frozen 1
    have r2 := B9.cell 2
    have f2 := B9.frozen 2
    have r3 := B9.cell 3
    have f3 := B9.frozen 3
    go_wp2_with fail
    exact bodyPost_ret (results_blk Tryz.results70 Tryz.isAgg31 (by exact Tryz.sizeOf31) rfl (B9.tokQ _ _ _ _)) rfl ⟨⟨2, s, 0, 0⟩, rfl, ⟨⟨rd_text hsv, by show -999 ≤ (0 : Int); decide, by show (0 : Int) ≤ 999; decide⟩, hsz⟩, cur_four hC9 hgl, fr_four hF9 (Nat.le_refl _)⟩
  have z2 : (x == 1) = false := by simp [e1]
  by_cases e2 : x = 2
  · subst e2
    go_wp2_with fail
    refine (s_l4Draw B g n c A b _ hC1).mono ?_; rintro r w2 ⟨d1, d2, rfl, hd1, hd2, hC2, hf2⟩
    have B9 := (hB1.fr_' hf2 (by simpa using hgn)).alloc (.cells #[.int .i64 d1, .int .i64 d2] 122)
    have hF9 := (hF1.trans hf2).trans (Fr.of_below (fp := [g]) (Below.one w2 (.cells #[.int .i64 d1, .int .i64 d2] 122)))
    have hC9 := hC2.below (Below.one w2 (.cells #[.int .i64 d1, .int .i64 d2] 122))
    clear hf2
    have r0 := B9.cell 0
    have f0 := B9.frozen 0
    have r1 := B9.cell 1
    have f1 := B9.frozen 1
    have r2 := B9.cell 2
    have f2 := B9.frozen 2
    have r3 := B9.cell 3
    have f3 := B9.frozen 3
    go_wp2_with fail
    exact bodyPost_ret (results_blk Tryz.results70 Tryz.isAgg31 (by exact Tryz.sizeOf31) rfl (B9.tokQ _ _ _ _)) rfl ⟨⟨3, ⟨#[]⟩, d1, d2⟩, rfl, ⟨⟨.num d1 d2 hd1, by show -999 ≤ d2; omega, by show d2 ≤ 999; omega⟩, by show 0 ≤ 100; decide⟩, cur_four hC9 hgl, fr_four hF9 (Nat.le_refl _)⟩
  have z3 : (x == 2) = false := by simp [e2]
  go_wp2_with fail
  refine (s_l1Str _ _ n c A b (some ⟨w1.heap.size, 0, none⟩) 3 3 [⟨#[110, 117, 108, 108]⟩, ⟨#[116, 114, 117, 101]⟩, ⟨#[102, 97, 108, 115, 101]⟩] _ (hC1.below (Below.one _ _)) (by exact strs_lit _ 0 [⟨#[110, 117, 108, 108]⟩, ⟨#[116, 114, 117, 101]⟩, ⟨#[102, 97, 108, 115, 101]⟩] _ rfl (by exact Nat.le_of_ble_eq_true rfl)) (lit_ne hC1.lt) (by decide)).mono ?_; rintro r w2 ⟨s, rfl, hs, hC9, hf2⟩
  have hm : ∀ s ∈ ([⟨#[110, 117, 108, 108]⟩, ⟨#[116, 114, 117, 101]⟩, ⟨#[102, 97, 108, 115, 101]⟩] : List ByteArray), ∃ v : List UInt8, s = ⟨v.toArray⟩ ∧ (v = wNull ∨ v = wTrue ∨ v = wFalse) ∧ s.size ≤ 100 := by
    intro s hs
    simp only [List.mem_cons, List.mem_nil_iff, or_false] at hs
    rcases hs with rfl | rfl | rfl
    · exact ⟨wNull, rfl, .inl rfl, by decide⟩
    · exact ⟨wTrue, rfl, .inr (.inl rfl), by decide⟩
    · exact ⟨wFalse, rfl, .inr (.inr rfl), by decide⟩
  obtain ⟨v, rfl, hvv, hsz⟩ := hm s hs
  have B9 := (hB1.alloc (.cells _ 9)).fr_' hf2 (by simpa using hgn)
  have hF9 := (hF1.trans (Fr.of_below (fp := [g]) (Below.one w1 (.cells _ 9)))).trans hf2
  clear hs hm hf2
  have r0 := B9.cell 0
  have f0 := B9.frozen 0
  have r1 := B9.cell 1
  have f1 := B9.frozen 1
  have r2 := B9.cell 2
  have f2 := B9.frozen 2
  have r3 := B9.cell 3
  have f3 := B9.frozen 3
  go_wp2_with fail
  exact bodyPost_ret (results_blk Tryz.results70 Tryz.isAgg31 (by exact Tryz.sizeOf31) rfl (B9.tokQ _ _ _ _)) rfl ⟨⟨4, ⟨v.toArray⟩, 0, 0⟩, rfl, ⟨⟨.word v hvv, by show -999 ≤ (0 : Int); decide, by show (0 : Int) ≤ 999; decide⟩, hsz⟩, cur_four hC9 hgl, fr_four hF9 (Nat.le_refl _)⟩
end Go.Proofs.YtceijgaocjghcaaGreatDoor
