/- Tokens: both sides. Written by gen/tokens.py. The law FnTokens. Written by gen/toklaw.py. -/
import Derived.Test.YtceijgaocjghcaaGreatDoorTnM39
import Derived.Test.YtceijgaocjghcaaGreatDoorTnM44
import Derived.Test.YtceijgaocjghcaaGreatDoorTnM46
import Derived.Deep.LoopGhost
import Derived.Test.YtceijgaocjghcaaGreatDoorTnM41
import Derived.Test.YtceijgaocjghcaaGreatDoorTnM43
import Derived.Deep.RegionHeld3
import Derived.Deep.Cut
set_option linter.unusedVariables false
set_option maxRecDepth 100000
set_option linter.unusedSimpArgs false
namespace Go.Proofs.YtceijgaocjghcaaGreatDoor
open Go.RowKit

theorem KS.moreT {w : World} {lo lo' n c : Nat} {A : Option Addr} {l : List Tk} (h : KS w lo' A n c l) (hl : lo ≤ lo') : KS w lo A n c l := by
  refine ⟨h.1, ?_⟩
  rcases h.2 with h1 | ⟨g, cap, cur, h1, h2, h3⟩
  · exact .inl h1
  · exact .inr ⟨g, cap, cur, h1, Nat.le_trans hl h2, h3⟩
set_option maxHeartbeats 2000000 in
theorem i_Tokens (s : ByteArray) (w : World) (hs : s.size ≤ 1073741824) (hT : Lib.Utf8Tabs 1 2 w) (hC : Lib.CaseVar 6 Lib.caseA w) (hE : ErrT w) :
    Calls Tryz.prog 8 #[.string s] w fun e w' => TokensAt w w' s.data.toList e := by
  obtain ⟨R, hR⟩ : ∃ R, toksL s.data.toList = R := ⟨_, rfl⟩
  unfold TokensAt
  rw [hR]
  have hll := blen_of s
  have HR : Hid (toksG s.data.toList (s.size + 1) 0 [] = R) := Lib.hid (by rw [← hR, ← hll]; rfl)
  have hE0 := KS.newT w
  have hRT := fun (p : Nat) (hp : p ≤ s.size) w1 (hb : Below w.heap.size w w1) => i_ReadToken s p w1 hs (by omega) (Utf8Tabs_below hT hb) (Lib.CaseVar_below hC hb) (hE.below hb)
  have hTO := fun (p : Nat) => tokP_ok (l := s.data.toList) (i := (p : Int)) (by omega)
  have HTO := Lib.hid hTO
  have HRT := Lib.hid hRT
  clear hR hRT hTO
  go_enter Tryz.func8, Tryz.ntmps8
  go_wp2_with fail
  go_loopg [4, 5, 6, 7, 8] (s.size + 1) (fun f v4 v5 v6 v7 v8 wr => ∃ (p n c : Nat) (A : Option Addr) (acc : List Tk), v5 = .int .i64 p ∧ v4 = .slice A n c ∧ KS wr w.heap.size A n c acc ∧ p ≤ s.size ∧ s.size < p + f ∧ n ≤ p ∧ Hid (toksG s.data.toList f p acc = R) ∧ Below w.heap.size w wr)
  case atStart => exact ⟨0, 0, 0, _, [], rfl, rfl, hE0, Nat.zero_le _, by omega, Nat.le_refl _, HR, Below.one _ _⟩
  case round =>
    obtain ⟨p, n, c, A, acc, rfl, rfl, hI, hp, hpf, hn, hH, hK⟩ := hrel
    clear HR hE0
    obtain ⟨f, rfl⟩ : ∃ f, gk = f + 1 := ⟨gk - 1, by omega⟩
    have hRT := HRT.out p hp wr hK
    have hTO := HTO.out p
    obtain ⟨⟨⟨tk, ts, tn, tx⟩, q, co⟩, hr⟩ : ∃ r, tokP s.data.toList (p : Int) = r := ⟨_, rfl⟩
    rw [hr] at hRT hTO
    simp only [retT, Tk.v, tokV] at hRT
    have hat := hTO.at_
    have hcd := hTO.code
    simp only [Int.toNat_natCast] at hat hcd
    have hh := hH.out
    clear hTO hH
    by_cases hc : co = 0
    · subst hc
      obtain ⟨q', rfl, e2, e3, e4⟩ := hat rfl
      by_cases hk : tk = 0
      · subst hk
        rw [toksG_end hr rfl] at hh
        have HH := Lib.hid hh
        clear hh hr e4 hcd
        go_wp2_with (go_at_call 11; refine hRT.mono ?_; rintro e w2 ⟨rfl, hb2⟩)
        go_ret2
        have hK2 := (hK.up hb2).alloc (hK.up hb2).size (.cells #[.int .i64 0, .string ts, .int .i64 tn, .int .i64 tx] 31)
        have hR := HH.out
        subst hR
        exact ⟨A, n, c, rfl, (hI.belowT hb2).belowT (Below.one w2 _), hK2⟩
      · obtain ⟨e5, e6⟩ := e4 hk
        have hk2 : (tk == 0) = false := by simpa using hk
        rw [toksG_step hr hk, Int.toNat_natCast] at hh
        have HH := Lib.hid hh
        clear hh hr e4 hcd hk
        go_wp2_with (first
          | (go_at_call 11; refine hRT.mono ?_; rintro e w2 ⟨rfl, hb2⟩)
          | (at_builtin; refine app_tok rfl _ _ rfl (((hI.belowT hb2).belowT (Below.one w2 (.cells #[.int .i64 tk, .string ts, .int .i64 tn, .int .i64 tx] 31))).belowT (Below.one _ (.cells #[.int .i64 tk, .string ts, .int .i64 tn, .int .i64 tx] 31))) rfl (tok1g _ ⟨tk, ts, tn, tx⟩ (w2.heap.size + 1) (by simp)) rfl (by omega) (by have := hK.size; have := hb2.size; simp; omega) ?_; intro A6 c6 w6 h6 hg6))
        have hK2 := ((hK.up hb2).alloc (hK.up hb2).size (.cells #[.int .i64 tk, .string ts, .int .i64 tn, .int .i64 tx] 31)).alloc ((hK.up hb2).alloc (hK.up hb2).size (.cells #[.int .i64 tk, .string ts, .int .i64 tn, .int .i64 tx] 31)).size (.cells #[.int .i64 tk, .string ts, .int .i64 tn, .int .i64 tx] 31)
        have hK6 := hK2.trans (hg6.fr.below (B := w.heap.size) (fun g hg => (hI.fromT g hg).1) hK2.size)
        clear hg6 hI hb2 hK hK2 hRT
        go_roundg f
        case measure => omega
        case rel => exact ⟨q', n + 1, c6, A6, acc ++ [⟨tk, ts, tn, tx⟩], rfl, rfl, h6, e3, by omega, by omega, HH, hK6⟩
    · rw [toksG_bad hr hc] at hh
      have HH := Lib.hid hh
      have hcz : (co == 0) = false := by simpa using hc
      have hcn : (co != 0) = true := by simp only [bne, hcz]; rfl
      clear hh hr hat hc
      go_wp2_with (go_at_call 11; refine hRT.mono ?_; rintro e w2 ⟨rfl, hb2⟩)
      go_ret2
      have hK2 := (hK.up hb2).alloc (hK.up hb2).size (.cells #[.int .i64 tk, .string ts, .int .i64 tn, .int .i64 tx] 31)
      have hR := HH.out
      subst hR
      exact ⟨none, 0, 0, rfl, KS.nilT _ _, hK2⟩
set_option maxHeartbeats 2000000 in
theorem s_Tokens (s : ByteArray) (w : World) (hs : s.size ≤ 1073741824) :
    Calls Tryz.prog 9 #[.string s] w fun e w' => TokensAt w w' s.data.toList e := by
  obtain ⟨R, hR⟩ : ∃ R, toksL s.data.toList = R := ⟨_, rfl⟩
  unfold TokensAt
  rw [hR]
  have hll := blen_of s
  have HR : Hid (toksG s.data.toList (s.size + 1) 0 [] = R) := Lib.hid (by rw [← hR, ← hll]; rfl)
  have hE0 := KS.newT w
  have hRT := fun (p : Nat) (hp : p ≤ s.size) w1 (hb : Below w.heap.size w w1) => s_ReadToken s p w1 hs (by omega)
  have hTO := fun (p : Nat) => tokP_ok (l := s.data.toList) (i := (p : Int)) (by omega)
  have HTO := Lib.hid hTO
  have HRT := Lib.hid hRT
  clear hR hRT hTO
  go_enter Tryz.func9, Tryz.ntmps9
  go_wp2_with fail
  go_loopg [4, 5, 6, 7, 8] (s.size + 1) (fun f v4 v5 v6 v7 v8 wr => ∃ (p n c : Nat) (A : Option Addr) (acc : List Tk), v5 = .int .i64 p ∧ v4 = .slice A n c ∧ KS wr w.heap.size A n c acc ∧ p ≤ s.size ∧ s.size < p + f ∧ n ≤ p ∧ Hid (toksG s.data.toList f p acc = R) ∧ Below w.heap.size w wr)
  case atStart => exact ⟨0, 0, 0, _, [], rfl, rfl, hE0, Nat.zero_le _, by omega, Nat.le_refl _, HR, Below.one _ _⟩
  case round =>
    obtain ⟨p, n, c, A, acc, rfl, rfl, hI, hp, hpf, hn, hH, hK⟩ := hrel
    clear HR hE0
    obtain ⟨f, rfl⟩ : ∃ f, gk = f + 1 := ⟨gk - 1, by omega⟩
    have hRT := HRT.out p hp wr hK
    have hTO := HTO.out p
    obtain ⟨⟨⟨tk, ts, tn, tx⟩, q, co⟩, hr⟩ : ∃ r, tokP s.data.toList (p : Int) = r := ⟨_, rfl⟩
    rw [hr] at hRT hTO
    simp only [retT, Tk.v, tokV] at hRT
    have hat := hTO.at_
    have hcd := hTO.code
    simp only [Int.toNat_natCast] at hat hcd
    have hh := hH.out
    clear hTO hH
    by_cases hc : co = 0
    · subst hc
      obtain ⟨q', rfl, e2, e3, e4⟩ := hat rfl
      by_cases hk : tk = 0
      · subst hk
        rw [toksG_end hr rfl] at hh
        have HH := Lib.hid hh
        clear hh hr e4 hcd
        go_wp2_with (go_at_call 12; refine hRT.mono ?_; rintro e w2 ⟨rfl, hb2⟩)
        go_ret2
        have hK2 := (hK.up hb2).alloc (hK.up hb2).size (.cells #[.int .i64 0, .string ts, .int .i64 tn, .int .i64 tx] 31)
        have hR := HH.out
        subst hR
        exact ⟨A, n, c, rfl, (hI.belowT hb2).belowT (Below.one w2 _), hK2⟩
      · obtain ⟨e5, e6⟩ := e4 hk
        have hk2 : (tk == 0) = false := by simpa using hk
        rw [toksG_step hr hk, Int.toNat_natCast] at hh
        have HH := Lib.hid hh
        clear hh hr e4 hcd hk
        go_wp2_with (first
          | (go_at_call 12; refine hRT.mono ?_; rintro e w2 ⟨rfl, hb2⟩)
          | (at_builtin; refine app_tok rfl _ _ rfl (((hI.belowT hb2).belowT (Below.one w2 (.cells #[.int .i64 tk, .string ts, .int .i64 tn, .int .i64 tx] 31))).belowT (Below.one _ (.cells #[.int .i64 tk, .string ts, .int .i64 tn, .int .i64 tx] 31))) rfl (tok1g _ ⟨tk, ts, tn, tx⟩ (w2.heap.size + 1) (by simp)) rfl (by omega) (by have := hK.size; have := hb2.size; simp; omega) ?_; intro A6 c6 w6 h6 hg6))
        have hK2 := ((hK.up hb2).alloc (hK.up hb2).size (.cells #[.int .i64 tk, .string ts, .int .i64 tn, .int .i64 tx] 31)).alloc ((hK.up hb2).alloc (hK.up hb2).size (.cells #[.int .i64 tk, .string ts, .int .i64 tn, .int .i64 tx] 31)).size (.cells #[.int .i64 tk, .string ts, .int .i64 tn, .int .i64 tx] 31)
        have hK6 := hK2.trans (hg6.fr.below (B := w.heap.size) (fun g hg => (hI.fromT g hg).1) hK2.size)
        clear hg6 hI hb2 hK hK2 hRT
        go_roundg f
        case measure => omega
        case rel => exact ⟨q', n + 1, c6, A6, acc ++ [⟨tk, ts, tn, tx⟩], rfl, rfl, h6, e3, by omega, by omega, HH, hK6⟩
    · rw [toksG_bad hr hc] at hh
      have HH := Lib.hid hh
      have hcz : (co == 0) = false := by simpa using hc
      have hcn : (co != 0) = true := by simp only [bne, hcz]; rfl
      clear hh hr hat hc
      go_wp2_with (go_at_call 12; refine hRT.mono ?_; rintro e w2 ⟨rfl, hb2⟩)
      go_ret2
      have hK2 := (hK.up hb2).alloc (hK.up hb2).size (.cells #[.int .i64 tk, .string ts, .int .i64 tn, .int .i64 tx] 31)
      have hR := HH.out
      subst hR
      exact ⟨_, 0, 0, rfl, (KS.newG _ (w2.heap.size + 1) (by simp)).moreT (by have := (hK.up hb2).size; omega), hK2.alloc hK2.size _⟩
end Go.Proofs.YtceijgaocjghcaaGreatDoor

namespace Go.Proofs.YtceijgaocjghcaaGreatDoor
open Go.RowKit

abbrev TokBox (w' : World) (g : Nat) (k : Int) (s : ByteArray) (n x : Int) : Prop := w'.cell? ⟨g, 0, none⟩ = some (.int .i64 k) ∧ w'.cell? ⟨g, 1, none⟩ = some (.string s) ∧ w'.cell? ⟨g, 2, none⟩ = some (.int .i64 n) ∧ w'.cell? ⟨g, 3, none⟩ = some (.int .i64 x)
theorem Blk.tokBox {w : World} {g : Nat} {t : TypeId} {k : Int} {s : ByteArray} {n x : Int} (h : Blk w g t #[.int .i64 k, .string s, .int .i64 n, .int .i64 x]) : TokBox w g k s n x := ⟨h.cell 0, h.cell 1, h.cell 2, h.cell 3⟩
set_option maxHeartbeats 4000000 in
theorem law_FnTokens (A : Option Addr) (n c : Nat) (b : List UInt8) (w : World) (h : Sl w w.heap.size 1 A n c (u8s b)) (hT : Lib.Utf8Tabs 1 2 w) (hC : Lib.CaseVar 6 Lib.caseA w) (hE : ErrT w) (hP : PowT w) :
    Calls Tryz.prog 5 #[.slice A n c] w fun e w' => e = .returned (.bool true) ∧ Below w.heap.size w w' := by
  have hn9 : n ≤ 9223372036854775807 := by have := h.cap; have := h.max; unfold maxLen at *; omega
  have hbig := fun w1 => l_bigQ A n c w1 hn9
  by_cases hb : 1048576 < n
  · rw [decide_eq_true hb] at hbig
    go_enter Tryz.func5, Tryz.ntmps5
    go_wp2_with fail
    refine (hbig _).mono ?_; rintro e w1 ⟨rfl, rfl⟩
    go_wp2_with fail
    go_ret
    exact ⟨rfl, Below.refl _ _⟩
  rw [decide_eq_false hb] at hbig
  have hn : n ≤ 1048576 := by omega
  have hSl := fun w1 (hb : Below w.heap.size w w1) => (h.below hb).more hb.size
  go_enter Tryz.func5, Tryz.ntmps5
  go_wp2_with fail
  refine (hbig _).mono ?_; rintro e w0 ⟨rfl, rfl⟩
  clear hbig hb
  go_wp2_with fail
  refine (s_DrawJoinTokens A n c b _ h hn).mono ?_; rintro e w1 ⟨A1, n1, c1, ts, rfl, h1, hts, hk5, hb1⟩
  have K := hb1
  have e1 := h1.lenT
  have hgd : ∀ t ∈ ts, GdTk t := fun t ht => (hts t ht).1
  have hwf : ∀ t ∈ ts, t.wf := fun t ht => (hts t ht).1.wfD (by have := (hts t ht).2; omega)
  have hsz := szK_few ts fun t ht => (hts t ht).2
  have hjl := joinT_len ts hwf
  have hbk1 := toksL_back hgd
  have hbk2 := toksL_back2 hgd
  have hJI := fun A2 n2 c2 w2 (hk : KS w2 w.heap.size A2 n2 c2 ts) (hb : Below w.heap.size w w2) => i_JoinTokens A2 n2 c2 ts w2 _ hk.sl (Nat.le_refl _) hwf (by omega) (Utf8Tabs_below hT hb) (hP.below hb)
  have hJS := fun A2 n2 c2 w2 (hk : KS w2 w.heap.size A2 n2 c2 ts) => s_JoinTokens A2 n2 c2 ts w2 _ hk.sl (Nat.le_refl _) hwf (by omega)
  obtain ⟨JB, hJB⟩ : ∃ JB : ByteArray, ⟨(joinT ts).toArray⟩ = JB := ⟨_, rfl⟩
  have hJd : JB.data.toList = joinT ts := by rw [← hJB]
  have hJz : JB.size ≤ 30000 := by rw [← hJB, ba_sz]; omega
  rw [hJB] at hJI hJS
  have hT1 : ∀ w2, Below w.heap.size w w2 → Calls Tryz.prog 8 #[.string JB] w2 fun e w' => ∃ A n c, e = .returned (.tuple #[.slice A n c, .int .i64 0]) ∧ KS w' w2.heap.size A n c ts ∧ Below w2.heap.size w2 w' := fun w2 hb => by
    have hq := i_Tokens JB w2 (by omega) (Utf8Tabs_below hT hb) (Lib.CaseVar_below hC hb) (hE.below hb)
    unfold TokensAt at hq
    rw [hJd, hbk1] at hq
    exact hq
  have hT2 : ∀ w2, Below w.heap.size w w2 → Calls Tryz.prog 8 #[.string (⟨#[9]⟩ ++ JB ++ ⟨#[32, 10]⟩)] w2 fun e w' => ∃ A n c, e = .returned (.tuple #[.slice A n c, .int .i64 0]) ∧ KS w' w2.heap.size A n c ts ∧ Below w2.heap.size w2 w' := fun w2 hb => by
    have hd : (⟨#[9]⟩ ++ JB ++ ⟨#[32, 10]⟩ : ByteArray).data.toList = [9] ++ joinT ts ++ [32, 10] := by
      rw [ByteArray.data_append, ByteArray.data_append, Array.toList_append, Array.toList_append, hJd]
    have hq := i_Tokens (⟨#[9]⟩ ++ JB ++ ⟨#[32, 10]⟩) w2 (by rw [ByteArray.size_append, ByteArray.size_append]; show 1 + JB.size + 2 ≤ _; omega) (Utf8Tabs_below hT hb) (Lib.CaseVar_below hC hb) (hE.below hb)
    unfold TokensAt at hq
    rw [hd, hbk2] at hq
    exact hq
  clear hJB hJd hbk1 hbk2 hgd hts hjl
  go_wp2_with fail
  refine (hJI _ _ _ _ h1 K).mono ?_; rintro e w2 ⟨rfl, hb2⟩
  replace h1 := h1.belowT hb2
  replace K := K.up hb2
  go_wp2_with fail
  refine (hT1 _ K).mono ?_; rintro e w3 ⟨A3, n3, c3, rfl, h3, hb3⟩
  replace h3 := h3.moreD K.size
  replace h1 := h1.belowT hb3
  replace K := K.up hb3
  have e3 := h3.lenT
  go_wp2_with fail
  refine (hT2 _ K).mono ?_; rintro e w4 ⟨A4, n4, c4, rfl, h4, hb4⟩
  replace h4 := h4.moreD K.size
  replace h1 := h1.belowT hb4
  replace h3 := h3.belowT hb4
  replace K := K.up hb4
  clear hT1 hT2
  go_wp2_with fail
  refine (s_DrawTokenText A n c b _ (hSl _ K) hn).mono ?_; rintro e w5 ⟨tk, tt, tn, tx, rfl, ⟨hd1, hd2, hd3, hd4⟩, hb5⟩
  replace h1 := h1.belowT hb5
  replace h3 := h3.belowT hb5
  replace h4 := h4.belowT hb5
  replace K := K.up hb5
  have BA := Blk.new w5 31 #[.int .i64 tk, .string tt, .int .i64 tn, .int .i64 tx]
  have kA := Below.one w5 (.cells #[.int .i64 tk, .string tt, .int .i64 tn, .int .i64 tx] 31)
  replace h1 := h1.belowT kA
  replace h3 := h3.belowT kA
  replace h4 := h4.belowT kA
  replace K := K.up kA
  have hxI := fun w2 (hb : Below w.heap.size w w2) => i_TokenText tk tt tn tx w2 (by omega) (by omega) (by omega) (Utf8Tabs_below hT hb) (hP.below hb)
  have hxS := fun w2 => s_TokenText tk tt tn tx w2 (by omega) (by omega) (by omega)
  obtain ⟨XB, hXB⟩ : ∃ XB : ByteArray, ⟨(tokL tk tt.data.toList tn tx).toArray⟩ = XB := ⟨_, rfl⟩
  rw [hXB] at hxI hxS
  unfold tokV at hxI hxS
  clear hXB hd1 hd2 hd3 hd4 hSl
  have z5 : w5.heap.size < (w5.alloc (.cells #[.int .i64 tk, .string tt, .int .i64 tn, .int .i64 tx] 31)).heap.size := by simp
  go_upto_region 8 with fail
  generalize w5.alloc (.cells #[.int .i64 tk, .string tt, .int .i64 tn, .int .i64 tx] 31) = w6 at BA h1 h3 h4 K z5 ⊢
  generalize w5.heap.size = gT at BA z5 ⊢
  have hS0 := fun (w' : World) (hb : Below w6.heap.size w6 w') => (show (TokBox w' gT tk tt tn tx ∧ KS w' w.heap.size A1 n1 c1 ts) ∧ Below w6.heap.size w6 w' from ⟨⟨(BA.below hb BA.lt).tokBox, h1.belowT hb⟩, hb⟩)
  have hS2 := fun (w' w'' : World) (h : (TokBox w' gT tk tt tn tx ∧ KS w' w.heap.size A1 n1 c1 ts) ∧ Below w6.heap.size w6 w') (hb : Below w'.heap.size w' w'') => hS0 w'' (h.2.up hb)
  have hC1 := fun (w' : World) (h : (TokBox w' gT tk tt tn tx ∧ KS w' w.heap.size A1 n1 c1 ts) ∧ Below w6.heap.size w6 w') => hJS _ _ _ w' h.1.2
  have hC2 := fun (w' : World) (h : (TokBox w' gT tk tt tn tx ∧ KS w' w.heap.size A1 n1 c1 ts) ∧ Below w6.heap.size w6 w') => hxI w' (K.up h.2)
  have hC3 := fun (w' : World) (h : (TokBox w' gT tk tt tn tx ∧ KS w' w.heap.size A1 n1 c1 ts) ∧ Below w6.heap.size w6 w') => hxS w'
  clear hJS hxI hxS
  go_region_held3 (fun w' => (TokBox w' gT tk tt tn tx ∧ KS w' w.heap.size A1 n1 c1 ts) ∧ Below w6.heap.size w6 w')
    (first | exact hS0 _ (Below.refl _ _).drew | (refine hS2 _ _ ?_ hbq; assumption) | (refine hS2 _ _ ?_ hbr; assumption) | (refine hS2 _ _ ?_ hbs; assumption))
    (first
      | (go_at_call 35; refine (hC1 _ (by assumption)).mono ?_; rintro e w2 ⟨rfl, hbq⟩)
      | (go_at_call 36; refine (hC2 _ (by assumption)).mono ?_; rintro e w3 ⟨rfl, hbr⟩)
      | (go_at_call 37; refine (hC3 _ (by assumption)).mono ?_; rintro e w3 ⟨rfl, hbs⟩))
  rename_i hHeld
  have hb9 := hHeld.2
  have h3 := h3.belowT hb9
  have h4 := h4.belowT hb9
  have K := K.up hb9
  obtain rfl : n3 = n1 := by omega
  rename_i w9 _
  clear hHeld hS0 hS2 hC1 hC2 hC3 hb9 BA
  go_wp2_with fail
  refine (l_sameTokens ts _ _ _ _ _ _ _ h3.sl h4.sl).mono ?_; rintro e wa ⟨rfl, hba⟩
  have h3 := h3.belowT hba
  have K := K.up hba
  go_wp2_with fail
  refine (hJI _ _ _ _ h3 K).mono ?_; rintro e wb ⟨rfl, hbb⟩
  go_wp2_with fail
  go_ret
  exact ⟨by simp, K.up hbb⟩
end Go.Proofs.YtceijgaocjghcaaGreatDoor
