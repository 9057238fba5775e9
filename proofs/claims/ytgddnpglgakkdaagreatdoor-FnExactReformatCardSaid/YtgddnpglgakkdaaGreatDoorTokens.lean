/- Tokens: both sides. Written by gen/tokens.py. -/
import Derived.Test.YtgddnpglgakkdaaGreatDoorTokensC
import Derived.Test.YtgddnpglgakkdaaGreatDoorReadTokI
import Derived.Test.YtgddnpglgakkdaaGreatDoorReadTokS
import Derived.Deep.LoopGhost
set_option linter.unusedVariables false
set_option maxRecDepth 100000
set_option linter.unusedSimpArgs false
namespace Go.Proofs.YtgddnpglgakkdaaGreatDoor
open Go.RowKit

theorem KS.moreT {w : World} {lo lo' n c : Nat} {A : Option Addr} {l : List Tk} (h : KS w lo' A n c l) (hl : lo ≤ lo') : KS w lo A n c l := by
  refine ⟨h.1, ?_⟩
  rcases h.2 with h1 | ⟨g, cap, cur, h1, h2, h3⟩
  · exact .inl h1
  · exact .inr ⟨g, cap, cur, h1, Nat.le_trans hl h2, h3⟩
set_option maxHeartbeats 2000000 in
theorem i_Tokens (s : ByteArray) (w : World) (hs : s.size ≤ 1073741824) (hT : Lib.Utf8Tabs 1 2 w) (hC : Lib.CaseVar 6 Lib.caseA w) (hE : ErrT w) :
    Calls Tryz.prog 22 #[.string s] w fun e w' => TokensAt w w' s.data.toList e := by
  obtain ⟨R, hR⟩ : ∃ R, toksL s.data.toList = R := ⟨_, rfl⟩
  unfold TokensAt
  rw [hR]
  have hll := blen_of s
  have HR : Hid (toksG s.data.toList (s.size + 1) 0 [] = R) := Lib.hid (by rw [← hR, ← hll]; rfl)
  have hE0 := KS.newT w
  have hRT := fun (p : Nat) (hp : p ≤ s.size) w1 (hb : Below w.heap.size w w1) => i_ReadToken s p w1 hs (by omega) (Utf8Tabs_below hT hb) (Lib.CaseVar_below hC hb) (hE.below hb)
  have hTO := fun (p : Nat) => tokP_ok (l := s.data.toList) (i := (p : Int)) (by omega)
  have HTO := Lib.hid hTO
  have HRT := Lib.hid hRT
  clear hR hRT hTO
  go_enter Tryz.func22, Tryz.ntmps22
  go_wp2_with fail
  go_loopg [4, 5, 6, 7, 8] (s.size + 1) (fun f v4 v5 v6 v7 v8 wr => ∃ (p n c : Nat) (A : Option Addr) (acc : List Tk), v5 = .int .i64 p ∧ v4 = .slice A n c ∧ KS wr w.heap.size A n c acc ∧ p ≤ s.size ∧ s.size < p + f ∧ n ≤ p ∧ Hid (toksG s.data.toList f p acc = R) ∧ Below w.heap.size w wr)
  case atStart => exact ⟨0, 0, 0, _, [], rfl, rfl, hE0, Nat.zero_le _, by omega, Nat.le_refl _, HR, Below.one _ _⟩
  case round =>
    obtain ⟨p, n, c, A, acc, rfl, rfl, hI, hp, hpf, hn, hH, hK⟩ := hrel
    clear HR hE0
    obtain ⟨f, rfl⟩ : ∃ f, gk = f + 1 := ⟨gk - 1, by omega⟩
    have hRT := HRT.out p hp wr hK
    have hTO := HTO.out p
    obtain ⟨⟨⟨tk, ts, tn, tx⟩, q, co⟩, hr⟩ : ∃ r, tokP s.data.toList (p : Int) = r := ⟨_, rfl⟩
    rw [hr] at hRT hTO
    simp only [retT, Tk.v, tokV] at hRT
    have hat := hTO.at_
    have hcd := hTO.code
    simp only [Int.toNat_natCast] at hat hcd
    have hh := hH.out
    clear hTO hH
    by_cases hc : co = 0
    · subst hc
      obtain ⟨q', rfl, e2, e3, e4⟩ := hat rfl
      by_cases hk : tk = 0
      · subst hk
        rw [toksG_end hr rfl] at hh
        have HH := Lib.hid hh
        clear hh hr e4 hcd
        go_wp2_with (go_at_call 19; refine hRT.mono ?_; rintro e w2 ⟨rfl, hb2⟩)
        go_ret2
        have hK2 := (hK.up hb2).alloc (hK.up hb2).size (.cells #[.int .i64 0, .string ts, .int .i64 tn, .int .i64 tx] 41)
        have hR := HH.out
        subst hR
        exact ⟨A, n, c, rfl, (hI.belowT hb2).belowT (Below.one w2 _), hK2⟩
      · obtain ⟨e5, e6⟩ := e4 hk
        have hk2 : (tk == 0) = false := by simpa using hk
        rw [toksG_step hr hk, Int.toNat_natCast] at hh
        have HH := Lib.hid hh
        clear hh hr e4 hcd hk
        go_wp2_with (first
          | (go_at_call 19; refine hRT.mono ?_; rintro e w2 ⟨rfl, hb2⟩)
          | (at_builtin; refine app_tok rfl _ _ rfl (((hI.belowT hb2).belowT (Below.one w2 (.cells #[.int .i64 tk, .string ts, .int .i64 tn, .int .i64 tx] 41))).belowT (Below.one _ (.cells #[.int .i64 tk, .string ts, .int .i64 tn, .int .i64 tx] 41))) rfl (tok1g _ ⟨tk, ts, tn, tx⟩ (w2.heap.size + 1) (by simp)) rfl (by omega) (by have := hK.size; have := hb2.size; simp; omega) ?_; intro A6 c6 w6 h6 hg6))
        have hK2 := ((hK.up hb2).alloc (hK.up hb2).size (.cells #[.int .i64 tk, .string ts, .int .i64 tn, .int .i64 tx] 41)).alloc ((hK.up hb2).alloc (hK.up hb2).size (.cells #[.int .i64 tk, .string ts, .int .i64 tn, .int .i64 tx] 41)).size (.cells #[.int .i64 tk, .string ts, .int .i64 tn, .int .i64 tx] 41)
        have hK6 := hK2.trans (hg6.fr.below (B := w.heap.size) (fun g hg => (hI.fromT g hg).1) hK2.size)
        clear hg6 hI hb2 hK hK2 hRT
        go_roundg f
        case measure => omega
        case rel => exact ⟨q', n + 1, c6, A6, acc ++ [⟨tk, ts, tn, tx⟩], rfl, rfl, h6, e3, by omega, by omega, HH, hK6⟩
    · rw [toksG_bad hr hc] at hh
      have HH := Lib.hid hh
      have hcz : (co == 0) = false := by simpa using hc
      have hcn : (co != 0) = true := by simp only [bne, hcz]; rfl
      clear hh hr hat hc
      go_wp2_with (go_at_call 19; refine hRT.mono ?_; rintro e w2 ⟨rfl, hb2⟩)
      go_ret2
      have hK2 := (hK.up hb2).alloc (hK.up hb2).size (.cells #[.int .i64 tk, .string ts, .int .i64 tn, .int .i64 tx] 41)
      have hR := HH.out
      subst hR
      exact ⟨none, 0, 0, rfl, KS.nilT _ _, hK2⟩
set_option maxHeartbeats 2000000 in
theorem s_Tokens (s : ByteArray) (w : World) (hs : s.size ≤ 1073741824) :
    Calls Tryz.prog 21 #[.string s] w fun e w' => TokensAt w w' s.data.toList e := by
  obtain ⟨R, hR⟩ : ∃ R, toksL s.data.toList = R := ⟨_, rfl⟩
  unfold TokensAt
  rw [hR]
  have hll := blen_of s
  have HR : Hid (toksG s.data.toList (s.size + 1) 0 [] = R) := Lib.hid (by rw [← hR, ← hll]; rfl)
  have hE0 := KS.newT w
  have hRT := fun (p : Nat) (hp : p ≤ s.size) w1 (hb : Below w.heap.size w w1) => s_ReadToken s p w1 hs (by omega)
  have hTO := fun (p : Nat) => tokP_ok (l := s.data.toList) (i := (p : Int)) (by omega)
  have HTO := Lib.hid hTO
  have HRT := Lib.hid hRT
  clear hR hRT hTO
  go_enter Tryz.func21, Tryz.ntmps21
  go_wp2_with fail
  go_loopg [4, 5, 6, 7, 8] (s.size + 1) (fun f v4 v5 v6 v7 v8 wr => ∃ (p n c : Nat) (A : Option Addr) (acc : List Tk), v5 = .int .i64 p ∧ v4 = .slice A n c ∧ KS wr w.heap.size A n c acc ∧ p ≤ s.size ∧ s.size < p + f ∧ n ≤ p ∧ Hid (toksG s.data.toList f p acc = R) ∧ Below w.heap.size w wr)
  case atStart => exact ⟨0, 0, 0, _, [], rfl, rfl, hE0, Nat.zero_le _, by omega, Nat.le_refl _, HR, Below.one _ _⟩
  case round =>
    obtain ⟨p, n, c, A, acc, rfl, rfl, hI, hp, hpf, hn, hH, hK⟩ := hrel
    clear HR hE0
    obtain ⟨f, rfl⟩ : ∃ f, gk = f + 1 := ⟨gk - 1, by omega⟩
    have hRT := HRT.out p hp wr hK
    have hTO := HTO.out p
    obtain ⟨⟨⟨tk, ts, tn, tx⟩, q, co⟩, hr⟩ : ∃ r, tokP s.data.toList (p : Int) = r := ⟨_, rfl⟩
    rw [hr] at hRT hTO
    simp only [retT, Tk.v, tokV] at hRT
    have hat := hTO.at_
    have hcd := hTO.code
    simp only [Int.toNat_natCast] at hat hcd
    have hh := hH.out
    clear hTO hH
    by_cases hc : co = 0
    · subst hc
      obtain ⟨q', rfl, e2, e3, e4⟩ := hat rfl
      by_cases hk : tk = 0
      · subst hk
        rw [toksG_end hr rfl] at hh
        have HH := Lib.hid hh
        clear hh hr e4 hcd
        go_wp2_with (go_at_call 18; refine hRT.mono ?_; rintro e w2 ⟨rfl, hb2⟩)
        go_ret2
        have hK2 := (hK.up hb2).alloc (hK.up hb2).size (.cells #[.int .i64 0, .string ts, .int .i64 tn, .int .i64 tx] 41)
        have hR := HH.out
        subst hR
        exact ⟨A, n, c, rfl, (hI.belowT hb2).belowT (Below.one w2 _), hK2⟩
      · obtain ⟨e5, e6⟩ := e4 hk
        have hk2 : (tk == 0) = false := by simpa using hk
        rw [toksG_step hr hk, Int.toNat_natCast] at hh
        have HH := Lib.hid hh
        clear hh hr e4 hcd hk
        go_wp2_with (first
          | (go_at_call 18; refine hRT.mono ?_; rintro e w2 ⟨rfl, hb2⟩)
          | (at_builtin; refine app_tok rfl _ _ rfl (((hI.belowT hb2).belowT (Below.one w2 (.cells #[.int .i64 tk, .string ts, .int .i64 tn, .int .i64 tx] 41))).belowT (Below.one _ (.cells #[.int .i64 tk, .string ts, .int .i64 tn, .int .i64 tx] 41))) rfl (tok1g _ ⟨tk, ts, tn, tx⟩ (w2.heap.size + 1) (by simp)) rfl (by omega) (by have := hK.size; have := hb2.size; simp; omega) ?_; intro A6 c6 w6 h6 hg6))
        have hK2 := ((hK.up hb2).alloc (hK.up hb2).size (.cells #[.int .i64 tk, .string ts, .int .i64 tn, .int .i64 tx] 41)).alloc ((hK.up hb2).alloc (hK.up hb2).size (.cells #[.int .i64 tk, .string ts, .int .i64 tn, .int .i64 tx] 41)).size (.cells #[.int .i64 tk, .string ts, .int .i64 tn, .int .i64 tx] 41)
        have hK6 := hK2.trans (hg6.fr.below (B := w.heap.size) (fun g hg => (hI.fromT g hg).1) hK2.size)
        clear hg6 hI hb2 hK hK2 hRT
        go_roundg f
        case measure => omega
        case rel => exact ⟨q', n + 1, c6, A6, acc ++ [⟨tk, ts, tn, tx⟩], rfl, rfl, h6, e3, by omega, by omega, HH, hK6⟩
    · rw [toksG_bad hr hc] at hh
      have HH := Lib.hid hh
      have hcz : (co == 0) = false := by simpa using hc
      have hcn : (co != 0) = true := by simp only [bne, hcz]; rfl
      clear hh hr hat hc
      go_wp2_with (go_at_call 18; refine hRT.mono ?_; rintro e w2 ⟨rfl, hb2⟩)
      go_ret2
      have hK2 := (hK.up hb2).alloc (hK.up hb2).size (.cells #[.int .i64 tk, .string ts, .int .i64 tn, .int .i64 tx] 41)
      have hR := HH.out
      subst hR
      exact ⟨_, 0, 0, rfl, (KS.newG _ (w2.heap.size + 1) (by simp)).moreT (by have := (hK.up hb2).size; omega), hK2.alloc hK2.size _⟩
end Go.Proofs.YtgddnpglgakkdaaGreatDoor
