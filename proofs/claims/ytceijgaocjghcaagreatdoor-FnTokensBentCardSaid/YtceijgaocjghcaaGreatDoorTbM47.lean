/- Tokens: both sides. Written by gen/tokens.py. The law FnTokensBent. Written by gen/tokbent.py. -/
import Derived.Test.YtceijgaocjghcaaGreatDoorTbM26
import Derived.Test.YtceijgaocjghcaaGreatDoorTbM44
import Derived.Test.YtceijgaocjghcaaGreatDoorTbM46
import Derived.Deep.LoopGhost
import Derived.Test.YtceijgaocjghcaaGreatDoorTbM41
import Derived.Test.YtceijgaocjghcaaGreatDoorTbTokDraws2
import Derived.Test.YtceijgaocjghcaaGreatDoorTbM42
import Derived.Test.YtceijgaocjghcaaGreatDoorTbM20
set_option linter.unusedVariables false
set_option maxRecDepth 100000
set_option linter.unusedSimpArgs false
namespace Go.Proofs.YtceijgaocjghcaaGreatDoor
open Go.RowKit

theorem KS.moreT {w : World} {lo lo' n c : Nat} {A : Option Addr} {l : List Tk} (h : KS w lo' A n c l) (hl : lo ≤ lo') : KS w lo A n c l := by
  refine ⟨h.1, ?_⟩
  rcases h.2 with h1 | ⟨g, cap, cur, h1, h2, h3⟩
  · exact .inl h1
  · exact .inr ⟨g, cap, cur, h1, Nat.le_trans hl h2, h3⟩
set_option maxHeartbeats 2000000 in
theorem i_Tokens (s : ByteArray) (w : World) (hs : s.size ≤ 1073741824) (hT : Lib.Utf8Tabs 1 2 w) (hC : Lib.CaseVar 6 Lib.caseA w) (hE : ErrT w) :
    Calls Tryz.prog 8 #[.string s] w fun e w' => TokensAt w w' s.data.toList e := by
  obtain ⟨R, hR⟩ : ∃ R, toksL s.data.toList = R := ⟨_, rfl⟩
  unfold TokensAt
  rw [hR]
  have hll := blen_of s
  have HR : Hid (toksG s.data.toList (s.size + 1) 0 [] = R) := Lib.hid (by rw [← hR, ← hll]; rfl)
  have hE0 := KS.newT w
  have hRT := fun (p : Nat) (hp : p ≤ s.size) w1 (hb : Below w.heap.size w w1) => i_ReadToken s p w1 hs (by omega) (Utf8Tabs_below hT hb) (Lib.CaseVar_below hC hb) (hE.below hb)
  have hTO := fun (p : Nat) => tokP_ok (l := s.data.toList) (i := (p : Int)) (by omega)
  have HTO := Lib.hid hTO
  have HRT := Lib.hid hRT
  clear hR hRT hTO
  go_enter Tryz.func8, Tryz.ntmps8
  go_wp2_with fail
  go_loopg [4, 5, 6, 7, 8] (s.size + 1) (fun f v4 v5 v6 v7 v8 wr => ∃ (p n c : Nat) (A : Option Addr) (acc : List Tk), v5 = .int .i64 p ∧ v4 = .slice A n c ∧ KS wr w.heap.size A n c acc ∧ p ≤ s.size ∧ s.size < p + f ∧ n ≤ p ∧ Hid (toksG s.data.toList f p acc = R) ∧ Below w.heap.size w wr)
  case atStart => exact ⟨0, 0, 0, _, [], rfl, rfl, hE0, Nat.zero_le _, by omega, Nat.le_refl _, HR, Below.one _ _⟩
  case round =>
    obtain ⟨p, n, c, A, acc, rfl, rfl, hI, hp, hpf, hn, hH, hK⟩ := hrel
    clear HR hE0
    obtain ⟨f, rfl⟩ : ∃ f, gk = f + 1 := ⟨gk - 1, by omega⟩
    have hRT := HRT.out p hp wr hK
    have hTO := HTO.out p
    obtain ⟨⟨⟨tk, ts, tn, tx⟩, q, co⟩, hr⟩ : ∃ r, tokP s.data.toList (p : Int) = r := ⟨_, rfl⟩
    rw [hr] at hRT hTO
    simp only [retT, Tk.v, tokV] at hRT
    have hat := hTO.at_
    have hcd := hTO.code
    simp only [Int.toNat_natCast] at hat hcd
    have hh := hH.out
    clear hTO hH
    by_cases hc : co = 0
    · subst hc
      obtain ⟨q', rfl, e2, e3, e4⟩ := hat rfl
      by_cases hk : tk = 0
      · subst hk
        rw [toksG_end hr rfl] at hh
        have HH := Lib.hid hh
        clear hh hr e4 hcd
        go_wp2_with (go_at_call 11; refine hRT.mono ?_; rintro e w2 ⟨rfl, hb2⟩)
        go_ret2
        have hK2 := (hK.up hb2).alloc (hK.up hb2).size (.cells #[.int .i64 0, .string ts, .int .i64 tn, .int .i64 tx] 31)
        have hR := HH.out
        subst hR
        exact ⟨A, n, c, rfl, (hI.belowT hb2).belowT (Below.one w2 _), hK2⟩
      · obtain ⟨e5, e6⟩ := e4 hk
        have hk2 : (tk == 0) = false := by simpa using hk
        rw [toksG_step hr hk, Int.toNat_natCast] at hh
        have HH := Lib.hid hh
        clear hh hr e4 hcd hk
        go_wp2_with (first
          | (go_at_call 11; refine hRT.mono ?_; rintro e w2 ⟨rfl, hb2⟩)
          | (at_builtin; refine app_tok rfl _ _ rfl (((hI.belowT hb2).belowT (Below.one w2 (.cells #[.int .i64 tk, .string ts, .int .i64 tn, .int .i64 tx] 31))).belowT (Below.one _ (.cells #[.int .i64 tk, .string ts, .int .i64 tn, .int .i64 tx] 31))) rfl (tok1g _ ⟨tk, ts, tn, tx⟩ (w2.heap.size + 1) (by simp)) rfl (by omega) (by have := hK.size; have := hb2.size; simp; omega) ?_; intro A6 c6 w6 h6 hg6))
        have hK2 := ((hK.up hb2).alloc (hK.up hb2).size (.cells #[.int .i64 tk, .string ts, .int .i64 tn, .int .i64 tx] 31)).alloc ((hK.up hb2).alloc (hK.up hb2).size (.cells #[.int .i64 tk, .string ts, .int .i64 tn, .int .i64 tx] 31)).size (.cells #[.int .i64 tk, .string ts, .int .i64 tn, .int .i64 tx] 31)
        have hK6 := hK2.trans (hg6.fr.below (B := w.heap.size) (fun g hg => (hI.fromT g hg).1) hK2.size)
        clear hg6 hI hb2 hK hK2 hRT
        go_roundg f
        case measure => omega
        case rel => exact ⟨q', n + 1, c6, A6, acc ++ [⟨tk, ts, tn, tx⟩], rfl, rfl, h6, e3, by omega, by omega, HH, hK6⟩
    · rw [toksG_bad hr hc] at hh
      have HH := Lib.hid hh
      have hcz : (co == 0) = false := by simpa using hc
      have hcn : (co != 0) = true := by simp only [bne, hcz]; rfl
      clear hh hr hat hc
      go_wp2_with (go_at_call 11; refine hRT.mono ?_; rintro e w2 ⟨rfl, hb2⟩)
      go_ret2
      have hK2 := (hK.up hb2).alloc (hK.up hb2).size (.cells #[.int .i64 tk, .string ts, .int .i64 tn, .int .i64 tx] 31)
      have hR := HH.out
      subst hR
      exact ⟨none, 0, 0, rfl, KS.nilT _ _, hK2⟩
set_option maxHeartbeats 2000000 in
theorem s_Tokens (s : ByteArray) (w : World) (hs : s.size ≤ 1073741824) :
    Calls Tryz.prog 9 #[.string s] w fun e w' => TokensAt w w' s.data.toList e := by
  obtain ⟨R, hR⟩ : ∃ R, toksL s.data.toList = R := ⟨_, rfl⟩
  unfold TokensAt
  rw [hR]
  have hll := blen_of s
  have HR : Hid (toksG s.data.toList (s.size + 1) 0 [] = R) := Lib.hid (by rw [← hR, ← hll]; rfl)
  have hE0 := KS.newT w
  have hRT := fun (p : Nat) (hp : p ≤ s.size) w1 (hb : Below w.heap.size w w1) => s_ReadToken s p w1 hs (by omega)
  have hTO := fun (p : Nat) => tokP_ok (l := s.data.toList) (i := (p : Int)) (by omega)
  have HTO := Lib.hid hTO
  have HRT := Lib.hid hRT
  clear hR hRT hTO
  go_enter Tryz.func9, Tryz.ntmps9
  go_wp2_with fail
  go_loopg [4, 5, 6, 7, 8] (s.size + 1) (fun f v4 v5 v6 v7 v8 wr => ∃ (p n c : Nat) (A : Option Addr) (acc : List Tk), v5 = .int .i64 p ∧ v4 = .slice A n c ∧ KS wr w.heap.size A n c acc ∧ p ≤ s.size ∧ s.size < p + f ∧ n ≤ p ∧ Hid (toksG s.data.toList f p acc = R) ∧ Below w.heap.size w wr)
  case atStart => exact ⟨0, 0, 0, _, [], rfl, rfl, hE0, Nat.zero_le _, by omega, Nat.le_refl _, HR, Below.one _ _⟩
  case round =>
    obtain ⟨p, n, c, A, acc, rfl, rfl, hI, hp, hpf, hn, hH, hK⟩ := hrel
    clear HR hE0
    obtain ⟨f, rfl⟩ : ∃ f, gk = f + 1 := ⟨gk - 1, by omega⟩
    have hRT := HRT.out p hp wr hK
    have hTO := HTO.out p
    obtain ⟨⟨⟨tk, ts, tn, tx⟩, q, co⟩, hr⟩ : ∃ r, tokP s.data.toList (p : Int) = r := ⟨_, rfl⟩
    rw [hr] at hRT hTO
    simp only [retT, Tk.v, tokV] at hRT
    have hat := hTO.at_
    have hcd := hTO.code
    simp only [Int.toNat_natCast] at hat hcd
    have hh := hH.out
    clear hTO hH
    by_cases hc : co = 0
    · subst hc
      obtain ⟨q', rfl, e2, e3, e4⟩ := hat rfl
      by_cases hk : tk = 0
      · subst hk
        rw [toksG_end hr rfl] at hh
        have HH := Lib.hid hh
        clear hh hr e4 hcd
        go_wp2_with (go_at_call 12; refine hRT.mono ?_; rintro e w2 ⟨rfl, hb2⟩)
        go_ret2
        have hK2 := (hK.up hb2).alloc (hK.up hb2).size (.cells #[.int .i64 0, .string ts, .int .i64 tn, .int .i64 tx] 31)
        have hR := HH.out
        subst hR
        exact ⟨A, n, c, rfl, (hI.belowT hb2).belowT (Below.one w2 _), hK2⟩
      · obtain ⟨e5, e6⟩ := e4 hk
        have hk2 : (tk == 0) = false := by simpa using hk
        rw [toksG_step hr hk, Int.toNat_natCast] at hh
        have HH := Lib.hid hh
        clear hh hr e4 hcd hk
        go_wp2_with (first
          | (go_at_call 12; refine hRT.mono ?_; rintro e w2 ⟨rfl, hb2⟩)
          | (at_builtin; refine app_tok rfl _ _ rfl (((hI.belowT hb2).belowT (Below.one w2 (.cells #[.int .i64 tk, .string ts, .int .i64 tn, .int .i64 tx] 31))).belowT (Below.one _ (.cells #[.int .i64 tk, .string ts, .int .i64 tn, .int .i64 tx] 31))) rfl (tok1g _ ⟨tk, ts, tn, tx⟩ (w2.heap.size + 1) (by simp)) rfl (by omega) (by have := hK.size; have := hb2.size; simp; omega) ?_; intro A6 c6 w6 h6 hg6))
        have hK2 := ((hK.up hb2).alloc (hK.up hb2).size (.cells #[.int .i64 tk, .string ts, .int .i64 tn, .int .i64 tx] 31)).alloc ((hK.up hb2).alloc (hK.up hb2).size (.cells #[.int .i64 tk, .string ts, .int .i64 tn, .int .i64 tx] 31)).size (.cells #[.int .i64 tk, .string ts, .int .i64 tn, .int .i64 tx] 31)
        have hK6 := hK2.trans (hg6.fr.below (B := w.heap.size) (fun g hg => (hI.fromT g hg).1) hK2.size)
        clear hg6 hI hb2 hK hK2 hRT
        go_roundg f
        case measure => omega
        case rel => exact ⟨q', n + 1, c6, A6, acc ++ [⟨tk, ts, tn, tx⟩], rfl, rfl, h6, e3, by omega, by omega, HH, hK6⟩
    · rw [toksG_bad hr hc] at hh
      have HH := Lib.hid hh
      have hcz : (co == 0) = false := by simpa using hc
      have hcn : (co != 0) = true := by simp only [bne, hcz]; rfl
      clear hh hr hat hc
      go_wp2_with (go_at_call 12; refine hRT.mono ?_; rintro e w2 ⟨rfl, hb2⟩)
      go_ret2
      have hK2 := (hK.up hb2).alloc (hK.up hb2).size (.cells #[.int .i64 tk, .string ts, .int .i64 tn, .int .i64 tx] 31)
      have hR := HH.out
      subst hR
      exact ⟨_, 0, 0, rfl, (KS.newG _ (w2.heap.size + 1) (by simp)).moreT (by have := (hK.up hb2).size; omega), hK2.alloc hK2.size _⟩
end Go.Proofs.YtceijgaocjghcaaGreatDoor

namespace Go.Proofs.YtceijgaocjghcaaGreatDoor
open Go.RowKit

set_option maxHeartbeats 4000000 in
theorem law_FnTokensBent (A : Option Addr) (n c : Nat) (b : List UInt8) (w : World) (h : Sl w w.heap.size 1 A n c (u8s b)) (hT : Lib.Utf8Tabs 1 2 w) (hC : Lib.CaseVar 6 Lib.caseA w) (hE : ErrT w) (hP : PowT w) :
    Calls Tryz.prog 3 #[.slice A n c] w fun e w' => e = .returned (.bool true) ∧ Below w.heap.size w w' := by
  have hn9 : n ≤ 9223372036854775807 := by have := h.cap; have := h.max; unfold maxLen at *; omega
  have hbig := fun w1 => l_bigQ A n c w1 hn9
  by_cases hb : 1048576 < n
  · rw [decide_eq_true hb] at hbig
    go_enter Tryz.func3, Tryz.ntmps3
    go_wp2_with fail
    refine (hbig _).mono ?_; rintro e w1 ⟨rfl, rfl⟩
    go_wp2_with fail
    go_ret
    exact ⟨rfl, Below.refl _ _⟩
  rw [decide_eq_false hb] at hbig
  have hn : n ≤ 1048576 := by omega
  have hSl := fun w1 (hb : Below w.heap.size w w1) => (h.below hb).more hb.size
  go_enter Tryz.func3, Tryz.ntmps3
  go_wp2_with fail
  refine (hbig _).mono ?_; rintro e w0 ⟨rfl, rfl⟩
  clear hbig hb
  go_wp2_with fail
  refine (s_DrawTokens A n c b _ h hn).mono ?_; rintro e w1 ⟨s, rfl, hsz, hb1⟩
  have K := hb1
  have hI := i_Tokens s w1 (by omega) (Utf8Tabs_below hT K) (Lib.CaseVar_below hC K) (hE.below K)
  have hS := fun w2 => s_Tokens s w2 (by omega)
  have hO := toksL_ok (l := s.data.toList) (by rw [blen_of]; omega)
  have hrd := toksL_rd (l := s.data.toList) (by rw [blen_of]; omega)
  have hno : ¬ (toksL s.data.toList).2 = 0 → (toksL s.data.toList).1 = [] := fun h => toksG_none _ _ _ _ h
  have hln := toksL_len (l := s.data.toList) (by rw [blen_of]; omega)
  unfold TokensAt at hI hS
  rw [blen_of] at hO hln
  obtain ⟨⟨T, co⟩, hr⟩ : ∃ r, toksL s.data.toList = r := ⟨_, rfl⟩
  rw [hr] at hI hS hO hrd hno hln
  simp only [] at hI hS hO hrd hno hln
  obtain ⟨hwf, hszk, hco⟩ := hO
  have HRd := Lib.hid hrd
  have HNo := Lib.hid hno
  clear hr hrd hno
  go_wp2_with fail
  refine hI.mono ?_; rintro e w2 ⟨A1, n1, c1, rfl, h1, hb2⟩
  have e1 := h1.lenT
  replace K := K.up hb2
  clear hI
  go_wp2_with fail
  refine (hS _).mono ?_; rintro e w3 ⟨A2, n2, c2, rfl, h2, hb3⟩
  replace h1 := h1.belowT hb3
  replace K := K.up hb3
  clear hS
  go_wp2_with fail
  refine (s_DrawReadToken A n c b _ (hSl _ K) hn).mono ?_; rintro e w4 ⟨s2, i2, rfl, hs2, hi2, hb4⟩
  replace h1 := h1.belowT hb4
  replace h2 := h2.belowT hb4
  replace K := K.up hb4
  have hI2 := i_ReadToken s2 i2 w4 (by omega) (by omega) (Utf8Tabs_below hT K) (Lib.CaseVar_below hC K) (hE.below K)
  have hS2 := fun w5 => s_ReadToken s2 i2 w5 (by omega) (by omega)
  obtain ⟨⟨⟨tk, ts, tn, tx⟩, q2, cc⟩, hr2⟩ : ∃ q, tokP s2.data.toList i2 = q := ⟨_, rfl⟩
  rw [hr2] at hI2 hS2
  simp only [retT, Tk.v, tokV] at hI2 hS2
  clear hr2
  go_wp2_with fail
  refine hI2.mono ?_; rintro e w5 ⟨rfl, hb5⟩
  replace h1 := h1.belowT hb5
  replace h2 := h2.belowT hb5
  replace K := K.up hb5
  have BA := Blk.new w5 31 #[.int .i64 tk, .string ts, .int .i64 tn, .int .i64 tx]
  have kA := Below.one w5 (.cells #[.int .i64 tk, .string ts, .int .i64 tn, .int .i64 tx] 31)
  replace h1 := h1.belowT kA
  replace h2 := h2.belowT kA
  replace K := K.up kA
  clear hI2
  go_wp2_with fail
  refine (hS2 _).mono ?_; rintro e w6 ⟨rfl, hb6⟩
  replace h1 := h1.belowT hb6
  replace h2 := h2.belowT hb6
  replace BA := BA.below hb6 BA.lt
  replace K := K.up hb6
  have BB := Blk.new w6 31 #[.int .i64 tk, .string ts, .int .i64 tn, .int .i64 tx]
  have kB := Below.one w6 (.cells #[.int .i64 tk, .string ts, .int .i64 tn, .int .i64 tx] 31)
  replace h1 := h1.belowT kB
  replace h2 := h2.belowT kB
  replace BA := BA.below kB BA.lt
  replace K := K.up kB
  clear hS2
  go_wp2_with fail
  refine (s_DrawSkip A n c b _ (hSl _ K) hn).mono ?_; rintro e w7 ⟨s3, i3, rfl, hs3, hi3, hb7⟩
  replace h1 := h1.belowT hb7
  replace h2 := h2.belowT hb7
  replace BA := BA.below hb7 BA.lt
  replace BB := BB.below hb7 BB.lt
  replace K := K.up hb7
  go_wp2_with fail
  refine (s_DrawSignOk A n c b _ (hSl _ K) hn).mono ?_; rintro e w8 ⟨s4, rfl, hs4, hb8⟩
  replace h1 := h1.belowT hb8
  replace h2 := h2.belowT hb8
  replace BA := BA.below hb8 BA.lt
  replace BB := BB.below hb8 BB.lt
  replace K := K.up hb8
  go_wp2_with fail
  refine (l_sameTokens T _ _ _ _ _ _ _ h1.sl h2.sl).mono ?_; rintro e w9 ⟨rfl, hb9⟩
  replace h1 := h1.belowT hb9
  replace BA := BA.below hb9 BA.lt
  replace BB := BB.below hb9 BB.lt
  replace K := K.up hb9
  have x0 := BA.cell 0
  have x1 := BA.cell 1
  have x2 := BA.cell 2
  have x3 := BA.cell 3
  have y0 := BB.cell 0
  have y1 := BB.cell 1
  have y2 := BB.cell 2
  have y3 := BB.cell 3
  have hK3 := fun w1 => i_Skip s3 i3 w1 (by unfold maxLen; omega)
  have hL3 := fun w1 => s_Skip s3 i3 w1 (by unfold maxLen; omega)
  have hK4 := fun w1 => i_SignOk s4 w1
  have hL4 := fun w1 => s_SignOk s4 w1
  generalize skipI s3.data.toList i3 = v3 at hK3 hL3
  generalize signOk s4.data.toList = v4 at hK4 hL4
  clear h2
  go_wp2_with fail
  clear x0 x1 x2 x3 y0 y1 y2 y3 BA BB
  refine (hK3 _).mono ?_; rintro e wa ⟨rfl, rfl⟩
  go_wp2_with fail
  refine (hL3 _).mono ?_; rintro e wb ⟨rfl, rfl⟩
  go_wp2_with fail
  refine (hK4 _).mono ?_; rintro e wc ⟨rfl, rfl⟩
  go_wp2_with fail
  refine (hL4 _).mono ?_; rintro e wd ⟨rfl, rfl⟩
  clear hK3 hL3 hK4 hL4
  by_cases hc : co = 0
  rotate_left
  · have hcz : (co == 0) = false := by simpa using hc
    have hcn : (co != 0) = true := by simp only [bne, hcz]; rfl
    have hT0 := HNo.out hc
    subst hT0
    have hn1 : n1 = 0 := by simpa using e1.symm
    subst hn1
    cases v4
    all_goals
      go_wp2_with fail
      go_ret
      exact ⟨rfl, K⟩
  subst hc
  have hn1 : n1 ≤ 40000 := by omega
  have hJ := i_JoinTokens A1 n1 c1 T w9 _ h1.sl (Nat.le_refl _) hwf (by omega) (Utf8Tabs_below hT K) (hP.below K)
  have hjl := joinT_len T hwf
  have hJz : (⟨(joinT T).toArray⟩ : ByteArray).size ≤ 1073741824 := by rw [ba_sz]; omega
  have HBack := Lib.hid (fun h => toksL_back (ts := T) h)
  have hba : (⟨(joinT T).toArray⟩ : ByteArray).data.toList = joinT T := by simp
  have hT2 : ∀ w2, Below w.heap.size w w2 → Calls Tryz.prog 8 #[.string ⟨(joinT T).toArray⟩] w2 fun e w' => TokensAt w2 w' (joinT T) e := fun w2 hb => by
    have hq := i_Tokens ⟨(joinT T).toArray⟩ w2 hJz (Utf8Tabs_below hT hb) (Lib.CaseVar_below hC hb) (hE.below hb)
    rw [hba] at hq
    exact hq
  unfold TokensAt at hT2
  obtain ⟨J, hJJ⟩ : ∃ J, joinT T = J := ⟨_, rfl⟩
  rw [hJJ] at hJ hT2 HBack
  obtain ⟨JB, hJB⟩ : ∃ JB : ByteArray, ⟨J.toArray⟩ = JB := ⟨_, rfl⟩
  rw [hJB] at hJ hT2
  clear hJJ hJB hba hJz hjl hSl h
  have hTl : T.length = n1 := e1
  cases v4
  all_goals
    go_wp2_with fail
    go_loopg [19] n1 (fun f v19 wr => ∃ j : Nat, j + f = n1 ∧ v19 = .int .i64 j ∧ wr = w9 ∧ Hid (∀ k (hk : k < T.length), k < j → -999 ≤ T[k].x ∧ T[k].x ≤ 999))
    case atStart => exact ⟨0, by omega, rfl, rfl, Lib.hid (fun k hk h => by omega)⟩
    case round =>
      obtain ⟨j, hjf, rfl, rfl, HX⟩ := hrel
      by_cases hj : j < n1
      · obtain ⟨f, rfl⟩ : ∃ f, gk = f + 1 := ⟨gk - 1, by omega⟩
        obtain ⟨g, o, hl, rfl, hg, q0, q1, q2, q3⟩ := h1.sl.tok hj
        obtain ⟨X, hX⟩ : ∃ X, T[j].x = X := ⟨_, rfl⟩
        rw [hX] at q3
        have HXX := Lib.hid hX
        have hji : (j : Int) < (n1 : Int) := by omega
        have hjf2 : j + 1 + f = n1 := by omega
        clear hX q0 q1 q2 hjf hJ hT2
        by_cases x1 : X < -999
        · go_wp2_with fail
          go_ret
          exact ⟨rfl, K⟩
        · by_cases x2 : 999 < X
          · go_wp2_with fail
            go_ret
            exact ⟨rfl, K⟩
          · go_wp2_with fail
            go_roundg f
            case measure => omega
            case rel => exact ⟨j + 1, hjf2, by go_num, rfl, Lib.hid (fun k hk h => by
              by_cases hkj : k = j
              · subst hkj; rw [HXX.out]; omega
              · exact HX.out k hk (by omega))⟩
      · have hall : ∀ t ∈ T, GdTk t := fun t ht => by
          obtain ⟨k, hk, rfl⟩ := List.mem_iff_getElem.1 ht
          have := HX.out k hk (by omega)
          exact ⟨HRd.out _ ht, this⟩
        have hbk := HBack.out hall
        rw [hbk] at hT2
        have hjn : j = n1 := by omega
        subst hjn
        clear HX HBack hall hbk
        go_wp2_with fail
        refine hJ.mono ?_; rintro e we ⟨rfl, hbe⟩
        replace h1 := h1.belowT hbe
        replace K := K.up hbe
        go_wp2_with fail
        refine (hT2 _ K).mono ?_; rintro e wf ⟨A5, n5, c5, rfl, h5, hbf⟩
        replace h1 := h1.belowT hbf
        replace K := K.up hbf
        go_wp2_with fail
        refine (l_sameTokens T _ _ _ _ _ _ _ h5.sl h1.sl).mono ?_; rintro e wg ⟨rfl, hbg⟩
        go_wp2_with fail
        go_ret
        exact ⟨rfl, K.up hbg⟩
end Go.Proofs.YtceijgaocjghcaaGreatDoor
