/- The law FnQuotes. The laws' sameTokens; tokens that are read. Written by gen/tokbent.py. -/
import Derived.Test.YtceijgaocjghcaaGreatDoorTnQDraws2
import Derived.Test.YtceijgaocjghcaaGreatDoorTnQuotedS
import Derived.Test.YtceijgaocjghcaaGreatDoorTnM28
import Derived.Test.YtceijgaocjghcaaGreatDoorTnM39
import Derived.Test.YtceijgaocjghcaaGreatDoorTnTokRound
import Derived.BigQuiet
import Derived.Deep.LoopGhost
set_option linter.unusedVariables false
set_option maxRecDepth 100000
set_option linter.unusedSimpArgs false
namespace Go.Proofs.YtceijgaocjghcaaGreatDoor
open Go.RowKit

theorem l_bigQ (A : Option Addr) (n c : Nat) (w : World) (hn : n ≤ 9223372036854775807) :
    Calls Tryz.prog 6 #[.slice A n c] w fun e w' => e = .returned (.bool (decide (1048576 < n))) ∧ w = w' := by
  by_cases h : 1048576 < n
  · have hi : (1048576 : Int) < (n : Int) := by omega
    go_enter Tryz.func6, Tryz.ntmps6
    go_wp2_with fail
    go_ret
    exact ⟨by simp [h], rfl⟩
  · have hi : ¬ (1048576 : Int) < (n : Int) := by omega
    go_enter Tryz.func6, Tryz.ntmps6
    go_wp2_with fail
    go_ret
    exact ⟨by simp [h], rfl⟩
/-- What is read is text. -/
theorem quotedG_text (l : List UInt8) : ∀ (f p : Nat) (acc : List Int), (∀ n ∈ acc, runeOk n = true) → (quotedG l f p acc).2.2 = 0 → Lib.validD (quotedG l f p acc).1 = true
  | 0, _, _, _, h => by simp [quotedG, badQ] at h
  | f + 1, p, acc, hacc, h => by
    have bad : badQ.2.2 = 0 → False := fun h => by simp [badQ] at h
    have more : ∀ n : Int, runeOk n = true → ∀ x ∈ acc ++ [n], runeOk x = true := fun n hn x hx => by
      rcases List.mem_append.1 hx with hx | hx
      · exact hacc x hx
      · rw [List.mem_singleton.1 hx]; exact hn
    by_cases h1 : l.length ≤ p
    · rw [quotedG_end h1] at h; exact (bad h).elim
    by_cases h2 : l.getD p 0 = 34
    · rw [quotedG_close (by omega) h2]
      exact (encAll_text acc hacc).1
    by_cases h3 : l.getD p 0 = 92
    · obtain ⟨⟨n, m, ok⟩, he⟩ : ∃ u, escP l (p + 1) = u := ⟨_, rfl⟩
      rw [quotedG_esc (by omega) h3 he] at h ⊢
      cases ok with
      | false => rw [if_neg (by decide)] at h; exact (bad h).elim
      | true =>
        rw [if_pos rfl] at h ⊢
        have hr := (escP_ok (l := l) (q := p + 1) (by rw [he])).1
        rw [he] at hr
        exact quotedG_text l f _ _ (more n hr) h
    · cases hg : getR (l.drop p) with
      | none => rw [quotedG_none (by omega) h2 h3 hg] at h; exact (bad h).elim
      | some d =>
        obtain ⟨c, k⟩ := d
        rw [quotedG_some (by omega) h2 h3 hg] at h ⊢
        by_cases h4 : (c : Int) < 32
        · rw [if_pos h4] at h; exact (bad h).elim
        · rw [if_neg h4] at h ⊢
          exact quotedG_text l f _ _ (more _ (getR_some hg).1) h
theorem quotedL_text {l : List UInt8} {i : Int} (h : (quotedL l i).2.2 = 0) : Lib.validD (quotedL l i).1 = true := by
  unfold quotedL at h ⊢
  by_cases hc : i < 0 ∨ (l.length : Int) ≤ i ∨ ¬ l.getD i.toNat 0 = 34
  · rw [if_pos hc] at h; simp [badQ] at h
  · rw [if_neg hc] at h ⊢
    exact quotedG_text l _ _ _ (fun n hn => by cases hn) h
theorem quotedG_code (l : List UInt8) : ∀ (f p : Nat) (acc : List Int), (quotedG l f p acc).2.2 = 0 ∨ (quotedG l f p acc).2.2 = 1
  | 0, _, _ => .inr rfl
  | f + 1, p, acc => by
    simp only [quotedG]
    repeat' split
    all_goals first | exact .inr rfl | exact .inl rfl | exact quotedG_code l f _ _
theorem quotedL_code (l : List UInt8) (i : Int) : (quotedL l i).2.2 = 0 ∨ (quotedL l i).2.2 = 1 := by
  unfold quotedL
  split
  · exact .inr rfl
  · exact quotedG_code l _ _ _
theorem quotedG_len (l : List UInt8) : ∀ (f p : Nat) (acc : List Int), (quotedG l f p acc).1.length ≤ 4 * (acc.length + f)
  | 0, _, _ => by simp [quotedG, badQ]
  | f + 1, p, acc => by
    have ih := fun q a => quotedG_len l f q a
    have he := encAll_len acc
    simp only [quotedG]
    repeat' split
    all_goals first | (simp [badQ]; done) | (simp only; omega) | (refine Nat.le_trans (ih _ _) ?_; simp; omega)
theorem quotedL_len (l : List UInt8) (i : Int) : (quotedL l i).1.length ≤ 4 * l.length := by
  unfold quotedL
  split
  · simp [badQ]
  · have := quotedG_len l l.length (i.toNat + 1) []
    simpa using this
end Go.Proofs.YtceijgaocjghcaaGreatDoor

namespace Go.Proofs.YtceijgaocjghcaaGreatDoor
open Go.RowKit

theorem tokQ_rd {l : List UInt8} {p : Nat} {t : Tk} {q : Int} (hl : l.length ≤ 1073741824) (h : tokQ l p = (t, q, 0)) (hk : ¬ t.k = 0) : RdTk t := by
  unfold tokQ at h
  split at h
  · simp only [Prod.mk.injEq] at h
    rw [← h.1] at hk
    exact absurd rfl hk
  split at h
  · rename_i hs
    simp only [Prod.mk.injEq] at h
    rw [← h.1]
    exact .sign _ hs
  split at h
  · unfold quoP at h
    split at h
    · rename_i h0
      simp only [Prod.mk.injEq] at h
      rw [← h.1]
      exact .text _ (quotedL_text h0)
    · rename_i h0
      simp only [Prod.mk.injEq] at h
      exact absurd h.2.2 h0
  split at h
  · unfold numT at h
    split at h
    · simp only [Prod.mk.injEq] at h
      rw [← h.1]
      exact .num _ _ (numbP_num (p := p) hl).n
    · rename_i h0
      simp only [Prod.mk.injEq] at h
      exact absurd h.2.2 h0
  unfold wordP at h
  split at h
  · simp only [Prod.mk.injEq] at h; rw [← h.1]; exact .word _ (.inl rfl)
  split at h
  · simp only [Prod.mk.injEq] at h; rw [← h.1]; exact .word _ (.inr (.inl rfl))
  split at h
  · simp only [Prod.mk.injEq] at h; rw [← h.1]; exact .word _ (.inr (.inr rfl))
  · simp only [Prod.mk.injEq] at h; exact absurd h.2.2 (by decide)
theorem tokP_rd {l : List UInt8} {i : Int} {t : Tk} {q : Int} (hl : l.length ≤ 1073741824) (h : tokP l i = (t, q, 0)) (hk : ¬ t.k = 0) : RdTk t := by
  unfold tokP at h
  split at h
  · simp only [Prod.mk.injEq] at h; exact absurd h.2.2 (by decide)
  · exact tokQ_rd hl h hk
theorem toksG_rd {l : List UInt8} (hl : l.length ≤ 1073741824) : ∀ (f p : Nat) (acc : List Tk), (∀ t ∈ acc, RdTk t) → ∀ t ∈ (toksG l f p acc).1, RdTk t
  | 0, _, _, _ => fun t ht => by (simp only [toksG] at ht; cases ht)
  | f + 1, p, acc, ha => by
    obtain ⟨⟨t, q, c⟩, hr⟩ : ∃ r, tokP l p = r := ⟨_, rfl⟩
    by_cases hc : c = 0
    · subst hc
      by_cases hk : t.k = 0
      · rw [toksG_end hr hk]; exact ha
      · rw [toksG_step hr hk]
        refine toksG_rd hl f _ _ fun u hu => ?_
        rcases List.mem_append.1 hu with hu | hu
        · exact ha u hu
        · rw [List.mem_singleton] at hu; rw [hu]; exact tokP_rd hl hr hk
    · rw [toksG_bad hr hc]; exact fun u hu => by (cases hu)
theorem toksL_rd {l : List UInt8} (hl : l.length ≤ 1073741824) : ∀ t ∈ (toksL l).1, RdTk t := toksG_rd hl _ _ _ (fun t ht => by cases ht)
theorem toksG_none (l : List UInt8) : ∀ (f p : Nat) (acc : List Tk), ¬ (toksG l f p acc).2 = 0 → (toksG l f p acc).1 = []
  | 0, _, _, _ => rfl
  | f + 1, p, acc, h => by
    obtain ⟨⟨t, q, c⟩, hr⟩ : ∃ r, tokP l p = r := ⟨_, rfl⟩
    by_cases hc : c = 0
    · subst hc
      by_cases hk : t.k = 0
      · rw [toksG_end hr hk] at h; exact absurd rfl h
      · rw [toksG_step hr hk] at h ⊢; exact toksG_none l f _ _ h
    · rw [toksG_bad hr hc]
set_option maxHeartbeats 1600000 in
theorem l_sameTokens (l : List Tk) (A1 : Option Addr) (n1 c1 : Nat) (A2 : Option Addr) (n2 c2 : Nat) (w : World) (h1 : Sl w w.heap.size 4 A1 n1 c1 (tkC l)) (h2 : Sl w w.heap.size 4 A2 n2 c2 (tkC l)) :
    Calls Tryz.prog 15 #[.slice A1 n1 c1, .slice A2 n2 c2] w fun r w' => r = .returned (.bool true) ∧ Below w.heap.size w w' := by
  have e1 := h1.tklen
  have e2 := h2.tklen
  have hc : n1 ≤ 9223372036854775807 := by have := h1.cap; have := h1.max; unfold maxLen at *; omega
  obtain rfl : n1 = n2 := by omega
  go_enter Tryz.func15, Tryz.ntmps15
  go_wp2_with fail
  go_loopg [5] n1 (fun f i wr => ∃ j : Nat, j + f = n1 ∧ i = .int .i64 j ∧ Below w.heap.size w wr)
  case atStart => exact ⟨0, by omega, rfl, Below.refl _ _⟩
  case round =>
    obtain ⟨j, hjk, rfl, hb⟩ := hrel
    by_cases hlt : j < n1
    · obtain ⟨f, rfl⟩ : ∃ f, gk = f + 1 := ⟨gk - 1, by omega⟩
      obtain ⟨g1, o1, hl, hA1, hg1, x0, x1, x2, x3⟩ := (h1.below hb).tok hlt
      obtain ⟨g2, o2, hl', hA2, hg2, y0, y1, y2, y3⟩ := (h2.below hb).tok hlt
      subst hA1 hA2
      obtain ⟨⟨tk, ts, tn, tx⟩, ht⟩ : ∃ t, l[j] = t := ⟨_, rfl⟩
      rw [ht] at x0 x1 x2 x3 y0 y1 y2 y3
      simp only at x0 x1 x2 x3 y0 y1 y2 y3
      have hji : (j : Int) < (n1 : Int) := by omega
      have hjk2 : j + 1 + f = n1 := by omega
      clear hjk
      go_wp2_with fail
      go_quiet (fail)
      go_wp2_with fail
      go_roundg f
      case measure => omega
      case rel => exact ⟨j + 1, hjk2, by go_num, hb.trans ((Drawn.drewN (Drawn.refl _) _).below _)⟩
    · go_wp2_with fail
      go_ret
      exact ⟨rfl, hb⟩
end Go.Proofs.YtceijgaocjghcaaGreatDoor
