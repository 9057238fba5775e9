/- The law FnQuotes. -/
import Derived.Test.YtceijgaocjghcaaGreatDoorTbQDraws2
import Derived.Test.YtceijgaocjghcaaGreatDoorTbQuotedS
import Derived.Test.YtceijgaocjghcaaGreatDoorTbQuotePlain
set_option linter.unusedVariables false
set_option maxRecDepth 100000
set_option linter.unusedSimpArgs false
namespace Go.Proofs.YtceijgaocjghcaaGreatDoor
open Go.RowKit

theorem l_bigQ (A : Option Addr) (n c : Nat) (w : World) (hn : n ≤ 9223372036854775807) :
    Calls Tryz.prog 6 #[.slice A n c] w fun e w' => e = .returned (.bool (decide (1048576 < n))) ∧ w = w' := by
  by_cases h : 1048576 < n
  · have hi : (1048576 : Int) < (n : Int) := by omega
    go_enter Tryz.func6, Tryz.ntmps6
    go_wp2_with fail
    go_ret
    exact ⟨by simp [h], rfl⟩
  · have hi : ¬ (1048576 : Int) < (n : Int) := by omega
    go_enter Tryz.func6, Tryz.ntmps6
    go_wp2_with fail
    go_ret
    exact ⟨by simp [h], rfl⟩
/-- What is read is text. -/
theorem quotedG_text (l : List UInt8) : ∀ (f p : Nat) (acc : List Int), (∀ n ∈ acc, runeOk n = true) → (quotedG l f p acc).2.2 = 0 → Lib.validD (quotedG l f p acc).1 = true
  | 0, _, _, _, h => by simp [quotedG, badQ] at h
  | f + 1, p, acc, hacc, h => by
    have bad : badQ.2.2 = 0 → False := fun h => by simp [badQ] at h
    have more : ∀ n : Int, runeOk n = true → ∀ x ∈ acc ++ [n], runeOk x = true := fun n hn x hx => by
      rcases List.mem_append.1 hx with hx | hx
      · exact hacc x hx
      · rw [List.mem_singleton.1 hx]; exact hn
    by_cases h1 : l.length ≤ p
    · rw [quotedG_end h1] at h; exact (bad h).elim
    by_cases h2 : l.getD p 0 = 34
    · rw [quotedG_close (by omega) h2]
      exact (encAll_text acc hacc).1
    by_cases h3 : l.getD p 0 = 92
    · obtain ⟨⟨n, m, ok⟩, he⟩ : ∃ u, escP l (p + 1) = u := ⟨_, rfl⟩
      rw [quotedG_esc (by omega) h3 he] at h ⊢
      cases ok with
      | false => rw [if_neg (by decide)] at h; exact (bad h).elim
      | true =>
        rw [if_pos rfl] at h ⊢
        have hr := (escP_ok (l := l) (q := p + 1) (by rw [he])).1
        rw [he] at hr
        exact quotedG_text l f _ _ (more n hr) h
    · cases hg : getR (l.drop p) with
      | none => rw [quotedG_none (by omega) h2 h3 hg] at h; exact (bad h).elim
      | some d =>
        obtain ⟨c, k⟩ := d
        rw [quotedG_some (by omega) h2 h3 hg] at h ⊢
        by_cases h4 : (c : Int) < 32
        · rw [if_pos h4] at h; exact (bad h).elim
        · rw [if_neg h4] at h ⊢
          exact quotedG_text l f _ _ (more _ (getR_some hg).1) h
theorem quotedL_text {l : List UInt8} {i : Int} (h : (quotedL l i).2.2 = 0) : Lib.validD (quotedL l i).1 = true := by
  unfold quotedL at h ⊢
  by_cases hc : i < 0 ∨ (l.length : Int) ≤ i ∨ ¬ l.getD i.toNat 0 = 34
  · rw [if_pos hc] at h; simp [badQ] at h
  · rw [if_neg hc] at h ⊢
    exact quotedG_text l _ _ _ (fun n hn => by cases hn) h
theorem quotedG_code (l : List UInt8) : ∀ (f p : Nat) (acc : List Int), (quotedG l f p acc).2.2 = 0 ∨ (quotedG l f p acc).2.2 = 1
  | 0, _, _ => .inr rfl
  | f + 1, p, acc => by
    simp only [quotedG]
    repeat' split
    all_goals first | exact .inr rfl | exact .inl rfl | exact quotedG_code l f _ _
theorem quotedL_code (l : List UInt8) (i : Int) : (quotedL l i).2.2 = 0 ∨ (quotedL l i).2.2 = 1 := by
  unfold quotedL
  split
  · exact .inr rfl
  · exact quotedG_code l _ _ _
theorem quotedG_len (l : List UInt8) : ∀ (f p : Nat) (acc : List Int), (quotedG l f p acc).1.length ≤ 4 * (acc.length + f)
  | 0, _, _ => by simp [quotedG, badQ]
  | f + 1, p, acc => by
    have ih := fun q a => quotedG_len l f q a
    have he := encAll_len acc
    simp only [quotedG]
    repeat' split
    all_goals first | (simp [badQ]; done) | (simp only; omega) | (refine Nat.le_trans (ih _ _) ?_; simp; omega)
theorem quotedL_len (l : List UInt8) (i : Int) : (quotedL l i).1.length ≤ 4 * l.length := by
  unfold quotedL
  split
  · simp [badQ]
  · have := quotedG_len l l.length (i.toNat + 1) []
    simpa using this
end Go.Proofs.YtceijgaocjghcaaGreatDoor
