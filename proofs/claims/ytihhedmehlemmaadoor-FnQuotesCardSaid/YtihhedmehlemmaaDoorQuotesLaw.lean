/- The law FnQuotes. -/
import Derived.Test.YtihhedmehlemmaaDoorQDraws2
import Derived.Test.YtihhedmehlemmaaDoorQuotedS
import Derived.Test.YtihhedmehlemmaaDoorQuotePlain
set_option linter.unusedVariables false
set_option maxRecDepth 100000
set_option linter.unusedSimpArgs false
namespace Go.Proofs.YtihhedmehlemmaaDoor
open Go.RowKit

theorem l_bigQ (A : Option Addr) (n c : Nat) (w : World) (hn : n ≤ 9223372036854775807) :
    Calls Tryd.prog 5 #[.slice A n c] w fun e w' => e = .returned (.bool (decide (1048576 < n))) ∧ w = w' := by
  by_cases h : 1048576 < n
  · have hi : (1048576 : Int) < (n : Int) := by omega
    go_enter Tryd.func5, Tryd.ntmps5
    go_wp2_with fail
    go_ret
    exact ⟨by simp [h], rfl⟩
  · have hi : ¬ (1048576 : Int) < (n : Int) := by omega
    go_enter Tryd.func5, Tryd.ntmps5
    go_wp2_with fail
    go_ret
    exact ⟨by simp [h], rfl⟩
/-- What is read is text. -/
theorem quotedG_text (l : List UInt8) : ∀ (f p : Nat) (acc : List Int), (∀ n ∈ acc, runeOk n = true) → (quotedG l f p acc).2.2 = 0 → Lib.validD (quotedG l f p acc).1 = true
  | 0, _, _, _, h => by simp [quotedG, badQ] at h
  | f + 1, p, acc, hacc, h => by
    have bad : badQ.2.2 = 0 → False := fun h => by simp [badQ] at h
    have more : ∀ n : Int, runeOk n = true → ∀ x ∈ acc ++ [n], runeOk x = true := fun n hn x hx => by
      rcases List.mem_append.1 hx with hx | hx
      · exact hacc x hx
      · rw [List.mem_singleton.1 hx]; exact hn
    by_cases h1 : l.length ≤ p
    · rw [quotedG_end h1] at h; exact (bad h).elim
    by_cases h2 : l.getD p 0 = 34
    · rw [quotedG_close (by omega) h2]
      exact (encAll_text acc hacc).1
    by_cases h3 : l.getD p 0 = 92
    · obtain ⟨⟨n, m, ok⟩, he⟩ : ∃ u, escP l (p + 1) = u := ⟨_, rfl⟩
      rw [quotedG_esc (by omega) h3 he] at h ⊢
      cases ok with
      | false => rw [if_neg (by decide)] at h; exact (bad h).elim
      | true =>
        rw [if_pos rfl] at h ⊢
        have hr := (escP_ok (l := l) (q := p + 1) (by rw [he])).1
        rw [he] at hr
        exact quotedG_text l f _ _ (more n hr) h
    · cases hg : getR (l.drop p) with
      | none => rw [quotedG_none (by omega) h2 h3 hg] at h; exact (bad h).elim
      | some d =>
        obtain ⟨c, k⟩ := d
        rw [quotedG_some (by omega) h2 h3 hg] at h ⊢
        by_cases h4 : (c : Int) < 32
        · rw [if_pos h4] at h; exact (bad h).elim
        · rw [if_neg h4] at h ⊢
          exact quotedG_text l f _ _ (more _ (getR_some hg).1) h
theorem quotedL_text {l : List UInt8} {i : Int} (h : (quotedL l i).2.2 = 0) : Lib.validD (quotedL l i).1 = true := by
  unfold quotedL at h ⊢
  by_cases hc : i < 0 ∨ (l.length : Int) ≤ i ∨ ¬ l.getD i.toNat 0 = 34
  · rw [if_pos hc] at h; simp [badQ] at h
  · rw [if_neg hc] at h ⊢
    exact quotedG_text l _ _ _ (fun n hn => by cases hn) h
theorem quotedG_code (l : List UInt8) : ∀ (f p : Nat) (acc : List Int), (quotedG l f p acc).2.2 = 0 ∨ (quotedG l f p acc).2.2 = 1
  | 0, _, _ => .inr rfl
  | f + 1, p, acc => by
    simp only [quotedG]
    repeat' split
    all_goals first | exact .inr rfl | exact .inl rfl | exact quotedG_code l f _ _
theorem quotedL_code (l : List UInt8) (i : Int) : (quotedL l i).2.2 = 0 ∨ (quotedL l i).2.2 = 1 := by
  unfold quotedL
  split
  · exact .inr rfl
  · exact quotedG_code l _ _ _
theorem quotedG_len (l : List UInt8) : ∀ (f p : Nat) (acc : List Int), (quotedG l f p acc).1.length ≤ 4 * (acc.length + f)
  | 0, _, _ => by simp [quotedG, badQ]
  | f + 1, p, acc => by
    have ih := fun q a => quotedG_len l f q a
    have he := encAll_len acc
    simp only [quotedG]
    repeat' split
    all_goals first | (simp [badQ]; done) | (simp only; omega) | (refine Nat.le_trans (ih _ _) ?_; simp; omega)
theorem quotedL_len (l : List UInt8) (i : Int) : (quotedL l i).1.length ≤ 4 * l.length := by
  unfold quotedL
  split
  · simp [badQ]
  · have := quotedG_len l l.length (i.toNat + 1) []
    simpa using this
set_option maxHeartbeats 4000000 in
theorem law_FnQuotes (A : Option Addr) (n c : Nat) (b : List UInt8) (w : World) (h : Sl w w.heap.size 1 A n c (u8s b)) (hT : Lib.Utf8Tabs 0 1 w) (hC : Lib.CaseVar 4 Lib.caseA w) :
    Calls Tryd.prog 4 #[.slice A n c] w fun e' w' => e' = .returned (.bool true) ∧ Below w.heap.size w w' := by
  have hn9 : n ≤ 9223372036854775807 := by have := h.cap; have := h.max; unfold maxLen at *; omega
  have hbig := fun w1 => l_bigQ A n c w1 hn9
  by_cases hn : 1048576 < n
  · rw [decide_eq_true hn] at hbig
    go_enter Tryd.func4, Tryd.ntmps4
    go_wp2_with (go_at_call 5; refine (hbig _).mono ?_; rintro e w1 ⟨rfl, rfl⟩)
    go_ret
    exact ⟨rfl, Below.refl _ _⟩
  rw [decide_eq_false hn] at hbig
  go_enter Tryd.func4, Tryd.ntmps4
  go_wp2_with (go_at_call 5; refine (hbig _).mono ?_; rintro e w1 ⟨rfl, rfl⟩)
  clear hbig
  refine (s_DrawQuote A n c b _ h (by omega)).mono ?_; rintro e w1 ⟨s, rfl, hs, k1⟩
  obtain ⟨q, hq⟩ : ∃ q, quoteL s.data.toList = q := ⟨_, rfl⟩
  have hql := quoteL_len s.data.toList
  rw [blen_of, hq] at hql
  have hQi := fun w2 (hb : Below w.heap.size w w2) => i_Quote s w2 (by omega) (Utf8Tabs_below hT hb)
  have hQs := fun w2 => s_Quote s w2 (by omega)
  rw [hq] at hQi hQs
  go_wp2_with fail
  refine (hQi _ k1).mono ?_; rintro e w2 ⟨rfl, hb2⟩
  have k2 := k1.up hb2
  clear hQi hb2
  go_wp2_with fail
  refine (s_DrawReadQuoted A n c b _ ((h.below k2).more k2.size) (by omega)).mono ?_; rintro e w3 ⟨r, i, rfl, hr, hi, hb3⟩
  have k3 := k2.up hb3
  obtain ⟨⟨t, nx, co⟩, hto⟩ : ∃ u, quotedL r.data.toList i = u := ⟨_, rfl⟩
  have hRi := fun w1 (hb : Below w.heap.size w w1) => i_ReadQuoted r i w1 (by omega) (by omega) (Lib.CaseVar_below hC hb) (Utf8Tabs_below hT hb)
  have hRs := fun w1 => s_ReadQuoted r i w1 (by omega) (by omega)
  rw [hto] at hRi hRs
  simp only [retQ] at hRi hRs
  have hcode := quotedL_code r.data.toList i
  have htext := @quotedL_text r.data.toList i
  have htl := quotedL_len r.data.toList i
  rw [hto] at hcode htext htl
  rw [blen_of] at htl
  simp only at hcode htext htl
  clear hto k1 k2 hb3
  go_wp2_with fail
  refine (hRi _ k3).mono ?_; rintro e w4 ⟨rfl, hb4⟩
  have k4 := k3.up hb4
  go_wp2_with fail
  refine (hRs _).mono ?_; rintro e w5 ⟨rfl, hb5⟩
  have k5 := k4.up hb5
  clear hRi hRs hb4 hb5 k3 k4
  go_wp2_with fail
  refine (s_DrawBare A n c b _ ((h.below k5).more k5.size) (by omega)).mono ?_; rintro e w6 ⟨d, rfl, hd, hb6⟩
  have k6 := k5.up hb6
  obtain ⟨bb, hbb⟩ : ∃ u, bareL d.data.toList = u := ⟨_, rfl⟩
  have hBi := fun w1 (hb : Below w.heap.size w w1) => i_Bare d w1 (by omega) (Utf8Tabs_below hT hb)
  have hBs := fun w1 => s_Bare d w1 (by omega)
  rw [hbb] at hBi hBs
  clear h k5 hb6 hbb hi
  have hTi := fun w1 (hb : Below w.heap.size w w1) => i_TextOk ⟨t.toArray⟩ w1 (by rw [ba_sz]; omega) (Utf8Tabs_below hT hb)
  have hSi := fun w1 (hb : Below w.heap.size w w1) => i_TextOk s w1 (by omega) (Utf8Tabs_below hT hb)
  have et : (⟨t.toArray⟩ : ByteArray).data.toList = t := by simp
  rw [et] at hTi
  clear et htl
  cases hv : Lib.validD s.data.toList with
  | false =>
    rw [hv] at hSi
    obtain rfl : q = [] := by rw [← hq, quoteL_no hv]
    rcases hcode with rfl | rfl
    · have hvt := htext rfl
      rw [hvt] at hTi
      clear htext hvt hq hv
      go_wp2_with (first
        | (go_at_call 30; refine (hQs _).mono ?_; rintro e w7 ⟨rfl, hb7⟩; have k7 := k6.up hb7)
        | (go_at_call 31; refine (hBi _ k7).mono ?_; rintro e w8 ⟨rfl, hb8⟩; have k8 := k7.up hb8)
        | (go_at_call 32; refine (hBs _).mono ?_; rintro e w9 ⟨rfl, hb9⟩; have k9 := k8.up hb9)
        | (go_at_call 33; refine (hTi _ k9).mono ?_; rintro e w10 ⟨rfl, hb10⟩; have k10 := k9.up hb10; clear hTi)
        | (go_at_call 33; refine (hSi _ k10).mono ?_; rintro e w11 ⟨rfl, hb11⟩; have k11 := k10.up hb11))
      all_goals (go_ret; exact ⟨by simp, by assumption⟩)
    · clear htext hTi hq hv
      go_wp2_with (first
        | (go_at_call 30; refine (hQs _).mono ?_; rintro e w7 ⟨rfl, hb7⟩; have k7 := k6.up hb7)
        | (go_at_call 31; refine (hBi _ k7).mono ?_; rintro e w8 ⟨rfl, hb8⟩; have k8 := k7.up hb8)
        | (go_at_call 32; refine (hBs _).mono ?_; rintro e w9 ⟨rfl, hb9⟩; have k9 := k8.up hb9)
        | (go_at_call 33; refine (hSi _ k9).mono ?_; rintro e w11 ⟨rfl, hb11⟩; have k11 := k9.up hb11))
      all_goals (go_ret; exact ⟨by simp, by assumption⟩)
  | true =>
    rw [hv] at hSi
    have hqv := quoteL_valid hv
    have hqq := quoted_quote (m := [120]) hv
    rw [hq] at hqv hqq
    have hdat : ((⟨q.toArray⟩ : ByteArray) ++ { data := #[120] }).data.toList = q ++ [120] := by simp
    have hsz : ((⟨q.toArray⟩ : ByteArray) ++ { data := #[120] }).size ≤ 1073741824 := by
      rw [← blen_of, hdat]; simp; omega
    have hRQ := fun w1 (hb : Below w.heap.size w w1) => i_ReadQuoted ((⟨q.toArray⟩ : ByteArray) ++ { data := #[120] }) 0 w1 hsz (by decide) (Lib.CaseVar_below hC hb) (Utf8Tabs_below hT hb)
    rw [hdat, hqq] at hRQ
    simp only [retQ] at hRQ
    have hQt := fun w1 (hb : Below w.heap.size w w1) => i_TextOk ⟨q.toArray⟩ w1 (by rw [ba_sz]; omega) (Utf8Tabs_below hT hb)
    have eq2 : (⟨q.toArray⟩ : ByteArray).data.toList = q := by simp
    have esz : (⟨q.toArray⟩ : ByteArray).size = q.length := ba_sz q
    have es : (⟨s.data.toList.toArray⟩ : ByteArray) = s := by simp
    rw [eq2, hqv] at hQt
    rw [es] at hRQ
    clear hdat hsz hqq hqv hv hq eq2 es
    rcases hcode with rfl | rfl
    · have hvt := htext rfl
      rw [hvt] at hTi
      clear htext hvt
      go_wp2_with (first
        | (go_at_call 30; refine (hQs _).mono ?_; rintro e w7 ⟨rfl, hb7⟩; have k7 := k6.up hb7)
        | (go_at_call 31; refine (hBi _ k7).mono ?_; rintro e w8 ⟨rfl, hb8⟩; have k8 := k7.up hb8)
        | (go_at_call 32; refine (hBs _).mono ?_; rintro e w9 ⟨rfl, hb9⟩; have k9 := k8.up hb9)
        | (go_at_call 33; refine (hTi _ k9).mono ?_; rintro e w10 ⟨rfl, hb10⟩; have k10 := k9.up hb10; clear hTi)
        | (go_at_call 33; refine (hSi _ k10).mono ?_; rintro e w11 ⟨rfl, hb11⟩; have k11 := k10.up hb11; clear hSi)
        | (go_at_call 27; refine (hRQ _ k11).mono ?_; rintro e w12 ⟨rfl, hb12⟩; have k12 := k11.up hb12)
        | (go_at_call 33; refine (hQt _ k12).mono ?_; rintro e w13 ⟨rfl, hb13⟩; have k13 := k12.up hb13))
      all_goals (go_ret; exact ⟨by simp, by assumption⟩)
    · clear htext hTi
      go_wp2_with (first
        | (go_at_call 30; refine (hQs _).mono ?_; rintro e w7 ⟨rfl, hb7⟩; have k7 := k6.up hb7)
        | (go_at_call 31; refine (hBi _ k7).mono ?_; rintro e w8 ⟨rfl, hb8⟩; have k8 := k7.up hb8)
        | (go_at_call 32; refine (hBs _).mono ?_; rintro e w9 ⟨rfl, hb9⟩; have k9 := k8.up hb9)
        | (go_at_call 33; refine (hSi _ k9).mono ?_; rintro e w11 ⟨rfl, hb11⟩; have k11 := k9.up hb11; clear hSi)
        | (go_at_call 27; refine (hRQ _ k11).mono ?_; rintro e w12 ⟨rfl, hb12⟩; have k12 := k11.up hb12)
        | (go_at_call 33; refine (hQt _ k12).mono ?_; rintro e w13 ⟨rfl, hb13⟩; have k13 := k12.up hb13))
      all_goals (go_ret; exact ⟨by simp, by assumption⟩)
end Go.Proofs.YtihhedmehlemmaaDoor
