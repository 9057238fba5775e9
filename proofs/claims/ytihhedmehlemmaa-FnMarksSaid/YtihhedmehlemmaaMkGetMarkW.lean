/- GetMark: what it gives. -/
import Derived.Test.YtihhedmehlemmaaMkGetMarkE
set_option linter.unusedVariables false
set_option maxRecDepth 100000
set_option linter.unusedSimpArgs false
namespace Go.Proofs.Ytihhedmehlemmaa
open Go.RowKit

/-- The mark that stands at j and whose first byte is k. -/
def getMarkB (b : List UInt8) (j k : Nat) : Int × Int × Int × Int :=
  if (shortM k).2.2 = true then ((shortM k).1, (shortM k).2.1, (j + 1 : Nat), 0)
  else if (formM k).1 = 0 ∨ b.length < j + 1 + (formM k).2.toNat then (0, 0, 0, 1)
  else if 208 ≤ k ∧ k ≤ 211 then (if inR (sgnN (bigN (part b (j + 1) (formM k).2.toNat)) (formM k).2.toNat) (-1000000000000000) 1000000000000000 = true then (3, sgnN (bigN (part b (j + 1) (formM k).2.toNat)) (formM k).2.toNat, (j + 1 + (formM k).2.toNat : Nat), 0) else (0, 0, 0, 2))
  else if (formM k).1 = 3 then (if bigN (part b (j + 1) (formM k).2.toNat) ≤ 1000000000000000 then (3, bigN (part b (j + 1) (formM k).2.toNat), (j + 1 + (formM k).2.toNat : Nat), 0) else (0, 0, 0, 2))
  else if (formM k).1 = 5 then (if 256 ≤ bigN (part b (j + 1) 2) ∧ bigN (part b (j + 1) 2) ≤ 258 then (5, (bigN (part b (j + 1) 2) : Int) - 256, (j + 1 + 2 : Nat), 0) else (0, 0, 0, 1))
  else if (formM k).1 = 4 then (if (fltOf (bitsFltV (bigN (part b (j + 1) 4)))).2.2 = true then (4, fltBits (fltOf (bitsFltV (bigN (part b (j + 1) 4)))).1 (fltOf (bitsFltV (bigN (part b (j + 1) 4)))).2.1, (j + 1 + 4 : Nat), 0) else (0, 0, 0, 1))
  else if bigN (part b (j + 1) (formM k).2.toNat) ≤ 65535 then ((formM k).1, bigN (part b (j + 1) (formM k).2.toNat), (j + 1 + (formM k).2.toNat : Nat), 0) else (0, 0, 0, 2)
def getMark (b : List UInt8) (i : Int) : Int × Int × Int × Int :=
  if 0 ≤ i ∧ i < b.length then getMarkB b i.toNat ((b[i.toNat]?).getD 0).toNat else (0, 0, 0, 1)
def ret4 (x : Int × Int × Int × Int) : Value := markRet x.1 x.2.1 x.2.2.1 x.2.2.2
theorem getMark_in {b : List UInt8} {j : Nat} (h : j < b.length) : getMark b j = getMarkB b j b[j].toNat := by
  unfold getMark; rw [if_pos (by omega)]; simp [h]
theorem ret4_eq {x : Int × Int × Int × Int} {a b c d : Int} (h : x = (a, b, c, d)) : ret4 x = markRet a b c d := by subst h; rfl
section
variable {b : List UInt8} {j k v : Nat} {K : Int}
theorem gm_one {n : Int} (h : shortM k = (K, n, true)) : ret4 (getMarkB b j k) = markRet K n (j + 1 : Nat) 0 := ret4_eq (by unfold getMarkB; rw [h]; rfl)
theorem gm_none (h : shortM k = (0, 0, false)) (hF : formM k = (0, 0)) : ret4 (getMarkB b j k) = markRet 0 0 0 1 := ret4_eq (by unfold getMarkB; rw [h, hF]; simp)
theorem gm_short (h : shortM k = (0, 0, false)) (hF : formM k = (K, (v : Int))) (h2 : b.length < j + 1 + v) : ret4 (getMarkB b j k) = markRet 0 0 0 1 := ret4_eq (by unfold getMarkB; rw [h, hF]; simp [h2])
theorem gm_neg (h : shortM k = (0, 0, false)) (hF : formM k = (3, (v : Int))) (h2 : ¬ b.length < j + 1 + v) (hk : 208 ≤ k ∧ k ≤ 211) (hr : inR (sgnN (bigN (part b (j + 1) v)) v) (-1000000000000000) 1000000000000000 = true) : ret4 (getMarkB b j k) = markRet 3 (sgnN (bigN (part b (j + 1) v)) v) (j + 1 + v : Nat) 0 := ret4_eq (by
  unfold getMarkB; simp only [h, hF, Int.toNat_natCast]; rw [if_neg (by decide), if_neg (by omega), if_pos hk, if_pos hr])
theorem gm_neg_no (h : shortM k = (0, 0, false)) (hF : formM k = (3, (v : Int))) (h2 : ¬ b.length < j + 1 + v) (hk : 208 ≤ k ∧ k ≤ 211) (hr : inR (sgnN (bigN (part b (j + 1) v)) v) (-1000000000000000) 1000000000000000 = false) : ret4 (getMarkB b j k) = markRet 0 0 0 2 := ret4_eq (by
  unfold getMarkB; simp only [h, hF, Int.toNat_natCast]; rw [if_neg (by decide), if_neg (by omega), if_pos hk, if_neg (by simp [hr])])
theorem gm_int (h : shortM k = (0, 0, false)) (hF : formM k = (3, (v : Int))) (h2 : ¬ b.length < j + 1 + v) (hk : ¬ (208 ≤ k ∧ k ≤ 211)) (hr : bigN (part b (j + 1) v) ≤ 1000000000000000) : ret4 (getMarkB b j k) = markRet 3 (bigN (part b (j + 1) v)) (j + 1 + v : Nat) 0 := ret4_eq (by
  unfold getMarkB; simp only [h, hF, Int.toNat_natCast]; rw [if_neg (by decide), if_neg (by omega), if_neg hk, if_pos trivial, if_pos hr])
theorem gm_int_no (h : shortM k = (0, 0, false)) (hF : formM k = (3, (v : Int))) (h2 : ¬ b.length < j + 1 + v) (hk : ¬ (208 ≤ k ∧ k ≤ 211)) (hr : ¬ bigN (part b (j + 1) v) ≤ 1000000000000000) : ret4 (getMarkB b j k) = markRet 0 0 0 2 := ret4_eq (by
  unfold getMarkB; simp only [h, hF, Int.toNat_natCast]; rw [if_neg (by decide), if_neg (by omega), if_neg hk, if_pos trivial, if_neg hr])
theorem gm_odd (h : shortM k = (0, 0, false)) (hF : formM k = (5, ((2 : Nat) : Int))) (h2 : ¬ b.length < j + 1 + 2) (hk : ¬ (208 ≤ k ∧ k ≤ 211)) (hr : 256 ≤ bigN (part b (j + 1) 2) ∧ bigN (part b (j + 1) 2) ≤ 258) : ret4 (getMarkB b j k) = markRet 5 ((bigN (part b (j + 1) 2) : Int) - 256) (j + 1 + 2 : Nat) 0 := ret4_eq (by
  unfold getMarkB; simp only [h, hF, Int.toNat_natCast]; rw [if_neg (by decide), if_neg (by omega), if_neg hk, if_neg (by decide), if_pos trivial, if_pos hr])
theorem gm_odd_no (h : shortM k = (0, 0, false)) (hF : formM k = (5, ((2 : Nat) : Int))) (h2 : ¬ b.length < j + 1 + 2) (hk : ¬ (208 ≤ k ∧ k ≤ 211)) (hr : ¬ (256 ≤ bigN (part b (j + 1) 2) ∧ bigN (part b (j + 1) 2) ≤ 258)) : ret4 (getMarkB b j k) = markRet 0 0 0 1 := ret4_eq (by
  unfold getMarkB; simp only [h, hF, Int.toNat_natCast]; rw [if_neg (by decide), if_neg (by omega), if_neg hk, if_neg (by decide), if_pos trivial, if_neg hr])
theorem gm_flt {a e : Int} (h : shortM k = (0, 0, false)) (hF : formM k = (4, ((4 : Nat) : Int))) (h2 : ¬ b.length < j + 1 + 4) (hk : ¬ (208 ≤ k ∧ k ≤ 211)) (hr : bitsFltV (bigN (part b (j + 1) 4)) = fltV a e true) : ret4 (getMarkB b j k) = markRet 4 (fltBits a e) (j + 1 + 4 : Nat) 0 := ret4_eq (by
  unfold getMarkB; simp only [h, hF, hr, fltOf_fltV, Int.toNat_natCast]; rw [if_neg (by decide), if_neg (by omega), if_neg hk, if_neg (by decide), if_neg (by decide), if_pos trivial, if_pos trivial])
theorem gm_flt_no {a e : Int} (h : shortM k = (0, 0, false)) (hF : formM k = (4, ((4 : Nat) : Int))) (h2 : ¬ b.length < j + 1 + 4) (hk : ¬ (208 ≤ k ∧ k ≤ 211)) (hr : bitsFltV (bigN (part b (j + 1) 4)) = fltV a e false) : ret4 (getMarkB b j k) = markRet 0 0 0 1 := ret4_eq (by
  unfold getMarkB; simp only [h, hF, hr, fltOf_fltV, Int.toNat_natCast]; rw [if_neg (by decide), if_neg (by omega), if_neg hk, if_neg (by decide), if_neg (by decide), if_pos trivial, if_neg (by decide)])
theorem gm_big (h : shortM k = (0, 0, false)) (hF : formM k = (K, (v : Int))) (hK : 7 ≤ K) (h2 : ¬ b.length < j + 1 + v) (hk : ¬ (208 ≤ k ∧ k ≤ 211)) (hr : bigN (part b (j + 1) v) ≤ 65535) : ret4 (getMarkB b j k) = markRet K (bigN (part b (j + 1) v)) (j + 1 + v : Nat) 0 := ret4_eq (by
  unfold getMarkB; simp only [h, hF, Int.toNat_natCast]; rw [if_neg (by decide), if_neg (by omega), if_neg hk, if_neg (by omega), if_neg (by omega), if_neg (by omega), if_pos hr])
theorem gm_big_no (h : shortM k = (0, 0, false)) (hF : formM k = (K, (v : Int))) (hK : 7 ≤ K) (h2 : ¬ b.length < j + 1 + v) (hk : ¬ (208 ≤ k ∧ k ≤ 211)) (hr : ¬ bigN (part b (j + 1) v) ≤ 65535) : ret4 (getMarkB b j k) = markRet 0 0 0 2 := ret4_eq (by
  unfold getMarkB; simp only [h, hF, Int.toNat_natCast]; rw [if_neg (by decide), if_neg (by omega), if_neg hk, if_neg (by omega), if_neg (by omega), if_neg (by omega), if_neg hr])
/-- Two bytes, the one ahead of the other. -/
theorem part_two (h : j + 1 + 2 ≤ b.length) : bigN (part b (j + 1) 2) = 256 * (b[j + 1]'(by omega)).toNat + (b[j + 2]'(by omega)).toNat := by
  have e : part b (j + 1) 2 = [b[j + 1]'(by omega), b[j + 2]'(by omega)] := by
    unfold part
    rw [List.drop_eq_getElem_cons (by omega), List.take_succ_cons, List.drop_eq_getElem_cons (by omega), List.take_succ_cons, List.take_zero]
  rw [e]; simp [bigN]
theorem big_few (hv : v = 1 ∨ v = 2 ∨ v = 4) (h : j + v ≤ b.length) : bigN (part b j v) < 4294967296 := by
  have := bigN_lt (part b j v)
  rw [part_len h] at this
  rcases hv with rfl | rfl | rfl <;> omega
end
set_option maxHeartbeats 1000000 in
theorem i_GetMark (A : Option Addr) (m c : Nat) (b : List UInt8) (i : Int) (w : World) (B : Nat) (h : Sl w B 1 A m c (u8s b)) (hB : B ≤ w.heap.size) (hm : m ≤ 1048576) (hi : -9223372036854775808 ≤ i ∧ i ≤ 9223372036854775807) :
    Calls Try.prog 27 #[.slice A m c, .int .i64 i] w fun e w' => e = .returned (ret4 (getMark b i)) ∧ Below w.heap.size w w' := by
  have hl := h.blen
  by_cases hr : 0 ≤ i ∧ i < m
  · obtain ⟨j, rfl⟩ := Int.eq_ofNat_of_zero_le hr.1
    have hs := h
    obtain ⟨g, o, rfl, hg, hjl, hc⟩ := h.byte (k := j) (by omega)
    obtain ⟨k, hkk⟩ : ∃ k, k = b[j].toNat := ⟨_, rfl⟩
    have hk : k < 256 := by have := (b[j]).toNat_lt; omega
    rw [← hkk] at hc
    have e0 : ret4 (getMark b j) = ret4 (getMarkB b j k) := by rw [getMark_in (by omega), hkk]
    have hj : j < m := by omega
    cases hS0 : (shortM k).2.2
    · obtain ⟨hS, hk2⟩ := shortM_no (by omega) hS0
      have hk2 : k = 193 ∨ (196 ≤ k ∧ k ≤ 223) := by omega
      by_cases hF0 : formM k = (0, 0)
      · exact (i_GetMark_no m c b j g o k w B hs hB hg hm hj hc hk2 hS 0 0 hF0 (by decide) (.inl rfl)).mono fun e w' ⟨h1, h2⟩ => ⟨h1.trans (by rw [e0, gm_none hS hF0]), h2⟩
      have hshort : ∀ (K : Int) (v : Nat), formM k = (K, (v : Int)) → 0 < K → v ≤ 8 → b.length < j + 1 + v → Calls Try.prog 27 #[.slice (some ⟨g, o, none⟩) m c, .int .i64 j] w fun e w' => e = .returned (ret4 (getMark b j)) ∧ Below w.heap.size w w' := by
        intro K v hF hK hv hlt
        exact (i_GetMark_no m c b j g o k w B hs hB hg hm hj hc hk2 hS K v hF hv (.inr ⟨by simp; omega, by omega⟩)).mono fun e w' ⟨h1, h2⟩ => ⟨h1.trans (by rw [e0, gm_short hS hF hlt]), h2⟩
      rcases formM_cases k with hF | ⟨hkv, hF⟩ | ⟨hkv, hF⟩ | ⟨hK3, hkr1, hkr2, v, hv, hF⟩ | ⟨hkr, K, v, hK, hK10, hv, hF⟩
      · exact absurd hF hF0
      · have hF : formM k = (5, ((2 : Nat) : Int)) := hF
        have hkn : ¬ (208 ≤ k ∧ k ≤ 211) := by omega
        by_cases hlt : b.length < j + 1 + 2
        · exact hshort 5 2 hF (by decide) (by decide) hlt
        have hx := fun w1 h1 => i_argument_no (some ⟨g, o + (j + 1), none⟩) 2 (c - (j + 1)) (part b (j + 1) 2) w1 B h1 (by decide)
        obtain ⟨g1, o1, he1, hg1, hl1, hc1⟩ := h.byte (k := j + 1) (by omega)
        obtain ⟨g2, o2, he2, hg2, hl2, hc2⟩ := h.byte (k := j + 2) (by omega)
        cases he1; cases he2
        have hp := part_two (b := b) (j := j) (by omega)
        have q1 := (b[j + 1]).toNat_lt
        have q2 := (b[j + 2]).toNat_lt
        by_cases hr2 : 256 ≤ bigN (part b (j + 1) 2) ∧ bigN (part b (j + 1) 2) ≤ 258
        · exact (i_GetMark_odd m c b j g o k 2 w B hs hB hg hm hj hc hk2 hS hF rfl (by omega) _ _ false (by simp only [inR_not]; omega) hx _ _ _ _ ⟨_, _, hc1, hc2, by omega, by omega, .inl ⟨by omega, by omega, rfl, rfl, rfl, rfl⟩⟩).mono fun e w' ⟨h1, h2⟩ => ⟨h1.trans (by rw [e0, gm_odd hS hF hlt hkn hr2]; unfold markRet; rw [show (bigN (part b (j + 1) 2) : Int) - 256 = ((b[j + 2]).toNat : Int) by omega]), h2⟩
        · exact (i_GetMark_odd m c b j g o k 2 w B hs hB hg hm hj hc hk2 hS hF rfl (by omega) _ _ false (by simp only [inR_not]; omega) hx 0 0 0 1 ⟨_, _, hc1, hc2, by omega, by omega, .inr (by omega)⟩).mono fun e w' ⟨h1, h2⟩ => ⟨h1.trans (by rw [e0, gm_odd_no hS hF hlt hkn hr2]; rfl), h2⟩
      · have hF : formM k = (4, ((4 : Nat) : Int)) := hF
        have hkn : ¬ (208 ≤ k ∧ k ≤ 211) := by omega
        by_cases hlt : b.length < j + 1 + 4
        · exact hshort 4 4 hF (by decide) (by decide) hlt
        have hx := fun w1 h1 => i_argument_no (some ⟨g, o + (j + 1), none⟩) 4 (c - (j + 1)) (part b (j + 1) 4) w1 B h1 (by decide)
        have hf := big_few (b := b) (j := j + 1) (v := 4) (by decide) (by omega)
        have hw : wrap64 (bigN (part b (j + 1) 4)) = bigN (part b (j + 1) 4) := wrap64_as (by omega)
        rw [hw] at hx
        obtain ⟨a, e1, ok, hy⟩ := bitsFltV_shape (bigN (part b (j + 1) 4))
        cases ok
        · exact (i_GetMark_flt_no m c b j g o k 4 w B hs hB hg hm hj hc hk2 hS hF rfl (by omega) _ _ false (by simp only [inR_not]; omega) hx a e1 hy).mono fun e w' ⟨h1, h2⟩ => ⟨h1.trans (by rw [e0, gm_flt_no hS hF hlt hkn hy]; rfl), h2⟩
        · exact (i_GetMark_flt_yes m c b j g o k 4 w B hs hB hg hm hj hc hk2 hS hF rfl (by omega) _ _ false (by simp only [inR_not]; omega) hx a e1 hy).mono fun e w' ⟨h1, h2⟩ => ⟨h1.trans (by rw [e0, gm_flt hS hF hlt hkn hy]; rfl), h2⟩
      · by_cases hlt : b.length < j + 1 + v
        · exact hshort 3 v hF (by decide) (by omega) hlt
        by_cases hkn : 208 ≤ k ∧ k ≤ 211
        · have hx := fun w1 h1 => i_argument_yes (some ⟨g, o + (j + 1), none⟩) v (c - (j + 1)) (part b (j + 1) v) w1 B h1 hv
          refine (i_GetMark_int m c b j g o k v w B hs hB hg hm hj hc hk2 hS hF hv (by omega) _ _ true (inR_yes (by omega) (by omega)) hx).mono fun e w' ⟨h1, h2⟩ => ⟨h1.trans ?_, h2⟩
          cases hin : inR (sgnN (bigN (part b (j + 1) v)) v) (-1000000000000000) 1000000000000000
          · rw [e0, gm_neg_no hS hF hlt hkn hin]; rfl
          · rw [e0, gm_neg hS hF hlt hkn hin]; rfl
        · have hx := fun w1 h1 => i_argument_no (some ⟨g, o + (j + 1), none⟩) v (c - (j + 1)) (part b (j + 1) v) w1 B h1 hv
          refine (i_GetMark_int m c b j g o k v w B hs hB hg hm hj hc hk2 hS hF hv (by omega) _ _ false (by simp only [inR_not]; omega) hx).mono fun e w' ⟨h1, h2⟩ => ⟨h1.trans ?_, h2⟩
          by_cases hin : bigN (part b (j + 1) v) ≤ 1000000000000000
          · have hd : decide ((bigN (part b (j + 1) v) : Int) ≤ 1000000000000000) = true := by simp; omega
            rw [e0, gm_int hS hF hlt hkn hin, hd, wrap64_as (by omega)]; rfl
          · have hd : decide ((bigN (part b (j + 1) v) : Int) ≤ 1000000000000000) = false := by simp; omega
            rw [e0, gm_int_no hS hF hlt hkn hin, hd]; rfl
      · by_cases hlt : b.length < j + 1 + v
        · exact hshort K v hF (by omega) (by omega) hlt
        have hkn : ¬ (208 ≤ k ∧ k ≤ 211) := by omega
        have hx := fun w1 h1 => i_argument_no (some ⟨g, o + (j + 1), none⟩) v (c - (j + 1)) (part b (j + 1) v) w1 B h1 (by omega)
        have hf := big_few (b := b) (j := j + 1) (v := v) hv (by omega)
        have hw : wrap64 (bigN (part b (j + 1) v)) = bigN (part b (j + 1) v) := wrap64_as (by omega)
        rw [hw] at hx
        by_cases hin : bigN (part b (j + 1) v) ≤ 65535
        · exact (i_GetMark_big m c b j g o k v w B hs hB hg hm hj hc hk2 hS K ⟨hK, hK10⟩ hF (by omega) (by omega) _ _ false (by simp only [inR_not]; omega) hx _ _ _ _ (.inl ⟨Int.ofNat_le.2 hin, rfl, rfl, rfl, rfl⟩)).mono fun e w' ⟨h1, h2⟩ => ⟨h1.trans (by rw [e0, gm_big hS hF hK hlt hkn hin]; rfl), h2⟩
        · exact (i_GetMark_big m c b j g o k v w B hs hB hg hm hj hc hk2 hS K ⟨hK, hK10⟩ hF (by omega) (by omega) _ _ false (by simp only [inR_not]; omega) hx _ _ _ _ (.inr ⟨Int.ofNat_lt.2 (Nat.lt_of_not_le hin), rfl, rfl, rfl, rfl⟩)).mono fun e w' ⟨h1, h2⟩ => ⟨h1.trans (by rw [e0, gm_big_no hS hF hK hlt hkn hin]; rfl), h2⟩
    · have hS : shortM k = ((shortM k).1, (shortM k).2.1, true) := by rw [← hS0]
      exact (i_GetMark_one m c b j g o k w B hs hB hg hm hj hc hk _ _ hS).mono fun e w' ⟨h1, h2⟩ => ⟨h1.trans (by rw [e0, gm_one hS]), h2⟩
  · refine (i_GetMark_out A m c i w hm hi hr).mono fun e w' ⟨h1, h2⟩ => ⟨h1.trans ?_, h2⟩
    have e0 : getMark b i = (0, 0, 0, 1) := by unfold getMark; rw [if_neg (by omega)]
    rw [e0]; rfl
set_option maxHeartbeats 1000000 in
theorem s_GetMark (A : Option Addr) (m c : Nat) (b : List UInt8) (i : Int) (w : World) (B : Nat) (h : Sl w B 1 A m c (u8s b)) (hB : B ≤ w.heap.size) (hm : m ≤ 1048576) (hi : -9223372036854775808 ≤ i ∧ i ≤ 9223372036854775807) :
    Calls Try.prog 29 #[.slice A m c, .int .i64 i] w fun e w' => e = .returned (ret4 (getMark b i)) ∧ Below w.heap.size w w' := by
  have hl := h.blen
  by_cases hr : 0 ≤ i ∧ i < m
  · obtain ⟨j, rfl⟩ := Int.eq_ofNat_of_zero_le hr.1
    have hs := h
    obtain ⟨g, o, rfl, hg, hjl, hc⟩ := h.byte (k := j) (by omega)
    obtain ⟨k, hkk⟩ : ∃ k, k = b[j].toNat := ⟨_, rfl⟩
    have hk : k < 256 := by have := (b[j]).toNat_lt; omega
    rw [← hkk] at hc
    have e0 : ret4 (getMark b j) = ret4 (getMarkB b j k) := by rw [getMark_in (by omega), hkk]
    have hj : j < m := by omega
    cases hS0 : (shortM k).2.2
    · obtain ⟨hS, hk2⟩ := shortM_no (by omega) hS0
      have hk2 : k = 193 ∨ (196 ≤ k ∧ k ≤ 223) := by omega
      by_cases hF0 : formM k = (0, 0)
      · exact (s_GetMark_none m c b j g o k w B hs hB hg hm hj hc hk2 hS hF0).mono fun e w' ⟨h1, h2⟩ => ⟨h1.trans (by rw [e0, gm_none hS hF0]), h2⟩
      have hshort : ∀ (K : Int) (v : Nat), formM k = (K, (v : Int)) → 0 < K → v ≤ 8 → 1 ≤ v → ¬ (208 ≤ k ∧ k ≤ 211) → b.length < j + 1 + v → Calls Try.prog 29 #[.slice (some ⟨g, o, none⟩) m c, .int .i64 j] w fun e w' => e = .returned (ret4 (getMark b j)) ∧ Below w.heap.size w w' := by
        intro K v hF hK hv hv1 hkn hlt
        exact (s_GetMark_short m c b j g o k w B hs hB hg hm hj hc hk2 hS hkn K v hF hK (by omega) hv hv1).mono fun e w' ⟨h1, h2⟩ => ⟨h1.trans (by rw [e0, gm_short hS hF hlt]), h2⟩
      have hwide : ∀ (v : Nat), v ≤ 8 → ¬ b.length < j + 1 + v → ∀ w1, Sl w1 B 1 (some ⟨g, o, none⟩) m c (u8s b) → Calls Try.prog 65 #[.slice (some ⟨g, o, none⟩) m c, .int .i64 ((j : Int) + 1), .int .i64 v] w1 fun e w2 => e = .returned (.tuple #[.int .i64 (if (getBig b ((j + 1 : Nat) : Int) v).2 = true then (getBig b ((j + 1 : Nat) : Int) v).1 else 0), .int .i64 (if (getBig b ((j + 1 : Nat) : Int) v).2 = true then 0 else 2)]) ∧ w1 = w2 :=
        fun v hv hlt w1 h1 => s_l15Wide _ m c b (j + 1) v w1 B h1 hm (by omega) hv (by omega)
      rcases formM_cases k with hF | ⟨hkv, hF⟩ | ⟨hkv, hF⟩ | ⟨hK3, hkr1, hkr2, v, hv, hF⟩ | ⟨hkr, K, v, hK, hK10, hv, hF⟩
      · exact absurd hF hF0
      · have hF : formM k = (5, ((2 : Nat) : Int)) := hF
        have hkn : ¬ (208 ≤ k ∧ k ≤ 211) := by omega
        by_cases hlt : b.length < j + 1 + 2
        · exact hshort 5 2 hF (by decide) (by decide) (by decide) hkn hlt
        have hx := hwide 2 (by decide) hlt
        rw [big_small (by decide) (by omega)] at hx
        by_cases hr2 : 256 ≤ bigN (part b (j + 1) 2) ∧ bigN (part b (j + 1) 2) ≤ 258
        · exact (s_GetMark_odd m c b j g o k 2 w B hs hB hg hm hj hc hk2 hkn hS hF rfl (by omega) _ _ hx rfl _ _ _ _ (.inl ⟨inR_yes (by simp; omega) (by simp; omega), by simp; omega, rfl, rfl, rfl, rfl⟩)).mono fun e w' ⟨h1, h2⟩ => ⟨h1.trans (by rw [e0, gm_odd hS hF hlt hkn hr2]; rfl), h2⟩
        · exact (s_GetMark_odd m c b j g o k 2 w B hs hB hg hm hj hc hk2 hkn hS hF rfl (by omega) _ _ hx rfl _ _ _ _ (.inr ⟨by simp only [inR_not]; simp; omega, rfl, rfl, rfl, rfl⟩)).mono fun e w' ⟨h1, h2⟩ => ⟨h1.trans (by rw [e0, gm_odd_no hS hF hlt hkn hr2]; rfl), h2⟩
      · have hF : formM k = (4, ((4 : Nat) : Int)) := hF
        have hkn : ¬ (208 ≤ k ∧ k ≤ 211) := by omega
        by_cases hlt : b.length < j + 1 + 4
        · exact hshort 4 4 hF (by decide) (by decide) (by decide) hkn hlt
        have hx := hwide 4 (by decide) hlt
        rw [big_small (by decide) (by omega)] at hx
        obtain ⟨a, e1, ok, hy⟩ := bitsFltV_shape (bigN (part b (j + 1) 4))
        cases ok
        · exact (s_GetMark_flt_no m c b j g o k 4 w B hs hB hg hm hj hc hk2 hkn hS hF rfl (by omega) _ _ hx rfl a e1 hy).mono fun e w' ⟨h1, h2⟩ => ⟨h1.trans (by rw [e0, gm_flt_no hS hF hlt hkn hy]; rfl), h2⟩
        · exact (s_GetMark_flt_yes m c b j g o k 4 w B hs hB hg hm hj hc hk2 hkn hS hF rfl (by omega) _ _ hx rfl a e1 hy).mono fun e w' ⟨h1, h2⟩ => ⟨h1.trans (by rw [e0, gm_flt hS hF hlt hkn hy]; rfl), h2⟩
      · by_cases hkn : 208 ≤ k ∧ k ≤ 211
        · by_cases hlt : b.length < j + 1 + v
          · exact (s_GetMark_short_neg m c b j g o k w B hs hB hg hm hj hc hk2 hS hkn 3 v hF (by omega) (by omega) (by omega)).mono fun e w' ⟨h1, h2⟩ => ⟨h1.trans (by rw [e0, gm_short hS hF hlt]), h2⟩
          have hx := hwide v (by omega) hlt
          rcases (by omega : (v = 1 ∨ v = 2 ∨ v = 4) ∨ v = 8) with hv4 | rfl
          · have hx2 := fun w1 h1 => s_l15Below_few (some ⟨g, o, none⟩) m c b (j + 1) v w1 B h1 hm (by omega) hv4 (by omega)
            have hbl := bigN_lt (part b (j + 1) v)
            rw [part_len (by omega)] at hbl
            have hin := sgn_in hv4 hbl
            exact (s_GetMark_neg m c b j g o k v w B hs hB hg hm hj hc hk2 hkn hS hF hv (by omega) _ _ hx _ _ hx2 _ _ _ _ (.inl ⟨rfl, rfl, rfl, rfl, rfl⟩)).mono fun e w' ⟨h1, h2⟩ => ⟨h1.trans (by rw [e0, gm_neg hS hF hlt hkn (inR_yes hin.1 hin.2)]; rfl), h2⟩
          · cases hin : inR (sgnN (bigN (part b (j + 1) 8)) 8) (-1000000000000000) 1000000000000000
            · have hx2 := fun w1 h1 => s_l15Below_8 (some ⟨g, o, none⟩) m c b (j + 1) w1 B h1 hm (by omega) (by omega) _ rfl 0 2 (.inr ⟨hin, rfl, rfl⟩)
              exact (s_GetMark_neg m c b j g o k 8 w B hs hB hg hm hj hc hk2 hkn hS hF hv (by omega) _ _ hx _ _ hx2 _ _ _ _ (.inr ⟨rfl, rfl, rfl, rfl, rfl⟩)).mono fun e w' ⟨h1, h2⟩ => ⟨h1.trans (by rw [e0, gm_neg_no hS hF hlt hkn hin]; rfl), h2⟩
            · have hx2 := fun w1 h1 => s_l15Below_8 (some ⟨g, o, none⟩) m c b (j + 1) w1 B h1 hm (by omega) (by omega) _ rfl _ 0 (.inl ⟨hin, rfl, rfl⟩)
              exact (s_GetMark_neg m c b j g o k 8 w B hs hB hg hm hj hc hk2 hkn hS hF hv (by omega) _ _ hx _ _ hx2 _ _ _ _ (.inl ⟨rfl, rfl, rfl, rfl, rfl⟩)).mono fun e w' ⟨h1, h2⟩ => ⟨h1.trans (by rw [e0, gm_neg hS hF hlt hkn hin]; rfl), h2⟩
        · by_cases hlt : b.length < j + 1 + v
          · exact hshort 3 v hF (by decide) (by omega) (by omega) hkn hlt
          have hx := hwide v (by omega) hlt
          by_cases hin : bigN (part b (j + 1) v) ≤ 1000000000000000
          · have hgb : getBig b ((j + 1 : Nat) : Int) v = ((bigN (part b (j + 1) v) : Int), true) := by
              rw [getBig_yes (by unfold bigOk isW; simp; omega) (by simpa using hin)]; simp
            rw [hgb] at hx
            exact (s_GetMark_int m c b j g o k v w B hs hB hg hm hj hc hk2 hkn hS hF hv (by omega) _ _ hx _ _ _ _ (.inl ⟨rfl, rfl, rfl, rfl, rfl⟩)).mono fun e w' ⟨h1, h2⟩ => ⟨h1.trans (by rw [e0, gm_int hS hF hlt hkn hin]; rfl), h2⟩
          · have hgb : getBig b ((j + 1 : Nat) : Int) v = (0, false) := getBig_big (by simpa using hin)
            rw [hgb] at hx
            exact (s_GetMark_int m c b j g o k v w B hs hB hg hm hj hc hk2 hkn hS hF hv (by omega) _ _ hx _ _ _ _ (.inr ⟨rfl, rfl, rfl, rfl, rfl⟩)).mono fun e w' ⟨h1, h2⟩ => ⟨h1.trans (by rw [e0, gm_int_no hS hF hlt hkn hin]; rfl), h2⟩
      · have hkn : ¬ (208 ≤ k ∧ k ≤ 211) := by omega
        by_cases hlt : b.length < j + 1 + v
        · exact hshort K v hF (by omega) (by omega) (by omega) hkn hlt
        have hx := hwide v (by omega) hlt
        rw [big_small hv (by omega)] at hx
        by_cases hin : bigN (part b (j + 1) v) ≤ 65535
        · exact (s_GetMark_big m c b j g o k v w B hs hB hg hm hj hc hk2 hkn hS K ⟨hK, hK10⟩ hF (by omega) (by omega) _ _ hx rfl _ _ _ _ (.inl ⟨by simp; omega, rfl, rfl, rfl, rfl⟩)).mono fun e w' ⟨h1, h2⟩ => ⟨h1.trans (by rw [e0, gm_big hS hF hK hlt hkn hin]; rfl), h2⟩
        · exact (s_GetMark_big m c b j g o k v w B hs hB hg hm hj hc hk2 hkn hS K ⟨hK, hK10⟩ hF (by omega) (by omega) _ _ hx rfl _ _ _ _ (.inr ⟨by simp; omega, rfl, rfl, rfl, rfl⟩)).mono fun e w' ⟨h1, h2⟩ => ⟨h1.trans (by rw [e0, gm_big_no hS hF hK hlt hkn hin]; rfl), h2⟩
    · have hS : shortM k = ((shortM k).1, (shortM k).2.1, true) := by rw [← hS0]
      exact (s_GetMark_one m c b j g o k w B hs hB hg hm hj hc hk _ _ hS).mono fun e w' ⟨h1, h2⟩ => ⟨h1.trans (by rw [e0, gm_one hS]), h2⟩
  · refine (s_GetMark_out A m c i w hm hi (by omega)).mono fun e w' ⟨h1, h2⟩ => ⟨h1.trans ?_, h2⟩
    have e0 : getMark b i = (0, 0, 0, 1) := by unfold getMark; rw [if_neg (by omega)]
    rw [e0]; rfl
end Go.Proofs.Ytihhedmehlemmaa
