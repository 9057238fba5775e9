/- Heads and their bytes: what is read is what was written. No function of the program in sight. -/
import Derived.Test.YtmelnaidjgpclaaGreatDoorGetHead
import Derived.Test.YtmelnaidjgpclaaGreatDoorPutHead
import Derived.Test.YtmelnaidjgpclaaGreatDoorHeadFor
set_option linter.unusedVariables false
set_option maxRecDepth 100000
set_option linter.unusedSimpArgs false
namespace Go.Proofs.YtmelnaidjgpclaaGreatDoor
open Go.RowKit

theorem beI_succ (v : Nat) (n : Int) : beI (v + 1) n = beI v (n / 256) ++ [UInt8.ofNat (n % 256).toNat] := by
  refine List.ext_getElem (by simp [beI_len]) fun j h1 h2 => ?_
  rw [beI_len] at h1
  rw [beI_get _ _ _ h1]
  by_cases hj : j < v
  · rw [List.getElem_append_left (by rw [beI_len]; exact hj), beI_get _ _ _ hj]
    have e : (2 : Int) ^ (8 * (v + 1 - 1 - j)) = 256 * 2 ^ (8 * (v - 1 - j)) := by
      rw [show 8 * (v + 1 - 1 - j) = 8 + 8 * (v - 1 - j) by omega, Int.pow_add]; rfl
    rw [e, Int.ediv_ediv_of_nonneg (by decide)]
  · obtain rfl : j = v := by omega
    rw [List.getElem_append_right (by rw [beI_len]; exact Nat.le_refl _)]
    simp [beI_len]
theorem bigN_beI : ∀ (v : Nat) (n : Nat), n < 256 ^ v → bigN (beI v n) = n
  | 0, n, h => by simp at h; subst h; rfl
  | v + 1, n, h => by
    rw [beI_succ, bigN_snoc, show ((n : Int) / 256) = ((n / 256 : Nat) : Int) by omega, bigN_beI v (n / 256) (by rw [Nat.pow_succ] at h; omega)]
    rw [UInt8.toNat_ofNat_of_lt' (by show ((n : Int) % 256).toNat < 256; omega)]
    omega
theorem beI_bigN : ∀ (v : Nat) (l : List UInt8), l.length = v → beI v (bigN l) = l
  | 0, l, h => by rw [List.eq_nil_of_length_eq_zero h]; rfl
  | v + 1, l, h => by
    obtain ⟨l', c, rfl⟩ : ∃ l' c, l = l' ++ [c] := ⟨l.dropLast, l.getLast (by intro e; rw [e] at h; simp at h), (List.dropLast_concat_getLast (by intro e; rw [e] at h; simp at h)).symm⟩
    have hl : l'.length = v := by simpa using h
    rw [beI_succ, bigN_snoc]
    have hc := c.toNat_lt
    rw [show ((256 * bigN l' + c.toNat : Nat) : Int) / 256 = (bigN l' : Int) by omega, show (((256 * bigN l' + c.toNat : Nat) : Int) % 256).toNat = c.toNat by omega, beI_bigN v l' hl]
    simp
theorem headOk_iff {mj n wd : Int} (h : headOk mj n wd = true) : 0 ≤ mj ∧ mj ≤ 7 ∧ 0 ≤ n ∧ n ≤ 1000000000000000 ∧ ((wd = 0 ∧ n ≤ 23) ∨ (wd = 1 ∧ n < 256) ∨ (wd = 2 ∧ n < 65536) ∨ (wd = 4 ∧ n < 4294967296) ∨ wd = 8 ∨ (wd = -1 ∧ n = 0)) := by
  unfold headOk at h
  have h := of_decide_eq_true h
  omega
theorem part_app (b l : List UInt8) (c : UInt8) : part (b ++ c :: l) (b.length + 1) l.length = l := by
  unfold part
  rw [List.drop_append, List.drop_eq_nil_of_le (by omega)]
  simp
theorem headB_big {mj n : Int} {v : Nat} (hv : v = 1 ∨ v = 2 ∨ v = 4 ∨ v = 8) (h : headOk mj n v = true) : headB mj n v = UInt8.ofNat ((32 * mj + infoOf n v).toNat % 256) :: beI v n := by
  have h2 := headOk_iff h
  rw [headB_yes h, putBig_yes (by unfold isW; rw [decide_eq_true_eq]; omega) (by unfold fitsB; rcases hv with rfl | rfl | rfl | rfl <;> simp <;> omega)]
  rfl
/-- What was written is read. -/
theorem getHead_put (b : List UInt8) (mj n wd : Int) (h : headOk mj n wd = true) : getHead (b ++ headB mj n wd) b.length = (mj, n, wd, ((b ++ headB mj n wd).length : Int), 0) := by
  obtain ⟨h1, h2, h3, h4, h5⟩ := headOk_iff h
  have hbd := infoOf_bd h
  have hc : ∃ l, headB mj n wd = UInt8.ofNat ((32 * mj + infoOf n wd).toNat % 256) :: l := ⟨_, headB_yes h⟩
  obtain ⟨l, hl⟩ := hc
  have hlen : b.length < (b ++ headB mj n wd).length := by rw [hl]; simp
  rw [getHead_in hlen]
  have hb : ((b ++ headB mj n wd)[b.length]).toNat = (32 * mj + infoOf n wd).toNat := by
    simp only [hl]
    rw [List.getElem_append_right (Nat.le_refl _)]
    simp only [Nat.sub_self, List.getElem_cons_zero]
    rw [UInt8.toNat_ofNat_of_lt' (by show _ % 256 < 256; omega)]
    omega
  rw [hb]
  have hk : (32 * mj + infoOf n wd).toNat / 32 = mj.toNat := by omega
  have hk2 : (32 * mj + infoOf n wd).toNat % 32 = (infoOf n wd).toNat := by omega
  have hm : ((mj.toNat : Nat) : Int) = mj := Int.toNat_of_nonneg h1
  have hnn : ((n.toNat : Nat) : Int) = n := Int.toNat_of_nonneg h3
  have big : ∀ (v lg : Nat), wd = v → (v = 1 ∨ v = 2 ∨ v = 4 ∨ v = 8) → infoOf n wd = ((24 + lg : Nat) : Int) → lg ≤ 3 → 2 ^ lg = v → n.toNat < 256 ^ v → getHeadB (b ++ headB mj n wd) b.length (32 * mj + infoOf n wd).toNat = (mj, n, wd, ((b ++ headB mj n wd).length : Int), 0) := by
    intro v lg hw hv hi hlg hp hnv
    subst hw
    have hB := headB_big hv h
    have hBl : (headB mj n v).length = v + 1 := by rw [hB]; simp [beI_len]
    have hgb : getBig (b ++ headB mj n v) ((b.length : Int) + 1) v = (n, true) := by
      rw [getBig_yes]
      · simp only [Int.toNat_natCast, show ((b.length : Int) + 1).toNat = b.length + 1 by omega]
        rw [hB]
        have := part_app b (beI v n) (UInt8.ofNat ((32 * mj + infoOf n v).toNat % 256))
        rw [beI_len] at this
        rw [this, ← hnn, bigN_beI v n.toNat hnv]
      · unfold bigOk isW
        rw [List.length_append, hBl]
        simp
        omega
      · simp only [Int.toNat_natCast, show ((b.length : Int) + 1).toNat = b.length + 1 by omega]
        rw [hB]
        have := part_app b (beI v n) (UInt8.ofNat ((32 * mj + infoOf n v).toNat % 256))
        rw [beI_len] at this
        rw [this, ← hnn, bigN_beI v n.toNat hnv]
        omega
    unfold getHeadB
    rw [hk, hk2, hi, show (((24 + lg : Nat) : Int)).toNat = 24 + lg by omega, if_neg (by omega), if_neg (by omega), show 24 + lg - 24 = lg by omega]
    have hp2 : (2 : Int) ^ lg = (v : Int) := by rw [← hp]; simp
    rw [hp2, if_neg (by rw [List.length_append, hBl]; omega), hgb]
    simp only [if_true, hm]
    rw [List.length_append, hBl]
    simp only [Prod.mk.injEq, true_and, and_true]
    omega
  rcases h5 with ⟨rfl, hn⟩ | ⟨rfl, hn⟩ | ⟨rfl, hn⟩ | ⟨rfl, hn⟩ | rfl | ⟨rfl, hn⟩
  · have hBl : (headB mj n 0).length = 1 := by rw [headB_yes h, putBig_none (by decide)]; rfl
    have hi : infoOf n 0 = n := rfl
    unfold getHeadB
    rw [hk, hk2, hi, if_pos (by omega), hm, hnn, List.length_append, hBl]
    rfl
  · exact big 1 0 rfl (by decide) rfl (by decide) rfl (by omega)
  · exact big 2 1 rfl (by decide) rfl (by decide) rfl (by omega)
  · exact big 4 2 rfl (by decide) rfl (by decide) rfl (by omega)
  · exact big 8 3 rfl (by decide) rfl (by decide) rfl (by omega)
  · subst hn
    have hBl : (headB mj 0 (-1)).length = 1 := by rw [headB_yes h, putBig_none (by decide)]; rfl
    have hi : infoOf 0 (-1) = 31 := rfl
    unfold getHeadB
    rw [hk, hk2, hi, if_neg (by decide), if_pos (by decide), hm, if_pos h, List.length_append, hBl]
    rfl
theorem headOk_of {mj n wd : Int} (h : 0 ≤ mj ∧ mj ≤ 7 ∧ 0 ≤ n ∧ n ≤ 1000000000000000) (h2 : (wd = 0 ∧ n ≤ 23) ∨ (wd = 1 ∧ n < 256) ∨ (wd = 2 ∧ n < 65536) ∨ (wd = 4 ∧ n < 4294967296) ∨ wd = 8) : headOk mj n wd = true := by
  unfold headOk
  rw [decide_eq_true_eq]
  omega
theorem part_cons {l : List UInt8} {j v : Nat} (h : j + 1 + v ≤ l.length) : part l j (v + 1) = l[j]'(by omega) :: part l (j + 1) v := by
  unfold part
  rw [List.drop_eq_getElem_cons (show j < l.length by omega), List.take_succ_cons]
theorem byte_back (c : UInt8) (x : Nat) (h : x = c.toNat) : UInt8.ofNat (x % 256) = c := by
  subst h
  have := c.toNat_lt
  rw [Nat.mod_eq_of_lt this]
  simp
/-- What is read as a head is one, and its bytes are those. -/
theorem getHead_good {l : List UInt8} {i mj n wd nx : Int} (h : getHead l i = (mj, n, wd, nx, 0)) : headOk mj n wd = true ∧ ∃ j k : Nat, i = j ∧ nx = ((j + k : Nat) : Int) ∧ j + k ≤ l.length ∧ headB mj n wd = part l j k := by
  by_cases hr : 0 ≤ i ∧ i < l.length
  · obtain ⟨j, rfl⟩ := Int.eq_ofNat_of_zero_le hr.1
    have hj : j < l.length := by omega
    rw [getHead_in hj] at h
    have hlt := l[j].toNat_lt
    obtain ⟨c, hc⟩ : ∃ c, l[j] = c := ⟨_, rfl⟩
    rw [hc] at h hlt
    unfold getHeadB at h
    split at h
    · simp only [Prod.mk.injEq] at h
      obtain ⟨rfl, rfl, rfl, rfl, -⟩ := h
      have hok : headOk ((c.toNat / 32 : Nat) : Int) ((c.toNat % 32 : Nat) : Int) 0 = true := headOk_of (by omega) (by omega)
      refine ⟨hok, j, 1, rfl, by omega, by omega, ?_⟩
      rw [headB_yes hok, putBig_none (by decide), part_cons (by omega), hc]
      have hi : infoOf ((c.toNat % 32 : Nat) : Int) 0 = ((c.toNat % 32 : Nat) : Int) := rfl
      rw [hi, byte_back c _ (by omega)]
      simp [part]
    · split at h
      · split at h
        · rename_i hok
          simp only [Prod.mk.injEq] at h
          obtain ⟨rfl, rfl, rfl, rfl, -⟩ := h
          refine ⟨hok, j, 1, rfl, by omega, by omega, ?_⟩
          rw [headB_yes hok, putBig_none (by decide), part_cons (by omega), hc]
          have hi : infoOf 0 (-1) = 31 := rfl
          rw [hi, byte_back c _ (by omega)]
          simp [part]
        · simp at h
      · split at h
        · simp at h
        · rename_i h24 h31 hmid
          split at h
          · rename_i hg
            have fin : ∀ (v lg : Nat), (v = 1 ∨ v = 2 ∨ v = 4 ∨ v = 8) → c.toNat % 32 = 24 + lg → ((2 : Int) ^ (c.toNat % 32 - 24) = v) → (∀ N, infoOf N v = ((24 + lg : Nat) : Int)) → (∀ N : Nat, N < 256 ^ v → (v = 1 → N < 256) ∧ (v = 2 → N < 65536) ∧ (v = 4 → N < 4294967296)) → headOk mj n wd = true ∧ ∃ j2 k : Nat, ((j : Nat) : Int) = j2 ∧ nx = ((j2 + k : Nat) : Int) ∧ j2 + k ≤ l.length ∧ headB mj n wd = part l j2 k := by
              intro v lg hv hlg hp hi hN
              rw [hp] at hg h hmid
              simp only [Prod.mk.injEq] at h
              obtain ⟨rfl, rfl, rfl, rfl, -⟩ := h
              have hle : j + 1 + v ≤ l.length := by omega
              have hbo : bigOk l ((j : Int) + 1) v = true := by
                unfold bigOk isW
                simp
                omega
              have e1 : ((j : Int) + 1).toNat = j + 1 := by omega
              by_cases hbn : bigN (part l (j + 1) v) ≤ 1000000000000000
              · have hgb := getBig_yes hbo (by rw [e1, Int.toNat_natCast]; exact hbn)
                rw [e1, Int.toNat_natCast] at hgb
                rw [hgb]
                simp only
                have hlt2 := bigN_lt (part l (j + 1) v)
                rw [part_len hle] at hlt2
                have hN2 := hN _ hlt2
                have hok : headOk ((c.toNat / 32 : Nat) : Int) (bigN (part l (j + 1) v)) v = true := headOk_of (by omega) (by omega)
                refine ⟨hok, j, v + 1, rfl, by omega, by omega, ?_⟩
                rw [headB_big hv hok, hi, part_cons hle, hc, byte_back c _ (by omega), beI_bigN v _ (part_len hle)]
              · rw [getBig_big (by rw [e1, Int.toNat_natCast]; exact hbn)] at hg
                simp at hg
            have hlg : c.toNat % 32 = 24 ∨ c.toNat % 32 = 25 ∨ c.toNat % 32 = 26 ∨ c.toNat % 32 = 27 := by omega
            rcases hlg with e | e | e | e
            · exact fin 1 0 (by decide) e (by rw [e]; rfl) (fun _ => rfl) (fun N h => ⟨fun _ => by omega, fun h => by omega, fun h => by omega⟩)
            · exact fin 2 1 (by decide) e (by rw [e]; rfl) (fun _ => rfl) (fun N h => ⟨fun h => by omega, fun _ => by omega, fun h => by omega⟩)
            · exact fin 4 2 (by decide) e (by rw [e]; rfl) (fun _ => rfl) (fun N h => ⟨fun h => by omega, fun h => by omega, fun _ => by omega⟩)
            · exact fin 8 3 (by decide) e (by rw [e]; rfl) (fun _ => rfl) (fun N h => ⟨fun h => by omega, fun h => by omega, fun h => by omega⟩)
          · simp at h
  · unfold getHead at h
    rw [if_neg hr] at h
    simp at h
theorem headB_size {mj n wd : Int} (h : headOk mj n wd = true) : (headB mj n wd).length = if wd ≤ 0 then 1 else wd.toNat + 1 := by
  obtain ⟨h1, h2, h3, h4, h5⟩ := headOk_iff h
  rcases h5 with ⟨rfl, hn⟩ | ⟨rfl, hn⟩ | ⟨rfl, hn⟩ | ⟨rfl, hn⟩ | rfl | ⟨rfl, hn⟩
  · rw [headB_yes h, putBig_none (by decide)]; rfl
  · have := congrArg List.length (headB_big (v := 1) (by decide) h)
    simp only [List.length_cons, beI_len] at this
    exact this
  · have := congrArg List.length (headB_big (v := 2) (by decide) h)
    simp only [List.length_cons, beI_len] at this
    exact this
  · have := congrArg List.length (headB_big (v := 4) (by decide) h)
    simp only [List.length_cons, beI_len] at this
    exact this
  · have := congrArg List.length (headB_big (v := 8) (by decide) h)
    simp only [List.length_cons, beI_len] at this
    exact this
  · rw [headB_yes h, putBig_none (by decide)]; rfl
/-- The head that is made for a number is the shortest. -/
theorem headFor_short {mj n wd x y z : Int} (h : headOk mj n wd = true) (hw : 0 ≤ wd) (hV : headForV mj n = .agg #[.int .i64 x, .int .i64 y, .int .i64 z]) : (headB x y z).length ≤ (headB mj n wd).length := by
  rw [headB_size h]
  obtain ⟨h1, h2, h3, h4, h5⟩ := headOk_iff h
  unfold headForV headV at hV
  split at hV
  · rename_i hk
    simp at hV
    obtain ⟨rfl, rfl, rfl⟩ := hV
    rw [headB_size hk]
    unfold headWide widthFor
    (repeat' split) <;> omega
  · simp at hV
    obtain ⟨rfl, rfl, rfl⟩ := hV
    have : (headB 0 0 0).length = 1 := by decide
    rw [this]
    split <;> omega
end Go.Proofs.YtmelnaidjgpclaaGreatDoor
