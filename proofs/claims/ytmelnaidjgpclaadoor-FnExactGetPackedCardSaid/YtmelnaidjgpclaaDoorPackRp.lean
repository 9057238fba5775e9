/- GetPacked: what is read goes on, ends within the bytes, is small. -/
import Derived.Test.YtmelnaidjgpclaaDoorPackRd
import Derived.Test.YtmelnaidjgpclaaDoorMarkVal
set_option linter.unusedVariables false
set_option maxRecDepth 100000
set_option linter.unusedSimpArgs false
namespace Go.Proofs.YtmelnaidjgpclaaDoor
open Go.RowKit

theorem cntL_nil : cntL [] = 0 := rfl
theorem cntL_snoc (acc : List Tr) (v : Tr) : cntL (acc ++ [v]) = cntL acc + 4 + cntL v.l := by
  have h := cntT_succ (l := acc ++ [v]) (j := acc.length) (by simp)
  rw [cntT_all (by simp)] at h
  rw [h]
  have e1 : cntT (acc ++ [v]) acc.length = cntL acc := by unfold cntT; rw [List.take_left']; rfl
  have e2 : (acc ++ [v])[acc.length]'(by simp) = v := by simp
  rw [e1, e2]
theorem pkLeaf_good {b : List UInt8} {k n : Int} {q q' : Nat} {t : Tr} (h : pkLeaf b k n q = .good t q') : q ≤ q' ∧ (q ≤ b.length → q' ≤ b.length) ∧ t.l = [] := by
  unfold pkLeaf at h
  split at h
  · cases h; exact ⟨Nat.le_refl _, id, rfl⟩
  split at h
  · split at h
    · cases h
    · rename_i hn
      split at h
      · cases h
      · cases h; exact ⟨Nat.le_add_right _ _, fun _ => by omega, rfl⟩
  · cases h; exact ⟨Nat.le_refl _, id, rfl⟩
theorem pkLeaf_bad {b : List UInt8} {k n : Int} {q : Nat} {c : Int} (h : pkLeaf b k n q = .bad c) : c ≠ 0 := by
  unfold pkLeaf at h
  split at h
  · cases h
  split at h
  · split at h
    · cases h; decide
    · split at h
      · cases h; decide
      · cases h
  · cases h
theorem kVM_good (b : List UInt8) : ∀ f, (∀ d i t q, kV b f d i = .good t q → 0 ≤ i ∧ i.toNat < q ∧ q ≤ b.length ∧ cntL t.l + 4 + 4 * i.toNat ≤ 4 * q) ∧ (∀ d m q acc l q', kM b f d m q acc = .good l q' → q ≤ b.length → q ≤ q' ∧ q' ≤ b.length ∧ cntL l + 4 * q ≤ cntL acc + 4 * q') := by
  intro f
  induction f with
  | zero => exact ⟨fun d i t q h => (by unfold kV at h; cases h), fun d m q acc l q' h => (by unfold kM at h; cases h)⟩
  | succ f ih =>
    obtain ⟨i1, i2⟩ := ih
    constructor
    · intro d i t q h
      unfold kV at h
      split at h
      · cases h
      split at h
      · cases h
      rename_i hc
      have hc0 : (getMark b i).2.2.2 = 0 := by simpa using hc
      have hG := getMark_good (b := b) (i := i) (k := (getMark b i).1) (n := (getMark b i).2.1) (q := (getMark b i).2.2.1) (by rw [← hc0])
      generalize getMark b i = G at h hG
      obtain ⟨k, n, q0, c⟩ := G
      simp only at h hG
      split at h
      · split at h
        · cases h
        · rename_i hm
          cases h
          have := i2 _ _ _ _ _ _ hm (by omega)
          rw [cntL_nil] at this
          exact ⟨hG.1, by omega, by omega, by dsimp only; omega⟩
      · have := pkLeaf_good h
        rw [this.2.2, cntL_nil]
        have h2 := this.2.1 (by omega)
        exact ⟨hG.1, by omega, by omega, by omega⟩
    · intro d m q acc l q' h hq
      cases m with
      | zero => rw [kM] at h; cases h; exact ⟨Nat.le_refl _, hq, Nat.le_refl _⟩
      | succ m =>
        rw [kM] at h
        split at h
        · cases h
        · rename_i v q1 hv
          have h1 := i1 _ _ _ _ hv
          have h2 := i2 _ _ _ _ _ _ h h1.2.2.1
          rw [cntL_snoc] at h2
          simp only [Int.toNat_natCast] at h1
          exact ⟨by omega, by omega, by omega⟩
theorem kVM_bad (b : List UInt8) : ∀ f, (∀ d i c, kV b f d i = .bad c → c ≠ 0) ∧ (∀ d m q acc c, kM b f d m q acc = .bad c → c ≠ 0) := by
  intro f
  induction f with
  | zero => exact ⟨fun d i c h => (by unfold kV at h; cases h; decide), fun d m q acc c h => (by unfold kM at h; cases h; decide)⟩
  | succ f ih =>
    obtain ⟨i1, i2⟩ := ih
    constructor
    · intro d i c h
      unfold kV at h
      split at h
      · cases h; decide
      split at h
      · rename_i hc; cases h; exact hc
      split at h
      · split at h
        · rename_i hm; cases h; exact i2 _ _ _ _ _ hm
        · cases h
      · exact pkLeaf_bad h
    · intro d m q acc c h
      cases m with
      | zero => rw [kM] at h; cases h
      | succ m =>
        rw [kM] at h
        split at h
        · rename_i hv; cases h; exact i1 _ _ _ hv
        · exact i2 _ _ _ _ _ h
/-- What stands ahead of the elements: the tree's own fields, the place, how many elements. -/
noncomputable def headR (b : List UInt8) (k m : Int) (q : Nat) : Option ((Int × Int × ByteArray) × Nat × Nat) :=
  if k = 4 then some (((fltOf (bitsFltV m)).1, (fltOf (bitsFltV m)).2.1, ⟨#[]⟩), q, 0)
  else if k = 7 ∨ k = 8 then
    (if b.length < q + m.toNat then none
     else if k = 7 ∧ Lib.validD (part b q m.toNat) = false then none
     else some ((0, 0, cutS b q m.toNat), q + m.toNat, 0))
  else if k = 9 ∨ k = 10 then some ((0, 0, ⟨#[]⟩), q, manyN k m)
  else some ((m, 0, ⟨#[]⟩), q, 0)
def closeK (k : Int) (x : Int × Int × ByteArray) (R : RdL) : Rd := match R with
  | .bad c => .bad c
  | .good m q => .good ⟨k, x.1, x.2.1, x.2.2, m⟩ q
theorem kV_head {b : List UInt8} {f : Nat} {d i k m q : Int} (hd : 1 ≤ d) (hG : getMark b i = (k, m, q, 0)) :
    kV b (f + 2) d i = (match headR b k m q.toNat with | none => .bad 1 | some x => closeK k x.1 (kM b (f + 1) d x.2.2 x.2.1 [])) := by
  rw [kV, if_neg (by omega), hG]
  simp only [ne_eq, not_true_eq_false, if_false]
  unfold headR pkLeaf
  by_cases h9 : k = 9 ∨ k = 10
  · rw [if_pos h9, if_neg (by omega), if_neg (by omega), if_pos h9]
    rfl
  · rw [if_neg h9]
    by_cases h4 : k = 4
    · subst h4
      simp only [if_true, kM]
      rfl
    · simp only [if_neg h4, if_neg h9]
      by_cases h7 : k = 7 ∨ k = 8
      · simp only [if_pos h7]
        split
        · rfl
        split
        · rfl
        · simp only [kM]; rfl
      · simp only [if_neg h7, kM]; rfl
theorem headR_many {b : List UInt8} {k m : Int} {q q1 mn : Nat} {x : Int × Int × ByteArray} (h : headR b k m q = some (x, q1, mn)) (hm : 7 ≤ k → 0 ≤ m ∧ m ≤ 65535) : mn ≤ 131070 := by
  unfold headR at h
  split at h
  · cases h; omega
  split at h
  · split at h
    · cases h
    split at h
    · cases h
    · cases h; omega
  split at h
  · rename_i h9
    cases h
    have := hm (by omega)
    unfold manyN
    split <;> omega
  · cases h; omega
theorem headR_at {b : List UInt8} {k m : Int} {q q1 mn : Nat} {x : Int × Int × ByteArray} (h : headR b k m q = some (x, q1, mn)) : q ≤ q1 ∧ (q ≤ b.length → q1 ≤ b.length) := by
  unfold headR at h
  split at h
  · cases h; exact ⟨Nat.le_refl _, id⟩
  split at h
  · split at h
    · cases h
    split at h
    · cases h
    · cases h; exact ⟨Nat.le_add_right _ _, fun _ => by omega⟩
  split at h
  · cases h; exact ⟨Nat.le_refl _, id⟩
  · cases h; exact ⟨Nat.le_refl _, id⟩
theorem packR_cnt (b : List UInt8) (i d : Int) : cntL (resR (packR b i d)).1.l ≤ 4 * b.length := by
  unfold packR
  cases h : kV b (2 * b.length + 3) d i with
  | bad c => simp only [resR, zeroT, leafTr, cntL_nil]; omega
  | good t q => have := (kVM_good b _).1 _ _ _ _ h; simp only [resR]; omega
end Go.Proofs.YtmelnaidjgpclaaDoor
