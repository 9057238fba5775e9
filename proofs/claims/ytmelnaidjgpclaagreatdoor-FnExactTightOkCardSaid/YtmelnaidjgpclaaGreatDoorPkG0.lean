/- GetPacked: what is read of bytes, plain. GetPacked: what is read goes on, ends within the bytes, is small. What is read of bytes: small and well made. -/
import Derived.Test.YtmelnaidjgpclaaGreatDoorGetMarkW
import Derived.Test.YtmelnaidjgpclaaGreatDoorRowVal
import Derived.Test.YtmelnaidjgpclaaGreatDoorTextOk
import Derived.Test.YtmelnaidjgpclaaGreatDoorMarkVal
set_option linter.unusedVariables false
set_option maxRecDepth 100000
set_option linter.unusedSimpArgs false
namespace Go.Proofs.YtmelnaidjgpclaaGreatDoor
open Go.RowKit

def leafTr (k n x : Int) (s : ByteArray) : Tr := ⟨k, n, x, s, []⟩
def zeroT : Tr := leafTr 0 0 0 ⟨#[]⟩
/-- What is read: a tree and the place behind it, or a code. -/
inductive Rd where
  | good (t : Tr) (at_ : Nat)
  | bad (c : Int)
inductive RdL where
  | good (l : List Tr) (at_ : Nat)
  | bad (c : Int)
def Rd.ok (R : Rd) (t : Tr) (p' : Nat) (k' : Int) : Prop := match R with
  | .good t0 q => t = t0 ∧ p' = q ∧ k' = 0
  | .bad c => k' = c ∧ c ≠ 0
def RdL.ok (R : RdL) (m : List Tr) (p' : Nat) (k' : Int) : Prop := match R with
  | .good m0 q => m = m0 ∧ p' = q ∧ k' = 0
  | .bad c => k' = c ∧ c ≠ 0
def resR (R : Rd) : Tr × Int := match R with
  | .good t _ => (t, 0)
  | .bad c => (zeroT, c)
def cutS (b : List UInt8) (q n : Nat) : ByteArray := ⟨(part b q n).toArray⟩
/-- A value without elements, whose mark ends at q. -/
noncomputable def pkLeaf (b : List UInt8) (k n : Int) (q : Nat) : Rd :=
  if k = 4 then .good (leafTr 4 (fltOf (bitsFltV n)).1 (fltOf (bitsFltV n)).2.1 ⟨#[]⟩) q
  else if k = 7 ∨ k = 8 then
    (if b.length < q + n.toNat then .bad 1
     else if k = 7 ∧ Lib.validD (part b q n.toNat) = false then .bad 1
     else .good (leafTr k 0 0 (cutS b q n.toNat)) (q + n.toNat))
  else .good (leafTr k n 0 ⟨#[]⟩) q
def manyN (k n : Int) : Nat := if k = 10 then (2 * n).toNat else n.toNat
mutual
noncomputable def kV (b : List UInt8) : Nat → Int → Int → Rd
  | 0, _, _ => .bad 1
  | f + 1, d, i =>
    if d < 1 then .bad 2
    else if (getMark b i).2.2.2 ≠ 0 then .bad (getMark b i).2.2.2
    else if (getMark b i).1 = 9 ∨ (getMark b i).1 = 10 then
      (match kM b f d (manyN (getMark b i).1 (getMark b i).2.1) (getMark b i).2.2.1.toNat [] with
       | .bad c => .bad c
       | .good m q => .good ⟨(getMark b i).1, 0, 0, ⟨#[]⟩, m⟩ q)
    else pkLeaf b (getMark b i).1 (getMark b i).2.1 (getMark b i).2.2.1.toNat
noncomputable def kM (b : List UInt8) : Nat → Int → Nat → Nat → List Tr → RdL
  | 0, _, _, _, _ => .bad 1
  | _ + 1, _, 0, q, acc => .good acc q
  | f + 1, d, m + 1, q, acc => match kV b f (d - 1) q with
    | .bad c => .bad c
    | .good v q' => kM b f d m q' (acc ++ [v])
end
/-- The tree at i. -/
noncomputable def packR (b : List UInt8) (i d : Int) : Rd := kV b (2 * b.length + 3) d i
theorem shortM_good {c : Nat} (h : (shortM c).2.2 = true) : (1 ≤ (shortM c).1 ∧ (shortM c).1 ≤ 10 ∧ (shortM c).1 ≠ 4) ∧ -32 ≤ (shortM c).2.1 ∧ (c < 256 → (shortM c).2.1 ≤ 127) ∧ (7 ≤ (shortM c).1 → 0 ≤ (shortM c).2.1 ∧ (shortM c).2.1 ≤ 127) := by
  unfold shortM at h ⊢
  (repeat' split) <;> simp_all <;> omega
theorem formM_good (c : Nat) : (0 ≤ (formM c).1 ∧ (formM c).1 ≤ 10) ∧ ((formM c).1 = 5 → (formM c).2 = 2) ∧ ((formM c).1 = 4 → (formM c).2 = 4) := by
  unfold formM
  (repeat' split) <;> simp
theorem sgnIn {x : Int} (h : inR x (-1000000000000000) 1000000000000000 = true) : -1000000000000000 ≤ x ∧ x ≤ 1000000000000000 := by
  unfold inR at h; simpa using h
/-- What a mark that is good says. -/
theorem getMark_good {b : List UInt8} {i k n q : Int} (h : getMark b i = (k, n, q, 0)) :
    0 ≤ i ∧ i < q ∧ q ≤ b.length ∧ (1 ≤ k ∧ k ≤ 10) ∧ (-1000000000000000 ≤ n ∧ n ≤ 1000000000000000 ∨ k = 4) ∧ (7 ≤ k → 0 ≤ n ∧ n ≤ 65535) := by
  unfold getMark at h
  split at h
  rotate_left
  · simp at h
  rename_i hi
  obtain ⟨j, rfl⟩ := Int.eq_ofNat_of_zero_le hi.1
  have hj : j < b.length := by omega
  simp only [Int.toNat_natCast] at h
  have hk := ((b[j]?).getD 0).toNat_lt
  generalize ((b[j]?).getD 0).toNat = c at h hk
  unfold getMarkB at h
  split at h
  · rename_i hs
    have hg := shortM_good hs
    simp only [Prod.mk.injEq] at h
    obtain ⟨h1, h2, h3, _⟩ := h
    rw [h1, h2] at hg
    have := hg.2.2.1 hk
    refine ⟨by omega, by omega, by omega, ⟨by omega, by omega⟩, .inl ⟨by omega, by omega⟩, fun h7 => by have := hg.2.2.2 h7; omega⟩
  split at h
  · simp at h
  rename_i hf
  have hF := formM_good c
  have hl : j + 1 + (formM c).2.toNat ≤ b.length := by omega
  split at h
  · split at h
    · rename_i hr
      have hr := sgnIn hr
      simp only [Prod.mk.injEq] at h
      obtain ⟨rfl, h2, h3, _⟩ := h
      rw [h2] at hr
      exact ⟨by omega, by omega, by omega, ⟨by omega, by omega⟩, .inl hr, fun h7 => by omega⟩
    · simp at h
  split at h
  · split at h
    · rename_i hr
      simp only [Prod.mk.injEq] at h
      obtain ⟨rfl, h2, h3, _⟩ := h
      exact ⟨by omega, by omega, by omega, ⟨by omega, by omega⟩, .inl ⟨by omega, by omega⟩, fun h7 => by omega⟩
    · simp at h
  split at h
  · rename_i h5
    have := hF.2.1 h5
    split at h
    · rename_i hr
      simp only [Prod.mk.injEq] at h
      obtain ⟨rfl, h2, h3, _⟩ := h
      exact ⟨by omega, by omega, by omega, ⟨by omega, by omega⟩, .inl ⟨by omega, by omega⟩, fun h7 => by omega⟩
    · simp at h
  split at h
  · rename_i h4
    have := hF.2.2 h4
    split at h
    · simp only [Prod.mk.injEq] at h
      obtain ⟨rfl, h2, h3, _⟩ := h
      exact ⟨by omega, by omega, by omega, ⟨by omega, by omega⟩, .inr rfl, fun h7 => by omega⟩
    · simp at h
  split at h
  · rename_i hr
    simp only [Prod.mk.injEq] at h
    obtain ⟨h1, h2, h3, _⟩ := h
    exact ⟨by omega, by omega, by omega, ⟨by omega, by omega⟩, .inl ⟨by omega, by omega⟩, fun h7 => by omega⟩
  · simp at h
end Go.Proofs.YtmelnaidjgpclaaGreatDoor

namespace Go.Proofs.YtmelnaidjgpclaaGreatDoor
open Go.RowKit

theorem cntL_nil : cntL [] = 0 := rfl
theorem cntL_snoc (acc : List Tr) (v : Tr) : cntL (acc ++ [v]) = cntL acc + 4 + cntL v.l := by
  have h := cntT_succ (l := acc ++ [v]) (j := acc.length) (by simp)
  rw [cntT_all (by simp)] at h
  rw [h]
  have e1 : cntT (acc ++ [v]) acc.length = cntL acc := by unfold cntT; rw [List.take_left']; rfl
  have e2 : (acc ++ [v])[acc.length]'(by simp) = v := by simp
  rw [e1, e2]
theorem pkLeaf_good {b : List UInt8} {k n : Int} {q q' : Nat} {t : Tr} (h : pkLeaf b k n q = .good t q') : q ≤ q' ∧ (q ≤ b.length → q' ≤ b.length) ∧ t.l = [] := by
  unfold pkLeaf at h
  split at h
  · cases h; exact ⟨Nat.le_refl _, id, rfl⟩
  split at h
  · split at h
    · cases h
    · rename_i hn
      split at h
      · cases h
      · cases h; exact ⟨Nat.le_add_right _ _, fun _ => by omega, rfl⟩
  · cases h; exact ⟨Nat.le_refl _, id, rfl⟩
theorem pkLeaf_bad {b : List UInt8} {k n : Int} {q : Nat} {c : Int} (h : pkLeaf b k n q = .bad c) : c ≠ 0 := by
  unfold pkLeaf at h
  split at h
  · cases h
  split at h
  · split at h
    · cases h; decide
    · split at h
      · cases h; decide
      · cases h
  · cases h
theorem kVM_good (b : List UInt8) : ∀ f, (∀ d i t q, kV b f d i = .good t q → 0 ≤ i ∧ i.toNat < q ∧ q ≤ b.length ∧ cntL t.l + 4 + 4 * i.toNat ≤ 4 * q) ∧ (∀ d m q acc l q', kM b f d m q acc = .good l q' → q ≤ b.length → q ≤ q' ∧ q' ≤ b.length ∧ cntL l + 4 * q ≤ cntL acc + 4 * q') := by
  intro f
  induction f with
  | zero => exact ⟨fun d i t q h => (by unfold kV at h; cases h), fun d m q acc l q' h => (by unfold kM at h; cases h)⟩
  | succ f ih =>
    obtain ⟨i1, i2⟩ := ih
    constructor
    · intro d i t q h
      unfold kV at h
      split at h
      · cases h
      split at h
      · cases h
      rename_i hc
      have hc0 : (getMark b i).2.2.2 = 0 := by simpa using hc
      have hG := getMark_good (b := b) (i := i) (k := (getMark b i).1) (n := (getMark b i).2.1) (q := (getMark b i).2.2.1) (by rw [← hc0])
      generalize getMark b i = G at h hG
      obtain ⟨k, n, q0, c⟩ := G
      simp only at h hG
      split at h
      · split at h
        · cases h
        · rename_i hm
          cases h
          have := i2 _ _ _ _ _ _ hm (by omega)
          rw [cntL_nil] at this
          exact ⟨hG.1, by omega, by omega, by dsimp only; omega⟩
      · have := pkLeaf_good h
        rw [this.2.2, cntL_nil]
        have h2 := this.2.1 (by omega)
        exact ⟨hG.1, by omega, by omega, by omega⟩
    · intro d m q acc l q' h hq
      cases m with
      | zero => rw [kM] at h; cases h; exact ⟨Nat.le_refl _, hq, Nat.le_refl _⟩
      | succ m =>
        rw [kM] at h
        split at h
        · cases h
        · rename_i v q1 hv
          have h1 := i1 _ _ _ _ hv
          have h2 := i2 _ _ _ _ _ _ h h1.2.2.1
          rw [cntL_snoc] at h2
          simp only [Int.toNat_natCast] at h1
          exact ⟨by omega, by omega, by omega⟩
theorem kVM_bad (b : List UInt8) : ∀ f, (∀ d i c, kV b f d i = .bad c → c ≠ 0) ∧ (∀ d m q acc c, kM b f d m q acc = .bad c → c ≠ 0) := by
  intro f
  induction f with
  | zero => exact ⟨fun d i c h => (by unfold kV at h; cases h; decide), fun d m q acc c h => (by unfold kM at h; cases h; decide)⟩
  | succ f ih =>
    obtain ⟨i1, i2⟩ := ih
    constructor
    · intro d i c h
      unfold kV at h
      split at h
      · cases h; decide
      split at h
      · rename_i hc; cases h; exact hc
      split at h
      · split at h
        · rename_i hm; cases h; exact i2 _ _ _ _ _ hm
        · cases h
      · exact pkLeaf_bad h
    · intro d m q acc c h
      cases m with
      | zero => rw [kM] at h; cases h
      | succ m =>
        rw [kM] at h
        split at h
        · rename_i hv; cases h; exact i1 _ _ _ hv
        · exact i2 _ _ _ _ _ h
/-- What stands ahead of the elements: the tree's own fields, the place, how many elements. -/
noncomputable def headR (b : List UInt8) (k m : Int) (q : Nat) : Option ((Int × Int × ByteArray) × Nat × Nat) :=
  if k = 4 then some (((fltOf (bitsFltV m)).1, (fltOf (bitsFltV m)).2.1, ⟨#[]⟩), q, 0)
  else if k = 7 ∨ k = 8 then
    (if b.length < q + m.toNat then none
     else if k = 7 ∧ Lib.validD (part b q m.toNat) = false then none
     else some ((0, 0, cutS b q m.toNat), q + m.toNat, 0))
  else if k = 9 ∨ k = 10 then some ((0, 0, ⟨#[]⟩), q, manyN k m)
  else some ((m, 0, ⟨#[]⟩), q, 0)
def closeK (k : Int) (x : Int × Int × ByteArray) (R : RdL) : Rd := match R with
  | .bad c => .bad c
  | .good m q => .good ⟨k, x.1, x.2.1, x.2.2, m⟩ q
theorem kV_head {b : List UInt8} {f : Nat} {d i k m q : Int} (hd : 1 ≤ d) (hG : getMark b i = (k, m, q, 0)) :
    kV b (f + 2) d i = (match headR b k m q.toNat with | none => .bad 1 | some x => closeK k x.1 (kM b (f + 1) d x.2.2 x.2.1 [])) := by
  rw [kV, if_neg (by omega), hG]
  simp only [ne_eq, not_true_eq_false, if_false]
  unfold headR pkLeaf
  by_cases h9 : k = 9 ∨ k = 10
  · rw [if_pos h9, if_neg (by omega), if_neg (by omega), if_pos h9]
    rfl
  · rw [if_neg h9]
    by_cases h4 : k = 4
    · subst h4
      simp only [if_true, kM]
      rfl
    · simp only [if_neg h4, if_neg h9]
      by_cases h7 : k = 7 ∨ k = 8
      · simp only [if_pos h7]
        split
        · rfl
        split
        · rfl
        · simp only [kM]; rfl
      · simp only [if_neg h7, kM]; rfl
theorem headR_many {b : List UInt8} {k m : Int} {q q1 mn : Nat} {x : Int × Int × ByteArray} (h : headR b k m q = some (x, q1, mn)) (hm : 7 ≤ k → 0 ≤ m ∧ m ≤ 65535) : mn ≤ 131070 := by
  unfold headR at h
  split at h
  · cases h; omega
  split at h
  · split at h
    · cases h
    split at h
    · cases h
    · cases h; omega
  split at h
  · rename_i h9
    cases h
    have := hm (by omega)
    unfold manyN
    split <;> omega
  · cases h; omega
theorem headR_at {b : List UInt8} {k m : Int} {q q1 mn : Nat} {x : Int × Int × ByteArray} (h : headR b k m q = some (x, q1, mn)) : q ≤ q1 ∧ (q ≤ b.length → q1 ≤ b.length) := by
  unfold headR at h
  split at h
  · cases h; exact ⟨Nat.le_refl _, id⟩
  split at h
  · split at h
    · cases h
    split at h
    · cases h
    · cases h; exact ⟨Nat.le_add_right _ _, fun _ => by omega⟩
  split at h
  · cases h; exact ⟨Nat.le_refl _, id⟩
  · cases h; exact ⟨Nat.le_refl _, id⟩
theorem packR_cnt (b : List UInt8) (i d : Int) : cntL (resR (packR b i d)).1.l ≤ 4 * b.length := by
  unfold packR
  cases h : kV b (2 * b.length + 3) d i with
  | bad c => simp only [resR, zeroT, leafTr, cntL_nil]; omega
  | good t q => have := (kVM_good b _).1 _ _ _ _ h; simp only [resR]; omega
end Go.Proofs.YtmelnaidjgpclaaGreatDoor

namespace Go.Proofs.YtmelnaidjgpclaaGreatDoor
open Go.RowKit

theorem szL_nil : szL [] = 0 := rfl
theorem szL_snoc (acc : List Tr) (v : Tr) : szL (acc ++ [v]) = szL acc + 1 + v.sz := by unfold szL; simp; omega
theorem leaf_wf {k n x : Int} {s : ByteArray} (hk : -9223372036854775808 ≤ k ∧ k ≤ 9223372036854775807) (hn : -9223372036854775808 ≤ n ∧ n ≤ 9223372036854775807) (hx : -9223372036854775808 ≤ x ∧ x ≤ 9223372036854775807) (hs : s.size ≤ maxLen) : (leafTr k n x s).wf :=
  (Tr.wf_iff _).2 ⟨hk, hn, hx, hs, fun u hu => by cases hu⟩
theorem flt_bd (n : Int) : (-65535 ≤ (fltOf (bitsFltV n)).1 ∧ (fltOf (bitsFltV n)).1 ≤ 65535) ∧ (-16 ≤ (fltOf (bitsFltV n)).2.1 ∧ (fltOf (bitsFltV n)).2.1 ≤ 45) := by
  have key : ∀ m e, ∃ a x ok, fltNewV m e = fltV a x ok ∧ (-65535 ≤ a ∧ a ≤ 65535) ∧ (-16 ≤ x ∧ x ≤ 45) := by
    intro m e
    unfold fltNewV fltNewIn
    split
    · split
      · exact ⟨0, 0, true, rfl, by decide, by decide⟩
      · split
        · rename_i h
          refine ⟨_, _, true, rfl, ?_⟩
          generalize (strip 64 m e).1 = a at h
          generalize (strip 64 m e).2 = x at h
          unfold fltOk at h
          split at h
          · simp at h; omega
          · simp at h; omega
        · exact ⟨0, 0, false, rfl, by decide, by decide⟩
    · exact ⟨0, 0, false, rfl, by decide, by decide⟩
  unfold bitsFltV
  split
  · obtain ⟨a, x, ok, h, h2⟩ := key (if 16777216 ≤ n then -(n % 65536) else n % 65536) (n / 65536 % 256 - 16)
    rw [h, fltOf_fltV]; exact h2
  · rw [fltOf_fltV]; decide
/-- A tree that is read from i up to q. -/
structure OkT (b : List UInt8) (i : Nat) (t : Tr) (q : Nat) : Prop where
  lt : i < q
  le : q ≤ b.length
  cnt : cntL t.l + 4 + 4 * i ≤ 4 * q
  wf : t.wf
  sz : t.sz + 1 + i ≤ q
structure OkL (b : List UInt8) (q : Nat) (acc l : List Tr) (q' : Nat) : Prop where
  ge : q ≤ q'
  le : q' ≤ b.length
  cnt : cntL l + 4 * q ≤ cntL acc + 4 * q'
  wf : (∀ u ∈ acc, u.wf) → ∀ u ∈ l, u.wf
  sz : szL l + q ≤ szL acc + q'
structure OkLeaf (b : List UInt8) (t : Tr) (q q' : Nat) : Prop where
  ge : q ≤ q'
  le : q' ≤ b.length
  nil : t.l = []
  wf : t.wf
  sz : t.s.size + q ≤ q'
theorem OkLeaf.mk_ {b : List UInt8} {k n x : Int} {q : Nat} (h : q ≤ q) (hq : q ≤ b.length) (hk : -9223372036854775808 ≤ k ∧ k ≤ 9223372036854775807) (hn : -9223372036854775808 ≤ n ∧ n ≤ 9223372036854775807) (hx : -9223372036854775808 ≤ x ∧ x ≤ 9223372036854775807) : OkLeaf b (leafTr k n x ⟨#[]⟩) q q :=
  ⟨h, hq, rfl, leaf_wf hk hn hx (Nat.zero_le _), by show 0 + q ≤ q; omega⟩
theorem OkLeaf.tree {b : List UInt8} {t : Tr} {i q q' : Nat} (h : OkLeaf b t q q') (hi : i < q) : OkT b i t q' := by
  have h1 := h.ge
  have h2 := h.sz
  refine ⟨by omega, h.le, ?_, h.wf, ?_⟩
  · rw [h.nil, cntL_nil]; omega
  · rw [t.sz_eq, h.nil, szL_nil]; omega
theorem OkL.nil_ {b : List UInt8} {q : Nat} {l : List Tr} (h : q ≤ b.length) : OkL b q l l q := ⟨Nat.le_refl _, h, Nat.le_refl _, id, Nat.le_refl _⟩
theorem OkL.more {b : List UInt8} {q q' q2 : Nat} {acc l : List Tr} (h : OkL b q acc l q') (h1 : q' ≤ q2) (h2 : q2 ≤ b.length) : OkL b q acc l q2 :=
  ⟨by have := h.ge; omega, h2, by have := h.cnt; omega, h.wf, by have := h.sz; omega⟩
theorem OkL.tree {b : List UInt8} {q q' i : Nat} {m : List Tr} (h : OkL b q [] m q') (hi : i < q) {k n : Int} (hk : -9223372036854775808 ≤ k ∧ k ≤ 9223372036854775807) (hn : -9223372036854775808 ≤ n ∧ n ≤ 9223372036854775807) : OkT b i ⟨k, n, 0, ⟨#[]⟩, m⟩ q' := by
  have h1 := h.ge
  have h2 := h.cnt
  have h3 := h.sz
  rw [cntL_nil] at h2
  rw [szL_nil] at h3
  refine ⟨by omega, h.le, by show cntL m + 4 + 4 * i ≤ 4 * q'; omega, (Tr.wf_iff _).2 ⟨hk, hn, (show (-9223372036854775808 : Int) ≤ 0 ∧ (0 : Int) ≤ 9223372036854775807 by decide), Nat.zero_le _, h.wf (fun u hu => by cases hu)⟩, ?_⟩
  rw [Tr.sz_eq]
  show 0 + szL m + 1 + i ≤ q'
  omega
theorem OkT.snoc {b : List UInt8} {i q q' : Nat} {v : Tr} {acc l : List Tr} (h : OkT b i v q) (hl : OkL b q (acc ++ [v]) l q') : OkL b i acc l q' := by
  have a1 := h.lt
  have a2 := h.cnt
  have a3 := h.sz
  have b1 := hl.ge
  have b2 := hl.cnt
  have b3 := hl.sz
  rw [cntL_snoc] at b2
  rw [szL_snoc] at b3
  refine ⟨by omega, hl.le, by omega, fun hw => hl.wf fun u hu => ?_, by omega⟩
  rcases List.mem_append.1 hu with hu | hu
  · exact hw u hu
  · rw [List.mem_singleton] at hu; rw [hu]; exact h.wf
theorem pkLeaf_fit {b : List UInt8} {k n : Int} {q q' : Nat} {t : Tr} (h : pkLeaf b k n q = .good t q') (hb : b.length ≤ 1048576) (hq : q ≤ b.length) (hk : 1 ≤ k ∧ k ≤ 10) (hn : -1000000000000000 ≤ n ∧ n ≤ 1000000000000000 ∨ k = 4) : OkLeaf b t q q' := by
  unfold pkLeaf at h
  split at h
  · cases h
    have := flt_bd n
    exact OkLeaf.mk_ (by omega) hq (by decide) (by omega) (by omega)
  split at h
  · split at h
    · cases h
    · split at h
      · cases h
      · cases h
        have hz : (cutS b q n.toNat).size = n.toNat := by unfold cutS; show (part b q n.toNat).toArray.size = _; rw [List.size_toArray, part_len (by omega)]
        refine ⟨by omega, by omega, rfl, leaf_wf (by omega) (by decide) (by decide) (by rw [hz]; unfold maxLen; omega), ?_⟩
        show (cutS b q n.toNat).size + q ≤ _
        rw [hz]; omega
  · cases h
    exact OkLeaf.mk_ (by omega) hq (by omega) (by omega) (by decide)
theorem kVM_fit {b : List UInt8} (hb : b.length ≤ 1048576) : ∀ f, (∀ d i t q, kV b f d i = .good t q → 0 ≤ i ∧ OkT b i.toNat t q) ∧ (∀ d m q acc l q', kM b f d m q acc = .good l q' → q ≤ b.length → OkL b q acc l q') := by
  intro f
  induction f with
  | zero => exact ⟨fun d i t q h => (by unfold kV at h; cases h), fun d m q acc l q' h => (by unfold kM at h; cases h)⟩
  | succ f ih =>
    obtain ⟨i1, i2⟩ := ih
    constructor
    · intro d i t q h
      unfold kV at h
      split at h
      · cases h
      split at h
      · cases h
      rename_i hc
      have hc0 : (getMark b i).2.2.2 = 0 := by simpa using hc
      have hG := getMark_good (b := b) (i := i) (k := (getMark b i).1) (n := (getMark b i).2.1) (q := (getMark b i).2.2.1) (by rw [← hc0])
      generalize getMark b i = G at h hG
      obtain ⟨k, n, q0, c⟩ := G
      simp only at h hG
      split at h
      · split at h
        · cases h
        · rename_i m q2 hm
          cases h
          have hk := i2 _ _ _ _ _ _ hm (by omega)
          exact ⟨hG.1, hk.tree (by omega) (by omega) (by decide)⟩
      · have := pkLeaf_fit h hb (by omega) hG.2.2.2.1 hG.2.2.2.2.1
        exact ⟨hG.1, this.tree (by omega)⟩
    · intro d m q acc l q' h hq
      cases m with
      | zero => rw [kM] at h; cases h; exact OkL.nil_ hq
      | succ m =>
        rw [kM] at h
        split at h
        · cases h
        · rename_i v q1 hv
          have h1 := i1 _ _ _ _ hv
          rw [Int.toNat_natCast] at h1
          exact h1.2.snoc (i2 _ _ _ _ _ _ h h1.2.le)
end Go.Proofs.YtmelnaidjgpclaaGreatDoor
