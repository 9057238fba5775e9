/- IntVal: both sides. GetTight: what is read of bytes, plain. GetTight: what is read goes on, ends within the bytes, is small and well made. The reference's GetTight: its bytes and texts. The reference's GetTight: its elements. The reference's l14Simple. -/
import Derived.Test.YtmelnaidjgpclaaGreatDoorPkG0
import Derived.Test.YtmelnaidjgpclaaGreatDoorHeadAlg
import Derived.Test.YtmelnaidjgpclaaGreatDoorToSl
import Derived.Deep.Cut
import Derived.Deep.CutBlock
import Derived.Deep.DeepCutAuto
import Derived.Deep.QuietTactic
import Derived.BigQuiet
import Derived.BigRegion
import Derived.Test.YtmelnaidjgpclaaGreatDoorToBase
set_option linter.unusedVariables false
set_option maxRecDepth 100000
set_option linter.unusedSimpArgs false
namespace Go.Proofs.YtmelnaidjgpclaaGreatDoor
open Go.RowKit

theorem i_IntVal (n : Int) (w : World) : Calls Tryz.prog 77 #[.int .i64 n] w fun r w' => r = .returned (trV (leafTr 3 n 0 ⟨#[]⟩) ⟨none, 0, 0, []⟩) ∧ Below w.heap.size w w' := by
  go_enter Tryz.func77, Tryz.ntmps77
  go_wp2_with fail
  exact bodyPost_ret (results_blk Tryz.results77 Tryz.isAgg28 (by exact Tryz.sizeOf28) rfl (Blk.new w _ _)) rfl ⟨rfl, Below.one _ _⟩
theorem s_IntVal (n : Int) (w : World) : Calls Tryz.prog 32 #[.int .i64 n] w fun r w' => r = .returned (trV (leafTr 3 n 0 ⟨#[]⟩) ⟨none, 0, 0, []⟩) ∧ Below w.heap.size w w' := by
  go_enter Tryz.func32, Tryz.ntmps32
  go_wp2_with fail
  exact bodyPost_ret (results_blk Tryz.results32 Tryz.isAgg28 (by exact Tryz.sizeOf28) rfl (Blk.new w _ _)) rfl ⟨rfl, Below.one _ _⟩
end Go.Proofs.YtmelnaidjgpclaaGreatDoor

namespace Go.Proofs.YtmelnaidjgpclaaGreatDoor
open Go.RowKit

/-- Bytes that are read, and the place behind them, or a code. -/
inductive RdS where
  | good (s : List UInt8) (at_ : Nat)
  | bad (c : Int)
def strR (b : List UInt8) (mj n : Int) (q : Nat) : RdS :=
  if b.length < q + n.toNat then .bad 1
  else if mj = 3 ∧ Lib.validD (part b q n.toNat) = false then .bad 1
  else .good (part b q n.toNat) (q + n.toNat)
def partsR (b : List UInt8) (mj : Int) : Nat → Nat → List UInt8 → RdS
  | 0, _, _ => .bad 1
  | f + 1, q, acc =>
    if b[q]? = some 255 then .good acc (q + 1)
    else if (getHead b q).2.2.2.2 ≠ 0 then .bad (getHead b q).2.2.2.2
    else if (getHead b q).1 ≠ mj ∨ (getHead b q).2.2.1 = -1 then .bad 1
    else match strR b mj (getHead b q).2.1 (getHead b q).2.2.2.1.toNat with
      | .bad c => .bad c
      | .good s q' => partsR b mj f q' (acc ++ s)
def anyS (b : List UInt8) (mj n wd : Int) (q : Nat) : RdS := if wd = -1 then partsR b mj (b.length + 1) q [] else strR b mj n q
def closeS (mj : Int) (R : RdS) : Rd := match R with
  | .bad c => .bad c
  | .good s q => .good (leafTr (if mj = 3 then 7 else 8) 0 0 ⟨s.toArray⟩) q
noncomputable def simpR (n wd : Int) (q : Nat) : Rd :=
  if wd = 0 ∧ (n = 20 ∨ n = 21) then .good (leafTr 2 (n - 20) 0 ⟨#[]⟩) q
  else if wd = 0 ∧ n = 22 then .good (leafTr 1 0 0 ⟨#[]⟩) q
  else if wd = 1 ∧ 32 ≤ n ∧ n ≤ 34 then .good (leafTr 5 (n - 32) 0 ⟨#[]⟩) q
  else if wd = 4 ∧ (fltOf (bitsFltV n)).2.2 = true then .good (leafTr 4 (fltOf (bitsFltV n)).1 (fltOf (bitsFltV n)).2.1 ⟨#[]⟩) q
  else .bad 1
/-- A head without elements, whose bytes end at q. -/
noncomputable def leafH (b : List UInt8) (mj n wd : Int) (q : Nat) : Rd :=
  if mj = 0 then .good (leafTr 3 n 0 ⟨#[]⟩) q
  else if mj = 1 then (if 1000000000000000 ≤ n then .bad 2 else .good (leafTr 3 (-1 - n) 0 ⟨#[]⟩) q)
  else if mj = 2 ∨ mj = 3 then closeS mj (anyS b mj n wd q)
  else simpR n wd q
def kindH (mj : Int) : Int := if mj = 4 then 9 else if mj = 5 then 10 else 11
def manyH (mj n : Int) : Nat := if mj = 4 then n.toNat else if mj = 5 then 2 * n.toNat else 1
def closeH (mj n : Int) (R : RdL) : Rd := match R with
  | .bad c => .bad c
  | .good m q => .good ⟨kindH mj, if mj = 6 then n else 0, 0, ⟨#[]⟩, m⟩ q
mutual
noncomputable def tV (b : List UInt8) : Nat → Int → Int → Rd
  | 0, _, _ => .bad 1
  | f + 1, d, i =>
    if d < 1 then .bad 2
    else if (getHead b i).2.2.2.2 ≠ 0 then .bad (getHead b i).2.2.2.2
    else if (getHead b i).1 = 4 ∨ (getHead b i).1 = 5 ∨ (getHead b i).1 = 6 then
      closeH (getHead b i).1 (getHead b i).2.1 (if (getHead b i).2.2.1 = -1 then tI b f d (decide ((getHead b i).1 = 5)) false (getHead b i).2.2.2.1.toNat [] else tM b f d (manyH (getHead b i).1 (getHead b i).2.1) (getHead b i).2.2.2.1.toNat [])
    else leafH b (getHead b i).1 (getHead b i).2.1 (getHead b i).2.2.1 (getHead b i).2.2.2.1.toNat
noncomputable def tM (b : List UInt8) : Nat → Int → Nat → Nat → List Tr → RdL
  | 0, _, _, _, _ => .bad 1
  | _ + 1, _, 0, q, acc => .good acc q
  | f + 1, d, m + 1, q, acc => match tV b f (d - 1) q with
    | .bad c => .bad c
    | .good v q' => tM b f d m q' (acc ++ [v])
noncomputable def tI (b : List UInt8) : Nat → Int → Bool → Bool → Nat → List Tr → RdL
  | 0, _, _, _, _, _ => .bad 1
  | f + 1, d, pr, od, q, acc =>
    if b[q]? = some 255 then (if pr = true ∧ od = true then .bad 1 else .good acc (q + 1))
    else match tV b f (d - 1) q with
    | .bad c => .bad c
    | .good v q' => tI b f d pr (!od) q' (acc ++ [v])
end
def capD (d : Int) : Int := if 10000 < d then 10000 else d
noncomputable def tightR (b : List UInt8) (i d : Int) : Rd := tV b (2 * b.length + 3) (capD d) i
theorem head_facts {b : List UInt8} {i mj n wd nx : Int} (h : getHead b i = (mj, n, wd, nx, 0)) :
    0 ≤ i ∧ i < nx ∧ nx ≤ b.length ∧ (0 ≤ mj ∧ mj ≤ 7) ∧ (0 ≤ n ∧ n ≤ 1000000000000000) ∧ (wd = 0 ∨ wd = 1 ∨ wd = 2 ∨ wd = 4 ∨ wd = 8 ∨ (wd = -1 ∧ n = 0 ∧ 2 ≤ mj ∧ mj ≠ 6)) ∧ (wd = -1 ∧ mj = 7 ↔ b[i.toNat]? = some 255) := by
  obtain ⟨hok, j, k, rfl, rfl, hjk, hp⟩ := getHead_good h
  have hs := headB_size hok
  have hk : k = (headB mj n wd).length := by rw [hp, part_len hjk]
  have hk1 : 1 ≤ k := by rw [hk, hs]; split <;> omega
  obtain ⟨h1, h2, h3, h4, h5⟩ := headOk_iff hok
  have h6 := hok
  unfold headOk at h6
  have h6 := of_decide_eq_true h6
  refine ⟨by omega, by omega, by omega, ⟨h1, h2⟩, ⟨h3, h4⟩, by omega, ?_⟩
  have hj : j < b.length := by omega
  have e1 : (headB mj n wd)[0]? = b[j]? := by
    rw [hp]; unfold part; rw [List.getElem?_take_of_lt (by omega), List.getElem?_drop]; rfl
  rw [Int.toNat_natCast, ← e1]
  have hb : (headB mj n wd)[0]? = some (UInt8.ofNat ((32 * mj + infoOf n wd).toNat % 256)) := by rw [headB_yes hok]; rfl
  rw [hb]
  have hi : (0 ≤ infoOf n wd ∧ infoOf n wd ≤ 27) ∨ infoOf n wd = 31 ∧ wd = -1 := by
    rcases h5 with ⟨rfl, hn⟩ | ⟨rfl, hn⟩ | ⟨rfl, hn⟩ | ⟨rfl, hn⟩ | rfl | ⟨rfl, hn⟩ <;> simp [infoOf] <;> omega
  have hi2 : wd = -1 → infoOf n wd = 31 := fun e => by subst e; simp [infoOf]
  constructor
  · rintro ⟨e, rfl⟩
    rw [hi2 e]; rfl
  · intro e
    have e2 := congrArg UInt8.toNat (Option.some.inj e)
    rw [UInt8.toNat_ofNat_of_lt' (Nat.mod_lt _ (by decide)), show (255 : UInt8).toNat = 255 from rfl] at e2
    change (32 * mj + infoOf n wd).toNat % 256 = 255 at e2
    omega
theorem head_stop {b : List UInt8} {q : Nat} (h : b[q]? = some 255) : getHead b q = (7, 0, -1, (q : Int) + 1, 0) := by
  have hq : q < b.length := by
    by_cases hq : q < b.length
    · exact hq
    · rw [List.getElem?_eq_none (by omega)] at h; cases h
  rw [getHead_in hq]
  rw [List.getElem?_eq_getElem hq] at h
  rw [Option.some.inj h, show (255 : UInt8).toNat = 255 from rfl]
  unfold getHeadB
  rw [if_neg (by decide), if_pos (by decide), if_pos (by decide)]
  simp
end Go.Proofs.YtmelnaidjgpclaaGreatDoor

namespace Go.Proofs.YtmelnaidjgpclaaGreatDoor
open Go.RowKit

theorem strR_good {b : List UInt8} {mj n : Int} {q q' : Nat} {s : List UInt8} (h : strR b mj n q = .good s q') : q ≤ q' ∧ q' ≤ b.length ∧ s.length + q = q' := by
  unfold strR at h
  split at h
  · cases h
  split at h
  · cases h
  cases h
  exact ⟨by omega, by omega, by rw [part_len (by omega)]; omega⟩
theorem strR_bad {b : List UInt8} {mj n : Int} {q : Nat} {c : Int} (h : strR b mj n q = .bad c) : c ≠ 0 := by
  unfold strR at h
  split at h
  · cases h; decide
  split at h
  · cases h; decide
  cases h
theorem partsR_good {b : List UInt8} {mj : Int} : ∀ (f q : Nat) (acc s : List UInt8) (q' : Nat), partsR b mj f q acc = .good s q' → q < q' ∧ q' ≤ b.length ∧ s.length + q ≤ acc.length + q' := by
  intro f
  induction f with
  | zero => intro q acc s q' h; unfold partsR at h; cases h
  | succ f ih =>
    intro q acc s q' h
    unfold partsR at h
    split at h
    · rename_i he
      cases h
      have hq : q < b.length := by
        by_cases hq : q < b.length
        · exact hq
        · rw [List.getElem?_eq_none (by omega)] at he; cases he
      omega
    split at h
    · cases h
    rename_i hc
    have hc0 : (getHead b q).2.2.2.2 = 0 := by simpa using hc
    have hG := head_facts (b := b) (i := q) (mj := (getHead b q).1) (n := (getHead b q).2.1) (wd := (getHead b q).2.2.1) (nx := (getHead b q).2.2.2.1) (by rw [← hc0])
    split at h
    · cases h
    split at h
    · cases h
    · rename_i s2 q2 hs
      have h1 := strR_good hs
      have h2 := ih _ _ _ _ h
      rw [List.length_append] at h2
      omega
theorem partsR_bad {b : List UInt8} {mj : Int} : ∀ (f q : Nat) (acc : List UInt8) (c : Int), partsR b mj f q acc = .bad c → c ≠ 0 := by
  intro f
  induction f with
  | zero => intro q acc c h; unfold partsR at h; cases h; decide
  | succ f ih =>
    intro q acc c h
    unfold partsR at h
    split at h
    · cases h
    split at h
    · rename_i hc; cases h; exact hc
    split at h
    · cases h; decide
    split at h
    · rename_i hs; cases h; exact strR_bad hs
    · exact ih _ _ _ h
theorem anyS_good {b : List UInt8} {mj n wd : Int} {q q' : Nat} {s : List UInt8} (h : anyS b mj n wd q = .good s q') : q ≤ q' ∧ q' ≤ b.length ∧ s.length + q ≤ q' := by
  unfold anyS at h
  split at h
  · have := partsR_good _ _ _ _ _ h; simp at this; omega
  · have := strR_good h; omega
theorem anyS_bad {b : List UInt8} {mj n wd : Int} {q : Nat} {c : Int} (h : anyS b mj n wd q = .bad c) : c ≠ 0 := by
  unfold anyS at h
  split at h
  · exact partsR_bad _ _ _ _ h
  · exact strR_bad h
theorem leafH_good {b : List UInt8} {mj n wd : Int} {q q' : Nat} {t : Tr} (h : leafH b mj n wd q = .good t q') (hb : b.length ≤ 1048576) (hq : q ≤ b.length) (hn : 0 ≤ n ∧ n ≤ 1000000000000000) : OkLeaf b t q q' := by
  unfold leafH at h
  split at h
  · cases h; exact OkLeaf.mk_ (by omega) hq (by decide) (by omega) (by decide)
  split at h
  · split at h
    · cases h
    · cases h; exact OkLeaf.mk_ (by omega) hq (by decide) (by omega) (by decide)
  split at h
  · unfold closeS at h
    split at h
    · cases h
    · rename_i s2 q2 hs
      have h2 := anyS_good hs
      cases h
      refine ⟨h2.1, h2.2.1, rfl, leaf_wf (by split <;> omega) (by decide) (by decide) ?_, ?_⟩
      · show s2.toArray.size ≤ _; rw [List.size_toArray]; unfold maxLen; omega
      · show s2.toArray.size + _ ≤ _; rw [List.size_toArray]; omega
  · unfold simpR at h
    split at h
    · cases h; exact OkLeaf.mk_ (by omega) hq (by decide) (by omega) (by decide)
    split at h
    · cases h; exact OkLeaf.mk_ (by omega) hq (by decide) (by decide) (by decide)
    split at h
    · cases h; exact OkLeaf.mk_ (by omega) hq (by decide) (by omega) (by decide)
    split at h
    · cases h
      have := flt_bd n
      exact OkLeaf.mk_ (by omega) hq (by decide) (by omega) (by omega)
    · cases h
theorem leafH_bad {b : List UInt8} {mj n wd : Int} {q : Nat} {c : Int} (h : leafH b mj n wd q = .bad c) : c ≠ 0 := by
  unfold leafH at h
  split at h
  · cases h
  split at h
  · split at h
    · cases h; decide
    · cases h
  split at h
  · unfold closeS at h
    split at h
    · rename_i hs; cases h; exact anyS_bad hs
    · cases h
  · unfold simpR at h
    split at h
    · cases h
    split at h
    · cases h
    split at h
    · cases h
    split at h
    · cases h
    · cases h; decide
theorem tVM_good {b : List UInt8} (hb : b.length ≤ 1048576) : ∀ f, (∀ d i t q, tV b f d i = .good t q → 0 ≤ i ∧ OkT b i.toNat t q) ∧ (∀ d m q acc l q', tM b f d m q acc = .good l q' → q ≤ b.length → OkL b q acc l q') ∧ (∀ d pr od q acc l q', tI b f d pr od q acc = .good l q' → q ≤ b.length → OkL b q acc l q') := by
  intro f
  induction f with
  | zero => exact ⟨fun d i t q h => (by unfold tV at h; cases h), fun d m q acc l q' h => (by unfold tM at h; cases h), fun d pr od q acc l q' h => (by unfold tI at h; cases h)⟩
  | succ f ih =>
    obtain ⟨i1, i2, i3⟩ := ih
    refine ⟨?_, ?_, ?_⟩
    · intro d i t q h
      unfold tV at h
      split at h
      · cases h
      split at h
      · cases h
      rename_i hc
      have hc0 : (getHead b i).2.2.2.2 = 0 := by simpa using hc
      have hG := head_facts (b := b) (i := i) (mj := (getHead b i).1) (n := (getHead b i).2.1) (wd := (getHead b i).2.2.1) (nx := (getHead b i).2.2.2.1) (by rw [← hc0])
      generalize getHead b i = G at h hG
      obtain ⟨mj, n, wd, q0, c⟩ := G
      simp only at h hG
      split at h
      · unfold closeH at h
        split at h
        · cases h
        · rename_i m q2 hm
          cases h
          have hk : OkL b q0.toNat [] m q := by
            split at hm
            · exact i3 _ _ _ _ _ _ _ hm (by omega)
            · exact i2 _ _ _ _ _ _ hm (by omega)
          exact ⟨hG.1, hk.tree (by omega) (by unfold kindH; (repeat' split) <;> omega) (by split <;> omega)⟩
      · have := leafH_good h hb (by omega) hG.2.2.2.2.1
        exact ⟨hG.1, this.tree (by omega)⟩
    · intro d m q acc l q' h hq
      cases m with
      | zero => rw [tM] at h; cases h; exact OkL.nil_ hq
      | succ m =>
        rw [tM] at h
        split at h
        · cases h
        · rename_i v q1 hv
          have h1 := i1 _ _ _ _ hv
          rw [Int.toNat_natCast] at h1
          exact h1.2.snoc (i2 _ _ _ _ _ _ h h1.2.le)
    · intro d pr od q acc l q' h hq
      rw [tI] at h
      split at h
      · rename_i he
        split at h
        · cases h
        · cases h
          have hq2 : q < b.length := by
            by_cases hq2 : q < b.length
            · exact hq2
            · rw [List.getElem?_eq_none (by omega)] at he; cases he
          exact (OkL.nil_ (b := b) hq).more (Nat.le_succ q) (by omega)
      · split at h
        · cases h
        · rename_i v q1 hv
          have h1 := i1 _ _ _ _ hv
          rw [Int.toNat_natCast] at h1
          exact h1.2.snoc (i3 _ _ _ _ _ _ _ h h1.2.le)
theorem tVM_bad (b : List UInt8) : ∀ f, (∀ d i c, tV b f d i = .bad c → c ≠ 0) ∧ (∀ d m q acc c, tM b f d m q acc = .bad c → c ≠ 0) ∧ (∀ d pr od q acc c, tI b f d pr od q acc = .bad c → c ≠ 0) := by
  intro f
  induction f with
  | zero => exact ⟨fun d i c h => (by unfold tV at h; cases h; decide), fun d m q acc c h => (by unfold tM at h; cases h; decide), fun d pr od q acc c h => (by unfold tI at h; cases h; decide)⟩
  | succ f ih =>
    obtain ⟨i1, i2, i3⟩ := ih
    refine ⟨?_, ?_, ?_⟩
    · intro d i c h
      unfold tV at h
      split at h
      · cases h; decide
      split at h
      · rename_i hc; cases h; exact hc
      split at h
      · unfold closeH at h
        split at h
        · rename_i hm
          cases h
          split at hm
          · exact i3 _ _ _ _ _ _ hm
          · exact i2 _ _ _ _ _ hm
        · cases h
      · exact leafH_bad h
    · intro d m q acc c h
      cases m with
      | zero => rw [tM] at h; cases h
      | succ m =>
        rw [tM] at h
        split at h
        · rename_i hv; cases h; exact i1 _ _ _ hv
        · exact i2 _ _ _ _ _ h
    · intro d pr od q acc c h
      rw [tI] at h
      split at h
      · split at h
        · cases h; decide
        · cases h
      · split at h
        · rename_i hv; cases h; exact i1 _ _ _ hv
        · exact i3 _ _ _ _ _ _ h
theorem tightR_cnt {b : List UInt8} (hb : b.length ≤ 1048576) (i d : Int) : cntL (resR (tightR b i d)).1.l ≤ 4 * b.length := by
  unfold tightR
  cases h : tV b (2 * b.length + 3) (capD d) i with
  | bad c => simp only [resR, zeroT, leafTr, cntL_nil]; omega
  | good t q => have := ((tVM_good hb _).1 _ _ _ _ h).2; have h1 := this.cnt; have h2 := this.le; simp only [resR]; omega
end Go.Proofs.YtmelnaidjgpclaaGreatDoor

namespace Go.Proofs.YtmelnaidjgpclaaGreatDoor
open Go.RowKit

def strV (R : RdS) : Value := match R with
  | .good s q => .tuple #[.string ⟨s.toArray⟩, .int .i64 q, .int .i64 0]
  | .bad c => .tuple #[.string ⟨#[]⟩, .int .i64 0, .int .i64 c]
set_option maxHeartbeats 2000000 in
theorem s_l14Str (A : Option Addr) (n c : Nat) (b : List UInt8) (q m : Nat) (mj wd : Int) (w : World) (B : Nat) (h : Sl w B 1 A n c (u8s b)) (hB : B ≤ w.heap.size) (hn : n ≤ 1048576) (hq : q ≤ n) (hm : m ≤ 1000000000000000) :
    Calls Tryz.prog 33 #[.slice A n c, .int .i64 q, .agg #[.int .i64 mj, .int .i64 m, .int .i64 wd]] w fun r w' => r = .returned (strV (strR b mj m q)) ∧ Below w.heap.size w w' := by
  have hbl := h.blen
  have k1 := Below.one w (.cells #[.int .i64 mj, .int .i64 m, .int .i64 wd] 36)
  have hO := Blk.new w 36 #[.int .i64 mj, .int .i64 m, .int .i64 wd]
  have hh := h.below (k1.mono hB)
  generalize hwa : w.alloc (.cells #[.int .i64 mj, .int .i64 m, .int .i64 wd] 36) = wa at k1 hO hh
  have hBa := Nat.le_trans hB k1.size
  unfold strR
  rw [Int.toNat_natCast]
  by_cases hsh : b.length < q + m
  · rw [if_pos hsh]
    have HS := s_Slice_no A n c b q m wa B hh hn hq hm (by omega)
    have o1 := hO.cell 1
    simp only [List.getElem?_toArray, List.getElem?_cons_succ, List.getElem?_cons_zero] at o1
    go_enter Tryz.func33, Tryz.ntmps33
    go_upto_region 1 with fail
    go_wp2_with (go_at_call 54; refine HS.mono ?_; rintro r w5 ⟨rfl, hb5⟩)
    refine bodyPost_ret (results_tmp3 Tryz.results33 _ _ _) rfl ?_
    exact ⟨rfl, k1.up hb5⟩
  rw [if_neg hsh]
  have HS := s_Slice_ok A n c b q m wa B hh hBa hn (by omega)
  have o1 := hO.cell 1
  simp only [List.getElem?_toArray, List.getElem?_cons_succ, List.getElem?_cons_zero] at o1
  have o0 : ∀ w1, Below wa.heap.size wa w1 → w1.cell? ⟨w.heap.size, 0, none⟩ = some (.int .i64 mj) := fun w1 hb => (hO.below hb hO.lt).cell 0
  have o2 : ∀ w1, Below wa.heap.size wa w1 → w1.cell? ⟨w.heap.size, 1, none⟩ = some (.int .i64 m) := fun w1 hb => (hO.below hb hO.lt).cell 1
  have hcut : (⟨(part b q m).toArray⟩ : ByteArray).data.toList = part b q m := by simp
  have hTX := fun w1 => s_TextOk ⟨(part b q m).toArray⟩ w1 (by show (part b q m).toArray.size ≤ _; rw [List.size_toArray]; unfold part; rw [List.length_take]; omega)
  rw [hcut] at hTX
  have hwq : IntKind.i64.wrap ((q : Int) + (m : Int)) = (q : Int) + (m : Int) := by rw [IntKind.wrap_i64]; omega
  have hcv0 := fun w1 B1 A1 c1 (h1 : Sl w1 B1 1 A1 m c1 (u8s (part b q m))) => run_str_sl (P := Tryz.prog) 22 5 Tryz.underlying22 Tryz.underlying5 h1 9 Tryz.underlying9
  generalize hv : Lib.validD (part b q m) = v at hTX
  obtain ⟨R, hR0⟩ : ∃ R, strV (if mj = 3 ∧ v = false then .bad 1 else .good (part b q m) (q + m)) = R := ⟨_, rfl⟩
  rw [hR0]
  generalize hss : (⟨(part b q m).toArray⟩ : ByteArray) = ss at hTX hcv0
  have HR0 := Lib.hid hR0
  have HSS := Lib.hid hss
  clear hR0 hss hcut hv
  by_cases h3 : mj = 3
  · subst h3
    have e3 : ((3 : Int) == 3) = true := rfl
    cases v with
    | false =>
      go_enter Tryz.func33, Tryz.ntmps33
      go_upto_region 1 with fail
      go_wp2_with (first
        | (go_at_call 54; refine HS.mono ?_; rintro r w5 ⟨A5, c5, rfl, h5, hb5⟩; have hcv := hcv0 w5 _ A5 c5 h5.sl; have o05 := o0 _ hb5)
        | (go_at_call 55; refine (hTX _).mono ?_; rintro r w6 ⟨rfl, hb6⟩))
      refine bodyPost_ret (results_tmp3 Tryz.results33 _ _ _) rfl ?_
      refine ⟨?_, (k1.up hb5).up hb6⟩
      rw [← HR0.out]; rfl
    | true =>
      go_enter Tryz.func33, Tryz.ntmps33
      go_upto_region 4 with (first
        | (go_at_call 54; refine HS.mono ?_; rintro r w5 ⟨A5, c5, rfl, h5, hb5⟩; have hcv := hcv0 w5 _ A5 c5 h5.sl; have o05 := o0 _ hb5)
        | (go_at_call 55; refine (hTX _).mono ?_; rintro r w6 ⟨rfl, hb6⟩))
      have k6 := hb5.up hb6
      have hcv6 := hcv0 w6 _ A5 c5 (h5.below hb6).sl
      have hcv7 := hcv0 w6.drew _ A5 c5 (h5.below hb6).sl.drew
      have o26 := o2 _ k6
      go_region
      go_wp2_with fail
      refine bodyPost_ret (results_tmp3 Tryz.results33 _ _ _) rfl ?_
      refine ⟨?_, (k1.up k6).drew⟩
      rw [← HR0.out, ← HSS.out]; rfl
  · have e3 : (mj == 3) = false := by simpa using h3
    go_enter Tryz.func33, Tryz.ntmps33
    go_upto_region 4 with (first
      | (go_at_call 54; refine HS.mono ?_; rintro r w5 ⟨A5, c5, rfl, h5, hb5⟩; have hcv := hcv0 w5 _ A5 c5 h5.sl; have o05 := o0 _ hb5))
    have o25 := o2 _ hb5
    have hcv7 := hcv0 w5.drew _ A5 c5 h5.sl.drew
    go_region
    go_wp2_with fail
    refine bodyPost_ret (results_tmp3 Tryz.results33 _ _ _) rfl ?_
    refine ⟨?_, (k1.up hb5).drew⟩
    rw [← HR0.out, ← HSS.out, if_neg (fun h => h3 h.1)]; rfl
theorem s_l14End (A : Option Addr) (n c : Nat) (b : List UInt8) (q : Nat) (w : World) (B : Nat) (h : Sl w B 1 A n c (u8s b)) (hn : n ≤ 1048576) :
    Calls Tryz.prog 68 #[.slice A n c, .int .i64 q] w fun r w' => r = .returned (.bool (decide (b[q]? = some 255))) ∧ w' = w := by
  have hbl := h.blen
  have q0 : ((q : Int) ≥ 0) := by omega
  by_cases hq : q < n
  · obtain ⟨g, o, rfl, hg, hjl, hc⟩ := h.byte (k := q) (by omega)
    have e : (decide (b[q]? = some 255)) = ((b[q].toNat : Int) == 255) := by
      rw [List.getElem?_eq_getElem (by omega), Bool.eq_iff_iff, decide_eq_true_iff, beq_iff_eq, Option.some.injEq, ← UInt8.toNat_inj]
      simp
      omega
    rw [e]
    generalize (b[q].toNat : Int) = y at hc
    clear e
    go_enter Tryz.func68, Tryz.ntmps68
    go_wp2_with fail
    all_goals
      go_ret
      first | exact ⟨rfl, rfl⟩ | (refine ⟨?_, rfl⟩; simp_all)
  · rw [List.getElem?_eq_none (by omega)]
    go_enter Tryz.func68, Tryz.ntmps68
    go_wp2_with fail
    go_ret
    exact ⟨rfl, rfl⟩
theorem bytes_app (a b : List UInt8) : (⟨a.toArray⟩ : ByteArray) ++ ⟨b.toArray⟩ = ⟨(a ++ b).toArray⟩ := by
  apply ByteArray.ext
  simp
set_option maxHeartbeats 4000000 in
theorem s_l14Parts (A : Option Addr) (n c : Nat) (b : List UInt8) (q : Nat) (mj : Int) (w : World) (B : Nat) (h : Sl w B 1 A n c (u8s b)) (hB : B ≤ w.heap.size) (hn : n ≤ 1048576) (hq : q ≤ n) (hmj : mj = 2 ∨ mj = 3) :
    Calls Tryz.prog 34 #[.slice A n c, .int .i64 q, .int .i64 mj] w fun r w' => r = .returned (strV (partsR b mj (b.length + 1) q [])) ∧ Below w.heap.size w w' := by
  have hbl := h.blen
  obtain ⟨R, hR0⟩ : ∃ R, partsR b mj (b.length + 1) q [] = R := ⟨_, rfl⟩
  rw [hR0]
  have HR0 := Lib.hid hR0
  clear hR0
  go_enter Tryz.func34, Tryz.ntmps34
  go_wp2_with fail
  go_loopg [1, 9, 10, 11, 12, 13, 14] n (fun f' v1 v9 v10 v11 v12 v13 v14 wr => ∃ (q0 fq : Nat) (acc : List UInt8), v1 = .int .i64 q0 ∧ v9 = .string ⟨acc.toArray⟩ ∧ n ≤ q0 + f' ∧ q0 ≤ n ∧ n + 1 ≤ fq + q0 ∧ acc.length ≤ q0 ∧ Hid (partsR b mj fq q0 acc = R) ∧ Below w.heap.size w wr)
  case atStart => exact ⟨q, b.length + 1, [], rfl, rfl, by omega, hq, by omega, by simp, HR0, Below.refl _ _⟩
  case round =>
    obtain ⟨q0, fq, acc, rfl, rfl, hf1, hq0, hfq, hac, hP, hK⟩ := hrel
    clear HR0
    obtain ⟨f0, rfl⟩ : ∃ z, fq = z + 1 := ⟨fq - 1, by omega⟩
    have hP2 := hP.out
    unfold partsR at hP2
    have HM := s_GetHead A n c b q0 wr B (h.below (hK.mono hB)) (Nat.le_trans hB hK.size) hn (by omega)
    obtain ⟨SA, hSA⟩ : ∃ SA, (⟨acc.toArray⟩ : ByteArray) = SA := ⟨_, rfl⟩
    rw [hSA]
    have HSA := Lib.hid hSA
    clear hP hSA
    by_cases hst : b[q0]? = some 255
    · rw [head_stop hst] at HM
      unfold ret5 headRet at HM
      rw [if_pos hst] at hP2
      have HP := Lib.hid hP2
      clear hP2
      go_upto_region 3 with (go_at_call 31; refine HM.mono ?_; rintro r w2 ⟨rfl, hb2⟩)
      have M3 := Blk.new w2 36 #[.int .i64 7, .int .i64 0, .int .i64 (-1)]
      have K3 := (hK.up hb2).up (Below.one w2 (.cells #[.int .i64 7, .int .i64 0, .int .i64 (-1)] 36))
      generalize w2.heap.size = bm at M3 ⊢
      generalize w2.alloc (.cells #[.int .i64 7, .int .i64 0, .int .i64 (-1)] 36) = wb at M3 K3 ⊢
      have e0 := M3.cell 0
      have e2 := M3.cell 2
      simp only [List.getElem?_toArray, List.getElem?_cons_succ, List.getElem?_cons_zero] at e0 e2
      clear HM hb2 hK
      go_wp2_with fail
      refine bodyPost_ret (results_tmp3 Tryz.results34 _ _ _) rfl ?_
      refine ⟨?_, K3⟩
      rw [← HP.out, ← HSA.out]; rfl
    rw [if_neg hst] at hP2
    obtain ⟨⟨m2, n2, w2, nx, cd⟩, hG⟩ : ∃ x, getHead b q0 = x := ⟨_, rfl⟩
    rw [hG] at hP2 HM
    unfold ret5 headRet at HM
    simp only at hP2 HM
    by_cases hcd : cd = 0
    rotate_left
    · rw [if_pos hcd] at hP2
      have HP := Lib.hid hP2
      have hcb : (cd != 0) = true := by simpa using hcd
      clear hP2
      go_upto_region 3 with (go_at_call 31; refine HM.mono ?_; rintro r w3 ⟨rfl, hb2⟩)
      have K3 := (hK.up hb2).up (Below.one w3 (.cells #[.int .i64 m2, .int .i64 n2, .int .i64 w2] 36))
      generalize w3.alloc (.cells #[.int .i64 m2, .int .i64 n2, .int .i64 w2] 36) = wb at K3 ⊢
      clear HM hb2 hK
      go_wp2_with fail
      refine bodyPost_ret (results_tmp3 Tryz.results34 _ _ _) rfl ?_
      refine ⟨?_, K3⟩
      rw [← HP.out]; rfl
    subst hcd
    rw [if_neg (by simp)] at hP2
    have hF := head_facts hG
    rw [Int.toNat_natCast] at hF
    have hns : ¬ (w2 = -1 ∧ m2 = 7) := fun hx => hst (hF.2.2.2.2.2.2.1 hx)
    obtain ⟨nn, rfl⟩ := Int.eq_ofNat_of_zero_le hF.2.2.2.2.1.1
    obtain ⟨xn, rfl⟩ := Int.eq_ofNat_of_zero_le (show 0 ≤ nx by omega)
    simp only [Int.toNat_natCast] at hP2
    by_cases hbad : m2 ≠ mj ∨ w2 = -1
    · rw [if_pos hbad] at hP2
      have HP := Lib.hid hP2
      have hj7 : w2 = -1 → (m2 == 7) = false := fun hx => by simp; exact fun h7 => hns ⟨hx, h7⟩
      clear hP2 hG
      go_upto_region 3 with (go_at_call 31; refine HM.mono ?_; rintro r w3 ⟨rfl, hb2⟩)
      have M3 := Blk.new w3 36 #[.int .i64 m2, .int .i64 nn, .int .i64 w2]
      have K3 := (hK.up hb2).up (Below.one w3 (.cells #[.int .i64 m2, .int .i64 nn, .int .i64 w2] 36))
      generalize w3.heap.size = bm at M3 ⊢
      generalize w3.alloc (.cells #[.int .i64 m2, .int .i64 nn, .int .i64 w2] 36) = wb at M3 K3 ⊢
      have e0 := M3.cell 0
      have e2 := M3.cell 2
      simp only [List.getElem?_toArray, List.getElem?_cons_succ, List.getElem?_cons_zero] at e0 e2
      clear HM hb2 hK
      by_cases hw1 : w2 = -1
      · subst hw1
        have h7 := hj7 rfl
        cases hmm : (m2 != mj) with
        | true =>
          go_wp2_with fail
          refine bodyPost_ret (results_tmp3 Tryz.results34 _ _ _) rfl ?_
          refine ⟨?_, K3⟩
          rw [← HP.out]; rfl
        | false =>
          go_wp2_with fail
          refine bodyPost_ret (results_tmp3 Tryz.results34 _ _ _) rfl ?_
          refine ⟨?_, K3⟩
          rw [← HP.out]; rfl
      · have hw0 : decide (w2 < 0) = false := by simp; omega
        have hmm : (m2 != mj) = true := by simp; omega
        go_wp2_with fail
        refine bodyPost_ret (results_tmp3 Tryz.results34 _ _ _) rfl ?_
        refine ⟨?_, K3⟩
        rw [← HP.out]; rfl
    rw [if_neg hbad] at hP2
    have hme : m2 = mj := by omega
    subst hme
    have hw0 : decide (w2 < 0) = false := by simp; omega
    have hmm : (m2 != m2) = false := by simp
    have hSt := fun w1 hh hBB => s_l14Str A n c b xn nn m2 w2 w1 B hh hBB hn (by omega) (by omega)
    obtain ⟨X, hX⟩ : ∃ X, strR b m2 (nn : Int) xn = X := ⟨_, rfl⟩
    rw [hX] at hP2 hSt
    have hXb : ∀ c0, X = .bad c0 → c0 ≠ 0 := fun c0 he => strR_bad (hX.trans he)
    have hXg : ∀ s q', X = .good s q' → xn ≤ q' ∧ q' ≤ b.length ∧ s.length + xn = q' := fun s q' he => strR_good (hX.trans he)
    clear hX hG
    cases X with
    | bad c0 =>
      have hc0 := hXb c0 rfl
      have hcb : (c0 != 0) = true := by simpa using hc0
      have HP := Lib.hid hP2
      clear hP2 hXb hXg
      unfold strV at hSt
      go_upto_region 3 with (go_at_call 31; refine HM.mono ?_; rintro r w3 ⟨rfl, hb2⟩)
      have M3 := Blk.new w3 36 #[.int .i64 m2, .int .i64 nn, .int .i64 w2]
      have K3 := (hK.up hb2).up (Below.one w3 (.cells #[.int .i64 m2, .int .i64 nn, .int .i64 w2] 36))
      generalize w3.heap.size = bm at M3 ⊢
      generalize w3.alloc (.cells #[.int .i64 m2, .int .i64 nn, .int .i64 w2] 36) = wb at M3 K3 ⊢
      have e0 := M3.cell 0
      have e1 := M3.cell 1
      have e2 := M3.cell 2
      simp only [List.getElem?_toArray, List.getElem?_cons_succ, List.getElem?_cons_zero] at e0 e1 e2
      have hS1 := hSt wb (h.below (K3.mono hB)) (Nat.le_trans hB K3.size)
      clear HM hb2 hK hSt
      go_wp2_with (go_at_call 33; refine hS1.mono ?_; rintro r w5 ⟨rfl, hb5⟩)
      refine bodyPost_ret (results_tmp3 Tryz.results34 _ _ _) rfl ?_
      refine ⟨?_, K3.up hb5⟩
      rw [← HP.out]; rfl
    | good s q' =>
      obtain ⟨hq1, hq2, hq3⟩ := hXg s q' rfl
      have HP : Hid (partsR b m2 f0 q' (acc ++ s) = R) := Lib.hid hP2
      clear hP2 hXb hXg
      unfold strV at hSt
      simp only at hSt
      obtain ⟨f1, rfl⟩ : ∃ z, gk = z + 1 := ⟨gk - 1, by omega⟩
      obtain ⟨SS, hSS⟩ : ∃ SS, (⟨s.toArray⟩ : ByteArray) = SS := ⟨_, rfl⟩
      rw [hSS] at hSt
      have hadd : SA ++ SS = ⟨(acc ++ s).toArray⟩ := by rw [← HSA.out, ← hSS]; exact bytes_app _ _
      have hz1 : SA.size = acc.length := by rw [← HSA.out]; show acc.toArray.size = _; simp
      have hz2 : SS.size = s.length := by rw [← hSS]; show s.toArray.size = _; simp
      obtain ⟨SX, hSX⟩ : ∃ SX, (⟨(acc ++ s).toArray⟩ : ByteArray) = SX := ⟨_, rfl⟩
      rw [hSX] at hadd
      have hcat : ∀ w', (Op.stringOp .add SA SS).run Tryz.prog w' = .ok (.string SX) w' := fun w' => (run_string_add_sum (P := Tryz.prog) (w := w') _ _ (by rw [hz1, hz2]; omega)).trans (by rw [hadd])
      have HSX := Lib.hid hSX
      clear hSS hSX hadd hz1 hz2
      go_upto_region 3 with (go_at_call 31; refine HM.mono ?_; rintro r w3 ⟨rfl, hb2⟩)
      have M3 := Blk.new w3 36 #[.int .i64 m2, .int .i64 nn, .int .i64 w2]
      have K3 := (hK.up hb2).up (Below.one w3 (.cells #[.int .i64 m2, .int .i64 nn, .int .i64 w2] 36))
      generalize w3.heap.size = bm at M3 ⊢
      generalize w3.alloc (.cells #[.int .i64 m2, .int .i64 nn, .int .i64 w2] 36) = wb at M3 K3 ⊢
      have e0 := M3.cell 0
      have e1 := M3.cell 1
      have e2 := M3.cell 2
      simp only [List.getElem?_toArray, List.getElem?_cons_succ, List.getElem?_cons_zero] at e0 e1 e2
      have hS1 := hSt wb (h.below (K3.mono hB)) (Nat.le_trans hB K3.size)
      clear HM hb2 hK hSt
      go_wp2_with (go_at_call 33; refine hS1.mono ?_; rintro r w5 ⟨rfl, hb5⟩)
      go_roundg f1
      case measure => omega
      case rel => exact ⟨q', f0, acc ++ s, rfl, by rw [HSX.out], by omega, by omega, by omega, by rw [List.length_append]; omega, HP, K3.up hb5⟩
end Go.Proofs.YtmelnaidjgpclaaGreatDoor

namespace Go.Proofs.YtmelnaidjgpclaaGreatDoor
open Go.RowKit

def ManyRes (w w' : World) (R : RdL) (r : Ending) : Prop := match R with
  | .good l q => ∃ A n c es, r = .returned (.tuple #[.slice A n c, .int .i64 q, .int .i64 0]) ∧ RV w' w.heap.size A n c l es ∧ Below w.heap.size w w'
  | .bad cd => r = .returned (.tuple #[.slice none 0 0, .int .i64 0, .int .i64 cd]) ∧ Below w.heap.size w w'
def TSays (A : Option Addr) (n c : Nat) (b : List UInt8) (B : Nat) (f : Nat) : Prop :=
  ∀ (i d : Int) (w : World), Sl w B 1 A n c (u8s b) → B ≤ w.heap.size → 2 * (n - i.toNat) + 3 ≤ f → (-9223372036854775808 ≤ i ∧ i ≤ 9223372036854775807) → (-9223372036854775808 ≤ d ∧ d ≤ 9223372036854775807) →
    Calls Tryz.prog 19 #[.slice A n c, .int .i64 i, .int .i64 d] w fun r w' => GetRes w w' (resR (tV b f (capD d) i)).1 (resP (tV b f (capD d) i)) (resR (tV b f (capD d) i)).2 r
theorem capD_low {d : Int} (h : d ≤ 10000) : capD d = d := by unfold capD; rw [if_neg (by omega)]
set_option maxHeartbeats 4000000 in
theorem s_many_def (A : Option Addr) (n c : Nat) (b : List UInt8) (q : Nat) (d : Int) (mn : Nat) (pr : Bool) (w : World) (B : Nat) (h : Sl w B 1 A n c (u8s b)) (hB : B ≤ w.heap.size) (hn : n ≤ 1048576) (hq : q ≤ n) (hd : 1 ≤ d) (hd2 : d ≤ 10000) (hmn : mn ≤ 2000000000000000) (f : Nat) (hf : 2 * (n - q) + 4 ≤ f + 1) (hV : ∀ g, g < f + 1 → TSays A n c b B g) :
    Calls Tryz.prog 36 #[.slice A n c, .int .i64 q, .int .i64 d, .int .i64 mn, .bool pr] w fun r w' => ManyRes w w' (tM b (f + 1) d mn q []) r := by
  have hbl := h.blen
  obtain ⟨R, hR0⟩ : ∃ R, tM b (f + 1) d mn q [] = R := ⟨_, rfl⟩
  rw [hR0]
  have HR0 := Lib.hid hR0
  clear hR0
  have k1 := Below.one w (.cells #[] 28)
  have RV0 := RV.new w w.heap.size rfl
  have hng : decide ((mn : Int) < 0) = false := decide_eq_false (by omega)
  have hng2 : ¬ (mn : Int) < 0 := by omega
  go_enter Tryz.func36, Tryz.ntmps36
  go_upto_region 2 with fail
  generalize w.alloc (.cells #[] 28) = wa at k1 RV0 ⊢
  go_wp2_with fail
  go_loopg [1, 13, 14, 15, 16, 17] mn (fun f' v1 v13 v14 v15 v16 v17 wr => ∃ (j q0 fq c' : Nat) (A' : Option Addr) (acc : List Tr) (es : List El), v1 = .int .i64 q0 ∧ v13 = .slice A' j c' ∧ v14 = .int .i64 j ∧ j + f' = mn ∧ q0 ≤ n ∧ j ≤ q0 ∧ 2 * (n - q0) + 4 ≤ fq ∧ fq ≤ f + 1 ∧ Hid (tM b fq d f' q0 acc = R) ∧ RV wr w.heap.size A' j c' acc es ∧ Below w.heap.size w wr)
  case atStart => exact ⟨0, q, f + 1, 0, _, [], [], rfl, rfl, rfl, by omega, hq, by omega, by omega, Nat.le_refl _, HR0, RV0, k1⟩
  case round =>
    obtain ⟨j, q0, fq, c', A', acc, es, rfl, rfl, rfl, hjf, hq0, hjq, hfq, hfqF, hP, hRV, hK⟩ := hrel
    clear RV0 HR0 k1
    obtain ⟨g0, rfl⟩ : ∃ z, fq = z + 1 := ⟨fq - 1, by omega⟩
    by_cases hlt : j < mn
    · obtain ⟨f0, rfl⟩ : ∃ z, gk = z + 1 := ⟨gk - 1, by omega⟩
      have hk1 : IntKind.i64.wrap (d - 1) = d - 1 := by rw [IntKind.wrap_i64]; omega
      have hji : decide ((j : Int) < (mn : Int)) = true := by simp; omega
      have HV := hV g0 (by omega) q0 (d - 1) wr (h.below (hK.mono hB)) (Nat.le_trans hB hK.size) (by rw [Int.toNat_natCast]; omega) (by omega) (by omega)
      rw [capD_low (by omega)] at HV
      obtain ⟨X, hX⟩ : ∃ X, tV b g0 (d - 1) q0 = X := ⟨_, rfl⟩
      have hP2 := hP.out
      rw [tM] at hP2
      rw [hX] at HV hP2
      have hXg : ∀ v q', X = .good v q' → q0 < q' ∧ q' ≤ n := fun v q' he => by have := ((tVM_good (b := b) (by omega) g0).1 _ _ _ _ (hX.trans he)).2; have h1 := this.lt; have h2 := this.le; rw [Int.toNat_natCast] at h1; omega
      have hXb : ∀ c0, X = .bad c0 → c0 ≠ 0 := fun c0 he => (tVM_bad b g0).1 _ _ _ (hX.trans he)
      clear hX hP hV
      cases X with
      | bad c0 =>
        have hc0 := hXb c0 rfl
        have hcb : (c0 != 0) = true := by simpa using hc0
        have HP := Lib.hid hP2
        simp only [resR, resP] at HV
        clear hP2 hXg hXb
        unfold GetRes at HV
        go_wp2_with (go_at_call 19; refine HV.mono ?_; rintro r w5 ⟨u, rfl, hl5, ho5, hb5⟩)
        go_ret3
        rw [← HP.out]
        exact ⟨rfl, (hK.up hb5).up (Below.one _ _)⟩
      | good v q' =>
        obtain ⟨hqa, hqb⟩ := hXg v q' rfl
        have HP : Hid (tM b g0 d f0 q' (acc ++ [v]) = R) := Lib.hid hP2
        simp only [resR, resP] at HV
        clear hP2 hXg hXb
        unfold GetRes at HV
        have hnm : j + 1 ≤ 1099511627776 := by omega
        go_upto_region 13 with (first
          | (go_at_call 19; refine HV.mono ?_; rintro r w5 ⟨u, rfl, hl5, ho5, hb5⟩; have kx := Below.one w5 (.cells (valCells v u) 28); have kk := hb5.up kx; have K6 := hK.up kk; have V6 := hRV.below kk; have l6 := hl5.below (fun g hg => ho5.lt hg) kx; have o6 := (ho5.below (fun g hg => ho5.lt hg) kx).mono (lo2 := w.heap.size) hK.size; have hdd := hRV.newOwn ho5; have zb5 : w.heap.size ≤ (w5.alloc (.cells (valCells v u) 28)).heap.size := K6.size; obtain ⟨v0, v1, v2, v3, v4⟩ := (Blk.new w5 28 (valCells v u)).boxV)
          | (at_builtin; refine app_val rfl _ _ rfl V6 rfl (by first | rfl | simp) rfl l6 o6 hdd hnm zb5 ?_; intro A3 c3 w7 h7 hb7 hg7))
        have K8 := K6.trans hb7
        clear hRV hK HV hl5 ho5 hb5 kx kk K6 V6 l6 o6 hdd zb5 v0 v1 v2 v3 v4 hb7 hg7
        go_wp2_with fail
        go_roundg f0
        case measure => omega
        case rel => exact ⟨j + 1, q', g0, c3, A3, acc ++ [v], es ++ [u], rfl, rfl, by go_num, by omega, by omega, by omega, by omega, by omega, HP, h7, K8⟩
    · obtain rfl : gk = 0 := by omega
      obtain rfl : j = mn := by omega
      have hP2 := hP.out
      rw [tM] at hP2
      have HP := Lib.hid hP2
      clear hP hP2 hV
      go_wp2_with fail
      go_ret3
      rw [← HP.out]
      exact ⟨A', j, c', es, rfl, hRV, hK⟩
set_option maxHeartbeats 4000000 in
theorem s_many_ind (A : Option Addr) (n c : Nat) (b : List UInt8) (q : Nat) (d : Int) (pr : Bool) (w : World) (B : Nat) (h : Sl w B 1 A n c (u8s b)) (hB : B ≤ w.heap.size) (hn : n ≤ 1048576) (hq : q ≤ n) (hd : 1 ≤ d) (hd2 : d ≤ 10000) (f : Nat) (hf : 2 * (n - q) + 4 ≤ f + 1) (hV : ∀ g, g < f + 1 → TSays A n c b B g) :
    Calls Tryz.prog 36 #[.slice A n c, .int .i64 q, .int .i64 d, .int .i64 (-1), .bool pr] w fun r w' => ManyRes w w' (tI b (f + 1) d pr false q []) r := by
  have hbl := h.blen
  obtain ⟨R, hR0⟩ : ∃ R, tI b (f + 1) d pr false q [] = R := ⟨_, rfl⟩
  rw [hR0]
  have HR0 := Lib.hid hR0
  clear hR0
  have k1 := Below.one w (.cells #[] 28)
  have RV0 := RV.new w w.heap.size rfl
  go_enter Tryz.func36, Tryz.ntmps36
  go_upto_region 2 with fail
  generalize w.alloc (.cells #[] 28) = wa at k1 RV0 ⊢
  go_wp2_with fail
  go_loopg [1, 13, 14, 15, 16, 17] (n + 1) (fun f' v1 v13 v14 v15 v16 v17 wr => ∃ (j q0 fq c' : Nat) (A' : Option Addr) (acc : List Tr) (es : List El), v1 = .int .i64 q0 ∧ v13 = .slice A' j c' ∧ v14 = .int .i64 j ∧ n + 1 ≤ q0 + f' ∧ q0 ≤ n ∧ j ≤ q0 ∧ 2 * (n - q0) + 4 ≤ fq ∧ fq ≤ f + 1 ∧ Hid (tI b fq d pr (decide (j % 2 = 1)) q0 acc = R) ∧ RV wr w.heap.size A' j c' acc es ∧ Below w.heap.size w wr)
  case atStart => exact ⟨0, q, f + 1, 0, _, [], [], rfl, rfl, rfl, by omega, hq, by omega, by omega, Nat.le_refl _, HR0, RV0, k1⟩
  case round =>
    obtain ⟨j, q0, fq, c', A', acc, es, rfl, rfl, rfl, hjf, hq0, hjq, hfq, hfqF, hP, hRV, hK⟩ := hrel
    clear RV0 HR0 k1
    obtain ⟨g0, rfl⟩ : ∃ z, fq = z + 1 := ⟨fq - 1, by omega⟩
    have HE := s_l14End A n c b q0 wr B (h.below (hK.mono hB)) hn
    have hod : ((j : Int) % 2 == 1) = decide (j % 2 = 1) := by rw [Bool.eq_iff_iff]; simp; omega
    have hod2 : (!decide (j % 2 = 1)) = decide ((j + 1) % 2 = 1) := by rw [Bool.eq_iff_iff]; simp; omega
    have hjf2 := hjf
    by_cases hlt : b[q0]? ≠ some 255
    · obtain ⟨f0, rfl⟩ : ∃ z, gk = z + 1 := ⟨gk - 1, by omega⟩
      have hk1 : IntKind.i64.wrap (d - 1) = d - 1 := by rw [IntKind.wrap_i64]; omega
      have HV := hV g0 (by omega) q0 (d - 1) wr (h.below (hK.mono hB)) (Nat.le_trans hB hK.size) (by rw [Int.toNat_natCast]; omega) (by omega) (by omega)
      rw [capD_low (by omega)] at HV
      obtain ⟨X, hX⟩ : ∃ X, tV b g0 (d - 1) q0 = X := ⟨_, rfl⟩
      have hP2 := hP.out
      rw [tI, if_neg hlt, hod2] at hP2
      rw [decide_eq_false hlt] at HE
      rw [hX] at HV hP2
      have hXg : ∀ v q', X = .good v q' → q0 < q' ∧ q' ≤ n := fun v q' he => by have := ((tVM_good (b := b) (by omega) g0).1 _ _ _ _ (hX.trans he)).2; have h1 := this.lt; have h2 := this.le; rw [Int.toNat_natCast] at h1; omega
      have hXb : ∀ c0, X = .bad c0 → c0 ≠ 0 := fun c0 he => (tVM_bad b g0).1 _ _ _ (hX.trans he)
      clear hX hP hV
      cases X with
      | bad c0 =>
        have hc0 := hXb c0 rfl
        have hcb : (c0 != 0) = true := by simpa using hc0
        have HP := Lib.hid hP2
        simp only [resR, resP] at HV
        clear hP2 hXg hXb
        unfold GetRes at HV
        go_wp2_with (first | (go_at_call 68; refine HE.mono ?_; rintro r w4 ⟨rfl, rfl⟩) | (go_at_call 19; refine HV.mono ?_; rintro r w5 ⟨u, rfl, hl5, ho5, hb5⟩))
        go_ret3
        rw [← HP.out]
        exact ⟨rfl, (hK.up hb5).up (Below.one _ _)⟩
      | good v q' =>
        obtain ⟨hqa, hqb⟩ := hXg v q' rfl
        have HP : Hid (tI b g0 d pr (decide ((j + 1) % 2 = 1)) q' (acc ++ [v]) = R) := Lib.hid hP2
        simp only [resR, resP] at HV
        clear hP2 hXg hXb
        unfold GetRes at HV
        have hnm : j + 1 ≤ 1099511627776 := by omega
        go_upto_region 13 with (first
          | (go_at_call 68; refine HE.mono ?_; rintro r w4 ⟨rfl, rfl⟩)
          | (go_at_call 19; refine HV.mono ?_; rintro r w5 ⟨u, rfl, hl5, ho5, hb5⟩; have kx := Below.one w5 (.cells (valCells v u) 28); have kk := hb5.up kx; have K6 := hK.up kk; have V6 := hRV.below kk; have l6 := hl5.below (fun g hg => ho5.lt hg) kx; have o6 := (ho5.below (fun g hg => ho5.lt hg) kx).mono (lo2 := w.heap.size) hK.size; have hdd := hRV.newOwn ho5; have zb5 : w.heap.size ≤ (w5.alloc (.cells (valCells v u) 28)).heap.size := K6.size; obtain ⟨v0, v1, v2, v3, v4⟩ := (Blk.new w5 28 (valCells v u)).boxV)
          | (at_builtin; refine app_val rfl _ _ rfl V6 rfl (by first | rfl | simp) rfl l6 o6 hdd hnm zb5 ?_; intro A3 c3 w7 h7 hb7 hg7))
        have K8 := K6.trans hb7
        clear hRV hK HV hl5 ho5 hb5 kx kk K6 V6 l6 o6 hdd zb5 v0 v1 v2 v3 v4 hb7 hg7
        go_wp2_with fail
        go_roundg f0
        case measure => omega
        case rel => exact ⟨j + 1, q', g0, c3, A3, acc ++ [v], es ++ [u], rfl, rfl, by go_num, by omega, by omega, by omega, by omega, by omega, HP, h7, K8⟩
    · have hlt2 : b[q0]? = some 255 := Classical.not_not.1 hlt
      have hP2 := hP.out
      rw [tI, if_pos hlt2] at hP2
      rw [decide_eq_true hlt2] at HE
      clear hP hV hod2
      have hwq : IntKind.i64.wrap ((q0 : Int) + 1) = ((q0 + 1 : Nat) : Int) := by rw [IntKind.wrap_i64]; omega
      generalize decide (j % 2 = 1) = od at hP2 hod
      by_cases hpo : pr = true ∧ od = true
      · obtain ⟨rfl, rfl⟩ := hpo
        rw [if_pos ⟨rfl, rfl⟩] at hP2
        have HP := Lib.hid hP2
        clear hP2
        go_wp2_with (go_at_call 68; refine HE.mono ?_; rintro r w4 ⟨rfl, rfl⟩)
        go_ret3
        rw [← HP.out]
        exact ⟨rfl, hK⟩
      · rw [if_neg hpo] at hP2
        have HP := Lib.hid hP2
        clear hP2
        have hfin : ManyRes w wr R (.returned (.tuple #[.slice A' j c', .int .i64 ((q0 + 1 : Nat) : Int), .int .i64 0])) := by
          rw [← HP.out]; exact ⟨A', j, c', es, rfl, hRV, hK⟩
        clear HP
        cases pr with
        | false =>
          go_wp2_with (go_at_call 68; refine HE.mono ?_; rintro r w4 ⟨rfl, rfl⟩)
          go_ret3
          exact hfin
        | true =>
          obtain rfl : od = false := by cases od with
            | false => rfl
            | true => exact absurd ⟨rfl, rfl⟩ hpo
          go_wp2_with (go_at_call 68; refine HE.mono ?_; rintro r w4 ⟨rfl, rfl⟩)
          go_ret3
          exact hfin
end Go.Proofs.YtmelnaidjgpclaaGreatDoor

namespace Go.Proofs.YtmelnaidjgpclaaGreatDoor
open Go.RowKit

set_option maxHeartbeats 4000000 in
theorem s_l14Simple (mj n wd : Int) (q : Nat) (w : World) (hn : 0 ≤ n ∧ n ≤ 1000000000000000) :
    Calls Tryz.prog 35 #[.agg #[.int .i64 mj, .int .i64 n, .int .i64 wd]] w fun r w' => r = .returned (.tuple #[trV (resR (simpR n wd q)).1 ⟨none, 0, 0, []⟩, .int .i64 (resR (simpR n wd q)).2]) ∧ Below w.heap.size w w' := by
  have k3 := Below.three w (.cells #[.int .i64 mj, .int .i64 n, .int .i64 wd] 36) (.cells #[.int .i64 0, .int .i64 0, .int .i64 0, .string ⟨#[]⟩, .slice none 0 0] 28) (.cells #[.int .i64 0, .int .i64 0, .int .i64 0, .string ⟨#[]⟩, .slice none 0 0] 28)
  have hH : Blk (((w.alloc (.cells #[.int .i64 mj, .int .i64 n, .int .i64 wd] 36)).alloc (.cells #[.int .i64 0, .int .i64 0, .int .i64 0, .string ⟨#[]⟩, .slice none 0 0] 28)).alloc (.cells #[.int .i64 0, .int .i64 0, .int .i64 0, .string ⟨#[]⟩, .slice none 0 0] 28)) w.heap.size 36 #[.int .i64 mj, .int .i64 n, .int .i64 wd] := Blk.alloc (Blk.alloc (Blk.new w _ _) _) _
  have hR : Blk (((w.alloc (.cells #[.int .i64 mj, .int .i64 n, .int .i64 wd] 36)).alloc (.cells #[.int .i64 0, .int .i64 0, .int .i64 0, .string ⟨#[]⟩, .slice none 0 0] 28)).alloc (.cells #[.int .i64 0, .int .i64 0, .int .i64 0, .string ⟨#[]⟩, .slice none 0 0] 28)) (w.heap.size + 1) 28 #[.int .i64 0, .int .i64 0, .int .i64 0, .string ⟨#[]⟩, .slice none 0 0] := by
    simpa using Blk.alloc (Blk.new (w.alloc (.cells #[.int .i64 mj, .int .i64 n, .int .i64 wd] 36)) 28 #[.int .i64 0, .int .i64 0, .int .i64 0, .string ⟨#[]⟩, .slice none 0 0]) (.cells #[.int .i64 0, .int .i64 0, .int .i64 0, .string ⟨#[]⟩, .slice none 0 0] 28)
  have hN : Blk (((w.alloc (.cells #[.int .i64 mj, .int .i64 n, .int .i64 wd] 36)).alloc (.cells #[.int .i64 0, .int .i64 0, .int .i64 0, .string ⟨#[]⟩, .slice none 0 0] 28)).alloc (.cells #[.int .i64 0, .int .i64 0, .int .i64 0, .string ⟨#[]⟩, .slice none 0 0] 28)) (w.heap.size + 2) 28 #[.int .i64 0, .int .i64 0, .int .i64 0, .string ⟨#[]⟩, .slice none 0 0] := by
    simpa using Blk.new ((w.alloc (.cells #[.int .i64 mj, .int .i64 n, .int .i64 wd] 36)).alloc (.cells #[.int .i64 0, .int .i64 0, .int .i64 0, .string ⟨#[]⟩, .slice none 0 0] 28)) 28 #[.int .i64 0, .int .i64 0, .int .i64 0, .string ⟨#[]⟩, .slice none 0 0]
  obtain ⟨R, hR0⟩ : ∃ R, simpR n wd q = R := ⟨_, rfl⟩
  rw [hR0]
  unfold simpR at hR0
  go_enter Tryz.func35, Tryz.ntmps35
  go_upto_region 2 with fail
  generalize ((w.alloc (.cells #[.int .i64 mj, .int .i64 n, .int .i64 wd] 36)).alloc (.cells #[.int .i64 0, .int .i64 0, .int .i64 0, .string ⟨#[]⟩, .slice none 0 0] 28)).alloc (.cells #[.int .i64 0, .int .i64 0, .int .i64 0, .string ⟨#[]⟩, .slice none 0 0] 28) = wa at k3 hH hR hN ⊢
  have e1 := hH.cell 1
  have e2 := hH.cell 2
  have b0 := hN.cell 0
  have b1 := hN.cell 1
  have b2 := hN.cell 2
  have b3 := hN.cell 3
  have b4 := hN.cell 4
  simp only [List.getElem?_toArray, List.getElem?_cons_succ, List.getElem?_cons_zero] at e1 e2 b0 b1 b2 b3 b4
  have fin : ∀ (t : Tr) (cd : Int) (wX : World) (tm : Array Value), Blk wX (w.heap.size + 1) 28 #[.int .i64 0, .int .i64 0, .int .i64 0, .string ⟨#[]⟩, .slice none 0 0] → Below w.heap.size w wX → tm.getD 2 undef = .pointer (some ⟨w.heap.size + 1, 0, none⟩) → tm.getD 3 undef = .int .i64 cd → t.l = [] → (t, cd) = resR R →
      bodyPost Tryz.prog Tryz.f35 (fun r w' => r = .returned (.tuple #[trV (resR R).1 ⟨none, 0, 0, []⟩, .int .i64 (resR R).2]) ∧ Below w.heap.size w w') .ret ⟨tm, []⟩ (set5 wX (w.heap.size + 1) 0 t ⟨none, 0, 0, []⟩) := by
    intro t cd wX tm hB hK hp h3 hl hRR
    have hblk : Blk (set5 wX (w.heap.size + 1) 0 t ⟨none, 0, 0, []⟩) (w.heap.size + 1) 28 _ := Blk.five_ hB t ⟨none, 0, 0, []⟩
    have hres := results_blk2 (P := Tryz.prog) (tmps := tm) Tryz.results35 Tryz.isAgg28 (by exact Tryz.sizeOf28) hp hblk
    refine bodyPost_ret hres rfl ?_
    rw [← hRR, h3]
    exact ⟨rfl, below_set5 hK (Nat.le_succ _)⟩
  by_cases w0 : wd = 0
  · subst w0
    by_cases n20 : n = 20
    · subst n20
      have HR0 := Lib.hid hR0
      clear hR0
      obtain ⟨x0, x1, x2, x3, x4, ⟨s0, t0⟩, ⟨s1, t1⟩, ⟨s2, t2⟩, ⟨s3, t3⟩, s4, t4⟩ := hR.five (o := 0) (by simp) (.int .i64 (leafTr 2 0 0 ⟨#[]⟩).k) (.int .i64 (leafTr 2 0 0 ⟨#[]⟩).n) (.int .i64 (leafTr 2 0 0 ⟨#[]⟩).x) (.string (leafTr 2 0 0 ⟨#[]⟩).s)
      simp only [leafTr, zeroT] at s0 s1 s2 s3 s4 t0 t1 t2 t3 t4
      go_wp2_with fail
      exact fin (leafTr 2 0 0 ⟨#[]⟩) 0 wa _ hR k3 rfl rfl rfl (by rw [← HR0.out]; rfl)
    by_cases n21 : n = 21
    · subst n21
      have HR0 := Lib.hid hR0
      clear hR0
      obtain ⟨x0, x1, x2, x3, x4, ⟨s0, t0⟩, ⟨s1, t1⟩, ⟨s2, t2⟩, ⟨s3, t3⟩, s4, t4⟩ := hR.five (o := 0) (by simp) (.int .i64 (leafTr 2 1 0 ⟨#[]⟩).k) (.int .i64 (leafTr 2 1 0 ⟨#[]⟩).n) (.int .i64 (leafTr 2 1 0 ⟨#[]⟩).x) (.string (leafTr 2 1 0 ⟨#[]⟩).s)
      simp only [leafTr, zeroT] at s0 s1 s2 s3 s4 t0 t1 t2 t3 t4
      go_wp2_with fail
      exact fin (leafTr 2 1 0 ⟨#[]⟩) 0 wa _ hR k3 rfl rfl rfl (by rw [← HR0.out]; rfl)
    by_cases n22 : n = 22
    · subst n22
      have HR0 := Lib.hid hR0
      clear hR0
      obtain ⟨x0, x1, x2, x3, x4, ⟨s0, t0⟩, ⟨s1, t1⟩, ⟨s2, t2⟩, ⟨s3, t3⟩, s4, t4⟩ := hR.five (o := 0) (by simp) (.int .i64 (leafTr 1 0 0 ⟨#[]⟩).k) (.int .i64 (leafTr 1 0 0 ⟨#[]⟩).n) (.int .i64 (leafTr 1 0 0 ⟨#[]⟩).x) (.string (leafTr 1 0 0 ⟨#[]⟩).s)
      simp only [leafTr, zeroT] at s0 s1 s2 s3 s4 t0 t1 t2 t3 t4
      go_wp2_with fail
      exact fin (leafTr 1 0 0 ⟨#[]⟩) 0 wa _ hR k3 rfl rfl rfl (by rw [← HR0.out]; rfl)
    have p0 : (n == 20) = false := by simpa using n20
    have p1 : (n == 21) = false := by simpa using n21
    have p2 : (n == 22) = false := by simpa using n22
    rw [if_neg (by omega), if_neg (by omega), if_neg (by omega), if_neg (by omega)] at hR0
    have HR0 := Lib.hid hR0
    clear hR0
    obtain ⟨x0, x1, x2, x3, x4, ⟨s0, t0⟩, ⟨s1, t1⟩, ⟨s2, t2⟩, ⟨s3, t3⟩, s4, t4⟩ := hR.five (o := 0) (by simp) (.int .i64 (zeroT).k) (.int .i64 (zeroT).n) (.int .i64 (zeroT).x) (.string (zeroT).s)
    simp only [leafTr, zeroT] at s0 s1 s2 s3 s4 t0 t1 t2 t3 t4
    go_wp2_with fail
    exact fin (zeroT) 1 wa _ hR k3 rfl rfl rfl (by rw [← HR0.out]; rfl)
  have q0 : (wd == 0) = false := by simpa using w0
  rw [if_neg (by omega), if_neg (by omega)] at hR0
  by_cases w1 : wd = 1
  · subst w1
    have HL := fun w1 => s_l1In n 32 34 w1
    by_cases hr : 32 ≤ n ∧ n ≤ 34
    · rw [inR_yes hr.1 hr.2] at HL
      rw [if_pos ⟨rfl, hr.1, hr.2⟩] at hR0
      have hwn : IntKind.i64.wrap (n - 32) = n - 32 := by rw [IntKind.wrap_i64]; omega
      have HR0 := Lib.hid hR0
      clear hR0
      obtain ⟨x0, x1, x2, x3, x4, ⟨s0, t0⟩, ⟨s1, t1⟩, ⟨s2, t2⟩, ⟨s3, t3⟩, s4, t4⟩ := hR.five (o := 0) (by simp) (.int .i64 (leafTr 5 (n - 32) 0 ⟨#[]⟩).k) (.int .i64 (leafTr 5 (n - 32) 0 ⟨#[]⟩).n) (.int .i64 (leafTr 5 (n - 32) 0 ⟨#[]⟩).x) (.string (leafTr 5 (n - 32) 0 ⟨#[]⟩).s)
      simp only [leafTr, zeroT] at s0 s1 s2 s3 s4 t0 t1 t2 t3 t4
      go_wp2_with (go_at_call 40; refine (HL _).mono ?_; rintro r w5 ⟨rfl, rfl⟩)
      exact fin (leafTr 5 (n - 32) 0 ⟨#[]⟩) 0 _ _ hR k3 rfl rfl rfl (by rw [← HR0.out]; rfl)
    · rw [inR_no (by omega)] at HL
      rw [if_neg (by omega), if_neg (by omega)] at hR0
      have HR0 := Lib.hid hR0
      clear hR0
      obtain ⟨x0, x1, x2, x3, x4, ⟨s0, t0⟩, ⟨s1, t1⟩, ⟨s2, t2⟩, ⟨s3, t3⟩, s4, t4⟩ := hR.five (o := 0) (by simp) (.int .i64 (zeroT).k) (.int .i64 (zeroT).n) (.int .i64 (zeroT).x) (.string (zeroT).s)
      simp only [leafTr, zeroT] at s0 s1 s2 s3 s4 t0 t1 t2 t3 t4
      go_wp2_with (go_at_call 40; refine (HL _).mono ?_; rintro r w5 ⟨rfl, rfl⟩)
      exact fin (zeroT) 1 _ _ hR k3 rfl rfl rfl (by rw [← HR0.out]; rfl)
  have q1 : (wd == 1) = false := by simpa using w1
  rw [if_neg (by omega)] at hR0
  by_cases w4 : wd = 4
  · subst w4
    obtain ⟨a, e, ok, hf⟩ := bitsFltV_shape n
    rw [hf, fltOf_fltV] at hR0
    have HB := s_BitsFlt n wa
    rw [hf] at HB
    unfold fltV at HB
    clear hf
    have BZ : ∀ w1, Below wa.heap.size wa w1 → Blk w1 (w.heap.size + 1) 28 #[.int .i64 0, .int .i64 0, .int .i64 0, .string ⟨#[]⟩, .slice none 0 0] := fun w1 hb => hR.below hb hR.lt
    cases ok with
    | true =>
      have HL := fun w1 => s_l6FltVal a e w1
      have HR0 := Lib.hid hR0
      clear hR0
      obtain ⟨T, hT⟩ : ∃ T, leafTr 4 a e ⟨#[]⟩ = T := ⟨_, rfl⟩
      rw [hT] at HL
      have HT := Lib.hid hT
      clear hT
      go_wp2_with (first
        | (go_at_call 52; refine HB.mono ?_; rintro r w5 ⟨rfl, hb5⟩; have kf := hb5.up (Below.one w5 (.cells #[.int .i64 a, .int .i64 e] 51)))
        | (go_at_call 53; refine (HL _).mono ?_; rintro r w6 ⟨rfl, hb6⟩; have kk := kf.up hb6; have V6 := BZ _ kk; obtain ⟨x0, x1, x2, x3, x4, ⟨s0, t0⟩, ⟨s1, t1⟩, ⟨s2, t2⟩, ⟨s3, t3⟩, s4, t4⟩ := V6.five (o := 0) (by simp) (.int .i64 T.k) (.int .i64 T.n) (.int .i64 T.x) (.string T.s)))
      exact fin T 0 w6 _ V6 (k3.up kk) rfl rfl (by rw [← HT.out]; rfl) (by rw [← HR0.out, ← HT.out]; rfl)
    | false =>
      have HR0 := Lib.hid hR0
      clear hR0
      go_wp2_with (go_at_call 52; refine HB.mono ?_; rintro r w5 ⟨rfl, hb5⟩; have kf := hb5.up (Below.one w5 (.cells #[.int .i64 a, .int .i64 e] 51)); have V6 := BZ _ kf; have N6 := hN.below kf hN.lt; have c0 := N6.cell 0; have c1 := N6.cell 1; have c2 := N6.cell 2; have c3 := N6.cell 3; have c4 := N6.cell 4; simp only [List.getElem?_toArray, List.getElem?_cons_succ, List.getElem?_cons_zero] at c0 c1 c2 c3 c4; obtain ⟨x0, x1, x2, x3, x4, ⟨s0, t0⟩, ⟨s1, t1⟩, ⟨s2, t2⟩, ⟨s3, t3⟩, s4, t4⟩ := V6.five (o := 0) (by simp) (.int .i64 0) (.int .i64 0) (.int .i64 0) (.string ⟨#[]⟩))
      exact fin zeroT 1 _ _ V6 (k3.up kf) rfl rfl rfl (by rw [← HR0.out]; rfl)
  have q4 : (wd == 4) = false := by simpa using w4
  rw [if_neg (by omega)] at hR0
  have HR0 := Lib.hid hR0
  clear hR0
  obtain ⟨x0, x1, x2, x3, x4, ⟨s0, t0⟩, ⟨s1, t1⟩, ⟨s2, t2⟩, ⟨s3, t3⟩, s4, t4⟩ := hR.five (o := 0) (by simp) (.int .i64 (zeroT).k) (.int .i64 (zeroT).n) (.int .i64 (zeroT).x) (.string (zeroT).s)
  simp only [leafTr, zeroT] at s0 s1 s2 s3 s4 t0 t1 t2 t3 t4
  go_wp2_with fail
  exact fin (zeroT) 1 wa _ hR k3 rfl rfl rfl (by rw [← HR0.out]; rfl)
end Go.Proofs.YtmelnaidjgpclaaGreatDoor
