/- GetHead: impl and spec. -/
import Derived.Test.YtmelnaidjgpclaaGreatDoorBig
set_option linter.unusedVariables false
set_option maxRecDepth 100000
set_option linter.unusedSimpArgs false
namespace Go.Proofs.YtmelnaidjgpclaaGreatDoor
open Go.RowKit

def headRet (mj n wd e c : Int) : Value := .tuple #[.agg #[.int .i64 mj, .int .i64 n, .int .i64 wd], .int .i64 e, .int .i64 c]
/-- What the byte c at i begins, read on. -/
def getHeadB (b : List UInt8) (i : Int) (c : Nat) : Int × Int × Int × Int × Int :=
  if c % 32 < 24 then ((c / 32 : Nat), (c % 32 : Nat), 0, i + 1, 0)
  else if c % 32 = 31 then (if headOk (c / 32 : Nat) 0 (-1) = true then ((c / 32 : Nat), 0, -1, i + 1, 0) else (0, 0, 0, 0, 1))
  else if 27 < c % 32 ∨ ((b.length : Int) - i - 1 < 2 ^ (c % 32 - 24)) then (0, 0, 0, 0, 1)
  else if (getBig b (i + 1) (2 ^ (c % 32 - 24))).2 = true then ((c / 32 : Nat), (getBig b (i + 1) (2 ^ (c % 32 - 24))).1, 2 ^ (c % 32 - 24), i + 1 + 2 ^ (c % 32 - 24), 0) else (0, 0, 0, 0, 2)
def getHead (b : List UInt8) (i : Int) : Int × Int × Int × Int × Int :=
  if 0 ≤ i ∧ i < b.length then getHeadB b i ((b[i.toNat]?).getD 0).toNat else (0, 0, 0, 0, 1)
def ret5 (x : Int × Int × Int × Int × Int) : Value := headRet x.1 x.2.1 x.2.2.1 x.2.2.2.1 x.2.2.2.2
theorem getHead_in {b : List UInt8} {j : Nat} (h : j < b.length) : getHead b j = getHeadB b j b[j].toNat := by
  unfold getHead; rw [if_pos (by omega)]; simp [h]
theorem ret5_eq {x : Int × Int × Int × Int × Int} {a b c d e : Int} (h : x = (a, b, c, d, e)) : ret5 x = headRet a b c d e := by subst h; rfl
section
variable {b : List UInt8} {i : Int} {k : Nat}
theorem gh_low (h : k % 32 < 24) : ret5 (getHeadB b i k) = headRet ((k : Int) / 32) ((k : Int) % 32) 0 (i + 1) 0 :=
  ret5_eq (by unfold getHeadB; rw [if_pos h]; simp)
theorem gh_ind (h : k % 32 = 31) (h2 : headOk ((k : Int) / 32) 0 (-1) = true) : ret5 (getHeadB b i k) = headRet ((k : Int) / 32) 0 (-1) (i + 1) 0 :=
  ret5_eq (by unfold getHeadB; rw [if_neg (by omega), if_pos h, if_pos (by simpa using h2)]; simp)
theorem gh_ind_no (h : k % 32 = 31) (h2 : headOk ((k : Int) / 32) 0 (-1) = false) : ret5 (getHeadB b i k) = headRet 0 0 0 0 1 :=
  ret5_eq (by unfold getHeadB; rw [if_neg (by omega), if_pos h, if_neg (by simpa using h2)])
theorem gh_mid (h : 27 < k % 32) (h2 : k % 32 ≠ 31) : ret5 (getHeadB b i k) = headRet 0 0 0 0 1 :=
  ret5_eq (by unfold getHeadB; rw [if_neg (by omega), if_neg h2, if_pos (Or.inl h)])
theorem gh_short {v : Nat} (h : 24 ≤ k % 32) (h2 : k % 32 ≤ 27) (hv : v = 2 ^ (k % 32 - 24)) (h3 : (b.length : Int) - i - 1 < v) : ret5 (getHeadB b i k) = headRet 0 0 0 0 1 :=
  ret5_eq (by unfold getHeadB; rw [if_neg (by omega), if_neg (by omega), if_pos (Or.inr (by rw [hv] at h3; simpa using h3))])
theorem gh_big {v : Nat} (h : 24 ≤ k % 32) (h2 : k % 32 ≤ 27) (hv : v = 2 ^ (k % 32 - 24)) (h3 : ¬ (b.length : Int) - i - 1 < v) (h4 : (getBig b (i + 1) v).2 = false) : ret5 (getHeadB b i k) = headRet 0 0 0 0 2 := by
  have e : ((v : Nat) : Int) = 2 ^ (k % 32 - 24) := by rw [hv]; simp
  exact ret5_eq (by unfold getHeadB; rw [if_neg (by omega), if_neg (by omega), if_neg (by rw [← e]; omega), ← e, h4]; rfl)
theorem gh_all {v : Nat} (h : 24 ≤ k % 32) (h2 : k % 32 ≤ 27) (hv : v = 2 ^ (k % 32 - 24)) (h3 : ¬ (b.length : Int) - i - 1 < v) (h4 : (getBig b (i + 1) v).2 = true) : ret5 (getHeadB b i k) = headRet ((k : Int) / 32) (getBig b (i + 1) v).1 v (i + 1 + v) 0 := by
  have e : ((v : Nat) : Int) = 2 ^ (k % 32 - 24) := by rw [hv]; simp
  exact ret5_eq (by unfold getHeadB; rw [if_neg (by omega), if_neg (by omega), if_neg (by rw [← e]; omega), ← e, h4]; simp)
end
theorem getHead_out {b : List UInt8} {i : Int} (h : ¬ (0 ≤ i ∧ i < b.length)) : ret5 (getHead b i) = headRet 0 0 0 0 1 := ret5_eq (by unfold getHead; rw [if_neg h])
theorem getBig_bd (b : List UInt8) (i w : Int) : 0 ≤ (getBig b i w).1 ∧ (getBig b i w).1 ≤ 1000000000000000 := by
  unfold getBig; split
  · exact ⟨by simp, by simp; omega⟩
  · simp
set_option maxHeartbeats 1000000 in
theorem i_GetHead_low (m c : Nat) (b : List UInt8) (j g o k : Nat) (w : World) (B : Nat) (hs : Sl w B 1 (some ⟨g, o, none⟩) m c (u8s b)) (hB : B ≤ w.heap.size) (hg : g < B) (hm : m ≤ 1048576) (hj : j < m) (hc : w.cell? ⟨g, o + j, none⟩ = some (.int .u8 (k : Int))) (hk : k < 256) (H1 : k % 32 < 24) :
    Calls Tryz.prog 111 #[.slice (some ⟨g, o, none⟩) m c, .int .i64 j] w fun e w' => e = .returned (headRet ((k : Int) / 32) ((k : Int) % 32) 0 (j + 1) 0) ∧ Below w.heap.size w w' := by
  have hl := hs.blen
  have hgw : g < w.heap.size := by omega
  have hcA : ∀ x, (w.alloc x).cell? ⟨g, o + j, none⟩ = some (.int .u8 (k : Int)) := fun x => (World.cell?_alloc_lt w x _ (by exact hgw)).trans hc
  have hcB : ∀ x y, ((w.alloc x).alloc y).cell? ⟨g, o + j, none⟩ = some (.int .u8 (k : Int)) := fun x y => (World.cell?_alloc_lt _ y _ (by simp; omega)).trans (hcA x)
  have r1 : inR (j : Int) 0 (m - 1) = true := inR_yes (by omega) (by omega)
  go_enter Tryz.func111, Tryz.ntmps111
  go_wp2_with (go_at_call 85; refine (i_within _ _ _ _).mono ?_; rintro e w' ⟨rfl, rfl⟩)
  go_region
  go_wp2_with fail
  exact bodyPost_ret (results_blk3 Tryz.results111 Tryz.isAgg36 (by exact Tryz.sizeOf36) rfl (Blk.alloc (Blk.new w _ _) _)) rfl ⟨rfl, (Below.two _ _ _).drew⟩
set_option maxHeartbeats 1000000 in
theorem i_GetHead_ind (m c : Nat) (b : List UInt8) (j g o k : Nat) (w : World) (B : Nat) (hs : Sl w B 1 (some ⟨g, o, none⟩) m c (u8s b)) (hB : B ≤ w.heap.size) (hg : g < B) (hm : m ≤ 1048576) (hj : j < m) (hc : w.cell? ⟨g, o + j, none⟩ = some (.int .u8 (k : Int))) (hk : k < 256) (e31 : (k : Int) % 32 = 31) (H2 : headOk ((k : Int) / 32) 0 (-1) = true) :
    Calls Tryz.prog 111 #[.slice (some ⟨g, o, none⟩) m c, .int .i64 j] w fun e w' => e = .returned (headRet ((k : Int) / 32) 0 (-1) (j + 1) 0) ∧ Below w.heap.size w w' := by
  have hl := hs.blen
  have hgw : g < w.heap.size := by omega
  have hcA : ∀ x, (w.alloc x).cell? ⟨g, o + j, none⟩ = some (.int .u8 (k : Int)) := fun x => (World.cell?_alloc_lt w x _ (by exact hgw)).trans hc
  have hcB : ∀ x y, ((w.alloc x).alloc y).cell? ⟨g, o + j, none⟩ = some (.int .u8 (k : Int)) := fun x y => (World.cell?_alloc_lt _ y _ (by simp; omega)).trans (hcA x)
  have r1 : inR (j : Int) 0 (m - 1) = true := inR_yes (by omega) (by omega)
  go_enter Tryz.func111, Tryz.ntmps111
  go_wp2_with (go_at_call 85; refine (i_within _ _ _ _).mono ?_; rintro e w' ⟨rfl, rfl⟩)
  go_region
  go_wp2_with (go_at_call 119; refine (i_HeadOk _ _ _ _ (by decide)).mono ?_; rintro e w1 ⟨rfl, hb1⟩; obtain ⟨hc1, hf1⟩ := bcell hb1; have hz1 : w.heap.size + 1 < w1.heap.size := by have := hb1.size; simp at this; omega)
  have hblk := Blk.three (w := w1) (g := w.heap.size) (t := 36) ((Blk.alloc (Blk.new w _ _) _).drew.below hb1 (by simp <;> omega)) (.int .i64 ((k : Int) / 32)) (.int .i64 0) (.int .i64 (-1))
  exact bodyPost_ret (results_blk3 Tryz.results111 Tryz.isAgg36 (by exact Tryz.sizeOf36) rfl hblk) rfl ⟨rfl, (((((Below.two _ _ _).drew.up hb1).setCell (by simp <;> omega) _).setCell (by simp <;> omega) _).setCell (by simp <;> omega) _)⟩
set_option maxHeartbeats 1000000 in
theorem i_GetHead_ino (m c : Nat) (b : List UInt8) (j g o k : Nat) (w : World) (B : Nat) (hs : Sl w B 1 (some ⟨g, o, none⟩) m c (u8s b)) (hB : B ≤ w.heap.size) (hg : g < B) (hm : m ≤ 1048576) (hj : j < m) (hc : w.cell? ⟨g, o + j, none⟩ = some (.int .u8 (k : Int))) (hk : k < 256) (e31 : (k : Int) % 32 = 31) (H2 : headOk ((k : Int) / 32) 0 (-1) = false) :
    Calls Tryz.prog 111 #[.slice (some ⟨g, o, none⟩) m c, .int .i64 j] w fun e w' => e = .returned (headRet 0 0 0 0 1) ∧ Below w.heap.size w w' := by
  have hl := hs.blen
  have hgw : g < w.heap.size := by omega
  have hcA : ∀ x, (w.alloc x).cell? ⟨g, o + j, none⟩ = some (.int .u8 (k : Int)) := fun x => (World.cell?_alloc_lt w x _ (by exact hgw)).trans hc
  have hcB : ∀ x y, ((w.alloc x).alloc y).cell? ⟨g, o + j, none⟩ = some (.int .u8 (k : Int)) := fun x y => (World.cell?_alloc_lt _ y _ (by simp; omega)).trans (hcA x)
  have r1 : inR (j : Int) 0 (m - 1) = true := inR_yes (by omega) (by omega)
  go_enter Tryz.func111, Tryz.ntmps111
  go_wp2_with (go_at_call 85; refine (i_within _ _ _ _).mono ?_; rintro e w' ⟨rfl, rfl⟩)
  go_region
  go_wp2_with (go_at_call 119; refine (i_HeadOk _ _ _ _ (by decide)).mono ?_; rintro e w1 ⟨rfl, hb1⟩; obtain ⟨hc1, hf1⟩ := bcell hb1; have hz1 : w.heap.size + 1 < w1.heap.size := by have := hb1.size; simp at this; omega)
  have hblk := Blk.three (w := w1) (g := w.heap.size) (t := 36) ((Blk.alloc (Blk.new w _ _) _).drew.below hb1 (by simp <;> omega)) (.int .i64 0) (.int .i64 0) (.int .i64 0)
  exact bodyPost_ret (results_blk3 Tryz.results111 Tryz.isAgg36 (by exact Tryz.sizeOf36) rfl hblk) rfl ⟨rfl, (((((Below.two _ _ _).drew.up hb1).setCell (by simp <;> omega) _).setCell (by simp <;> omega) _).setCell (by simp <;> omega) _)⟩
set_option maxHeartbeats 1000000 in
theorem i_GetHead_mid (m c : Nat) (b : List UInt8) (j g o k : Nat) (w : World) (B : Nat) (hs : Sl w B 1 (some ⟨g, o, none⟩) m c (u8s b)) (hB : B ≤ w.heap.size) (hg : g < B) (hm : m ≤ 1048576) (hj : j < m) (hc : w.cell? ⟨g, o + j, none⟩ = some (.int .u8 (k : Int))) (hk : k < 256) (H1 : 27 < k % 32) (h31 : ((k : Int) % 32 == 31) = false) :
    Calls Tryz.prog 111 #[.slice (some ⟨g, o, none⟩) m c, .int .i64 j] w fun e w' => e = .returned (headRet 0 0 0 0 1) ∧ Below w.heap.size w w' := by
  have hl := hs.blen
  have hgw : g < w.heap.size := by omega
  have hcA : ∀ x, (w.alloc x).cell? ⟨g, o + j, none⟩ = some (.int .u8 (k : Int)) := fun x => (World.cell?_alloc_lt w x _ (by exact hgw)).trans hc
  have hcB : ∀ x y, ((w.alloc x).alloc y).cell? ⟨g, o + j, none⟩ = some (.int .u8 (k : Int)) := fun x y => (World.cell?_alloc_lt _ y _ (by simp; omega)).trans (hcA x)
  have r1 : inR (j : Int) 0 (m - 1) = true := inR_yes (by omega) (by omega)
  go_enter Tryz.func111, Tryz.ntmps111
  go_wp2_with (go_at_call 85; refine (i_within _ _ _ _).mono ?_; rintro e w' ⟨rfl, rfl⟩)
  go_region
  go_wp2_with fail
  exact bodyPost_ret (results_blk3 Tryz.results111 Tryz.isAgg36 (by exact Tryz.sizeOf36) rfl (Blk.alloc (Blk.new w _ _) _)) rfl ⟨rfl, (Below.two _ _ _).drew⟩
set_option maxHeartbeats 1000000 in
theorem i_GetHead_short (m c : Nat) (b : List UInt8) (j g o k : Nat) (w : World) (B : Nat) (hs : Sl w B 1 (some ⟨g, o, none⟩) m c (u8s b)) (hB : B ≤ w.heap.size) (hg : g < B) (hm : m ≤ 1048576) (hj : j < m) (hc : w.cell? ⟨g, o + j, none⟩ = some (.int .u8 (k : Int))) (hk : k < 256) (H1 : 24 ≤ k % 32) (H2 : k % 32 ≤ 27) (h31 : ((k : Int) % 32 == 31) = false) (v : Nat) (hp : wrap64 (2 ^ (k % 32 - 24)) = (v : Int)) (hv1 : 1 ≤ v) (hv8 : v ≤ 8) (h3 : (m : Int) - j - 1 < v) :
    Calls Tryz.prog 111 #[.slice (some ⟨g, o, none⟩) m c, .int .i64 j] w fun e w' => e = .returned (headRet 0 0 0 0 1) ∧ Below w.heap.size w w' := by
  have hl := hs.blen
  have hgw : g < w.heap.size := by omega
  have hcA : ∀ x, (w.alloc x).cell? ⟨g, o + j, none⟩ = some (.int .u8 (k : Int)) := fun x => (World.cell?_alloc_lt w x _ (by exact hgw)).trans hc
  have hcB : ∀ x y, ((w.alloc x).alloc y).cell? ⟨g, o + j, none⟩ = some (.int .u8 (k : Int)) := fun x y => (World.cell?_alloc_lt _ y _ (by simp; omega)).trans (hcA x)
  have r1 : inR (j : Int) 0 (m - 1) = true := inR_yes (by omega) (by omega)
  have hx : (inR (v : Int) 0 m && inR ((j : Int) + 1) 0 (m - v)) = false := by
    rw [Bool.and_eq_false_iff]
    simp only [inR_not]
    omega
  go_enter Tryz.func111, Tryz.ntmps111
  go_wp2_with (go_at_call 85; refine (i_within _ _ _ _).mono ?_; rintro e w' ⟨rfl, rfl⟩)
  go_region
  go_wp2_with fail
  refine (i_exist _ m c _ _ _ ?h1 ?h2).mono ?_
  case h1 => omega
  case h2 => omega
  rintro e w' ⟨rfl, rfl⟩
  rw [hx]
  go_wp2_with fail
  exact bodyPost_ret (results_blk3 Tryz.results111 Tryz.isAgg36 (by exact Tryz.sizeOf36) rfl (Blk.alloc (Blk.new w _ _) _)) rfl ⟨rfl, (Below.two _ _ _).drew⟩
set_option maxHeartbeats 1000000 in
theorem i_GetHead_big (m c : Nat) (b : List UInt8) (j g o k : Nat) (w : World) (B : Nat) (hs : Sl w B 1 (some ⟨g, o, none⟩) m c (u8s b)) (hB : B ≤ w.heap.size) (hg : g < B) (hm : m ≤ 1048576) (hj : j < m) (hc : w.cell? ⟨g, o + j, none⟩ = some (.int .u8 (k : Int))) (hk : k < 256) (H1 : 24 ≤ k % 32) (H2 : k % 32 ≤ 27) (h31 : ((k : Int) % 32 == 31) = false) (v : Nat) (hp : wrap64 (2 ^ (k % 32 - 24)) = (v : Int)) (hv1 : 1 ≤ v) (hv8 : v ≤ 8) (h3 : ¬ (m : Int) - j - 1 < v) (h4 : (getBig b ((j : Int) + 1) v).2 = false) :
    Calls Tryz.prog 111 #[.slice (some ⟨g, o, none⟩) m c, .int .i64 j] w fun e w' => e = .returned (headRet 0 0 0 0 2) ∧ Below w.heap.size w w' := by
  have hl := hs.blen
  have hgw : g < w.heap.size := by omega
  have hcA : ∀ x, (w.alloc x).cell? ⟨g, o + j, none⟩ = some (.int .u8 (k : Int)) := fun x => (World.cell?_alloc_lt w x _ (by exact hgw)).trans hc
  have hcB : ∀ x y, ((w.alloc x).alloc y).cell? ⟨g, o + j, none⟩ = some (.int .u8 (k : Int)) := fun x y => (World.cell?_alloc_lt _ y _ (by simp; omega)).trans (hcA x)
  have r1 : inR (j : Int) 0 (m - 1) = true := inR_yes (by omega) (by omega)
  have hx : (inR (v : Int) 0 m && inR ((j : Int) + 1) 0 (m - v)) = true := by
    rw [Bool.and_eq_true]
    exact ⟨inR_yes (by omega) (by omega), inR_yes (by omega) (by omega)⟩
  have hgb := getBig_bd b ((j : Int) + 1) v
  go_enter Tryz.func111, Tryz.ntmps111
  go_wp2_with (go_at_call 85; refine (i_within _ _ _ _).mono ?_; rintro e w' ⟨rfl, rfl⟩)
  go_region
  go_wp2_with fail
  refine (i_exist _ m c _ _ _ ?h1 ?h2).mono ?_
  case h1 => omega
  case h2 => omega
  rintro e w' ⟨rfl, rfl⟩
  rw [hx]
  go_wp2_with fail
  refine (i_GetBig _ m c b ((j : Int) + 1) v _ B ?h1 hm ?h2 ?h3).mono ?_
  case h1 => exact ((hs.alloc hB _).alloc (by simp; omega) _).drew
  case h2 => omega
  case h3 => omega
  rintro e w' ⟨rfl, rfl⟩
  rw [h4]
  go_wp2_with fail
  exact bodyPost_ret (results_blk3 Tryz.results111 Tryz.isAgg36 (by exact Tryz.sizeOf36) rfl (Blk.alloc (Blk.new w _ _) _)) rfl ⟨rfl, (Below.two _ _ _).drew⟩
set_option maxHeartbeats 1000000 in
theorem i_GetHead_all (m c : Nat) (b : List UInt8) (j g o k : Nat) (w : World) (B : Nat) (hs : Sl w B 1 (some ⟨g, o, none⟩) m c (u8s b)) (hB : B ≤ w.heap.size) (hg : g < B) (hm : m ≤ 1048576) (hj : j < m) (hc : w.cell? ⟨g, o + j, none⟩ = some (.int .u8 (k : Int))) (hk : k < 256) (H1 : 24 ≤ k % 32) (H2 : k % 32 ≤ 27) (h31 : ((k : Int) % 32 == 31) = false) (v : Nat) (hp : wrap64 (2 ^ (k % 32 - 24)) = (v : Int)) (hv1 : 1 ≤ v) (hv8 : v ≤ 8) (h3 : ¬ (m : Int) - j - 1 < v) (h4 : (getBig b ((j : Int) + 1) v).2 = true) :
    Calls Tryz.prog 111 #[.slice (some ⟨g, o, none⟩) m c, .int .i64 j] w fun e w' => e = .returned (headRet ((k : Int) / 32) (getBig b ((j : Int) + 1) v).1 v (j + 1 + v) 0) ∧ Below w.heap.size w w' := by
  have hl := hs.blen
  have hgw : g < w.heap.size := by omega
  have hcA : ∀ x, (w.alloc x).cell? ⟨g, o + j, none⟩ = some (.int .u8 (k : Int)) := fun x => (World.cell?_alloc_lt w x _ (by exact hgw)).trans hc
  have hcB : ∀ x y, ((w.alloc x).alloc y).cell? ⟨g, o + j, none⟩ = some (.int .u8 (k : Int)) := fun x y => (World.cell?_alloc_lt _ y _ (by simp; omega)).trans (hcA x)
  have r1 : inR (j : Int) 0 (m - 1) = true := inR_yes (by omega) (by omega)
  have hx : (inR (v : Int) 0 m && inR ((j : Int) + 1) 0 (m - v)) = true := by
    rw [Bool.and_eq_true]
    exact ⟨inR_yes (by omega) (by omega), inR_yes (by omega) (by omega)⟩
  have hgb := getBig_bd b ((j : Int) + 1) v
  go_enter Tryz.func111, Tryz.ntmps111
  go_wp2_with (go_at_call 85; refine (i_within _ _ _ _).mono ?_; rintro e w' ⟨rfl, rfl⟩)
  go_region
  go_wp2_with fail
  refine (i_exist _ m c _ _ _ ?h1 ?h2).mono ?_
  case h1 => omega
  case h2 => omega
  rintro e w' ⟨rfl, rfl⟩
  rw [hx]
  go_wp2_with fail
  refine (i_GetBig _ m c b ((j : Int) + 1) v _ B ?h1 hm ?h2 ?h3).mono ?_
  case h1 => exact ((hs.alloc hB _).alloc (by simp; omega) _).drew
  case h2 => omega
  case h3 => omega
  rintro e w' ⟨rfl, rfl⟩
  rw [h4]
  go_wp2_with fail
  go_region
  go_wp2_with fail
  exact bodyPost_ret (results_blk3 Tryz.results111 Tryz.isAgg36 (by exact Tryz.sizeOf36) rfl (Blk.alloc (Blk.new w _ _) _)) rfl ⟨rfl, (Below.two _ _ _).drew.drew⟩
set_option maxHeartbeats 1000000 in
theorem i_GetHead (A : Option Addr) (m c : Nat) (b : List UInt8) (i : Int) (w : World) (B : Nat) (h : Sl w B 1 A m c (u8s b)) (hB : B ≤ w.heap.size) (hm : m ≤ 1048576) (hi : -9223372036854775808 ≤ i ∧ i ≤ 9223372036854775807) :
    Calls Tryz.prog 111 #[.slice A m c, .int .i64 i] w fun e w' => e = .returned (ret5 (getHead b i)) ∧ Below w.heap.size w w' := by
  have hl := h.blen
  by_cases hr : 0 ≤ i ∧ i < m
  · obtain ⟨j, rfl⟩ := Int.eq_ofNat_of_zero_le hr.1
    have hs := h
    obtain ⟨g, o, rfl, hg, hjl, hc⟩ := h.byte (k := j) (by omega)
    obtain ⟨k, hkk⟩ : ∃ k, k = b[j].toNat := ⟨_, rfl⟩
    have hk : k < 256 := by have := (b[j]).toNat_lt; omega
    rw [← hkk] at hc
    have e0 : ret5 (getHead b j) = ret5 (getHeadB b j k) := by rw [getHead_in (by omega), hkk]
    have hj : j < m := by omega
    have H : k % 32 < 24 ∨ (k % 32 = 31 ∧ headOk ((k : Int) / 32) 0 (-1) = true) ∨ (k % 32 = 31 ∧ headOk ((k : Int) / 32) 0 (-1) = false) ∨ (27 < k % 32 ∧ k % 32 ≠ 31) ∨ (24 ≤ k % 32 ∧ k % 32 ≤ 27) := by
      cases headOk ((k : Int) / 32) 0 (-1) <;> simp <;> omega
    rcases H with H1 | ⟨H1, H2⟩ | ⟨H1, H2⟩ | ⟨H1, H2⟩ | ⟨H1, H2⟩
    · exact (i_GetHead_low m c b j g o k w B hs hB hg hm hj hc hk H1).mono fun e w' ⟨h1, h2⟩ => ⟨h1.trans (by rw [e0, gh_low H1]), h2⟩
    · exact (i_GetHead_ind m c b j g o k w B hs hB hg hm hj hc hk (by omega) H2).mono fun e w' ⟨h1, h2⟩ => ⟨h1.trans (by rw [e0, gh_ind H1 H2]), h2⟩
    · exact (i_GetHead_ino m c b j g o k w B hs hB hg hm hj hc hk (by omega) H2).mono fun e w' ⟨h1, h2⟩ => ⟨h1.trans (by rw [e0, gh_ind_no H1 H2]), h2⟩
    · exact (i_GetHead_mid m c b j g o k w B hs hB hg hm hj hc hk H1 (by simp; omega)).mono fun e w' ⟨h1, h2⟩ => ⟨h1.trans (by rw [e0, gh_mid H1 H2]), h2⟩
    · have hv0 : ∃ v : Nat, v = 2 ^ (k % 32 - 24) ∧ 1 ≤ v ∧ v ≤ 8 := ⟨_, rfl, Nat.one_le_two_pow, Nat.le_trans (Nat.pow_le_pow_right (by decide) (show k % 32 - 24 ≤ 3 by omega)) (by decide)⟩
      obtain ⟨v, HV, hv1, hv8⟩ := hv0
      have hp : wrap64 (2 ^ (k % 32 - 24)) = (v : Int) := by
        have e : (2 : Int) ^ (k % 32 - 24) = ((2 ^ (k % 32 - 24) : Nat) : Int) := by simp
        rw [e, ← HV, wrap64_as (by omega)]
      have h31 : ((k : Int) % 32 == 31) = false := by simp; omega
      by_cases h3 : (b.length : Int) - j - 1 < v
      · have h3' := h3
        rw [hl] at h3'
        exact (i_GetHead_short m c b j g o k w B hs hB hg hm hj hc hk H1 H2 h31 v hp hv1 hv8 h3').mono fun e w' ⟨h1, h2⟩ => ⟨h1.trans (by rw [e0, gh_short H1 H2 HV h3]), h2⟩
      · have h3' := h3
        rw [hl] at h3'
        cases h4 : (getBig b ((j : Int) + 1) v).2
        · exact (i_GetHead_big m c b j g o k w B hs hB hg hm hj hc hk H1 H2 h31 v hp hv1 hv8 h3' h4).mono fun e w' ⟨h1, h2⟩ => ⟨h1.trans (by rw [e0, gh_big H1 H2 HV h3 h4]), h2⟩
        · exact (i_GetHead_all m c b j g o k w B hs hB hg hm hj hc hk H1 H2 h31 v hp hv1 hv8 h3' h4).mono fun e w' ⟨h1, h2⟩ => ⟨h1.trans (by rw [e0, gh_all H1 H2 HV h3 h4]), h2⟩
  · rw [getHead_out (by omega)]
    have r1 : inR i 0 (m - 1) = false := inR_no (by omega)
    go_enter Tryz.func111, Tryz.ntmps111
    go_wp2_with (go_at_call 85; refine (i_within _ _ _ _).mono ?_; rintro e w' ⟨rfl, rfl⟩)
    exact bodyPost_ret (results_blk3 Tryz.results111 Tryz.isAgg36 (by exact Tryz.sizeOf36) rfl (Blk.new w _ _)) rfl ⟨rfl, Below.one _ _⟩
set_option maxHeartbeats 1000000 in
theorem s_GetHead_low (m c : Nat) (b : List UInt8) (j g o k : Nat) (w : World) (B : Nat) (hs : Sl w B 1 (some ⟨g, o, none⟩) m c (u8s b)) (hB : B ≤ w.heap.size) (hg : g < B) (hm : m ≤ 1048576) (hj : j < m) (hc : w.cell? ⟨g, o + j, none⟩ = some (.int .u8 (k : Int))) (hk : k < 256) (H1 : k % 32 < 24) :
    Calls Tryz.prog 31 #[.slice (some ⟨g, o, none⟩) m c, .int .i64 j] w fun e w' => e = .returned (headRet ((k : Int) / 32) ((k : Int) % 32) 0 (j + 1) 0) ∧ Below w.heap.size w w' := by
  have hl := hs.blen
  have hgw : g < w.heap.size := by omega
  have hcA : ∀ x, (w.alloc x).cell? ⟨g, o + j, none⟩ = some (.int .u8 (k : Int)) := fun x => (World.cell?_alloc_lt w x _ (by exact hgw)).trans hc
  have hcB : ∀ x y, ((w.alloc x).alloc y).cell? ⟨g, o + j, none⟩ = some (.int .u8 (k : Int)) := fun x y => (World.cell?_alloc_lt _ y _ (by simp; omega)).trans (hcA x)
  have hcC : ∀ x y z, (((w.alloc x).alloc y).alloc z).cell? ⟨g, o + j, none⟩ = some (.int .u8 (k : Int)) := fun x y z => (World.cell?_alloc_lt _ z _ (by simp; omega)).trans (hcB x y)
  go_enter Tryz.func31, Tryz.ntmps31
  go_wp2_with fail
  exact bodyPost_ret (results_blk3 Tryz.results31 Tryz.isAgg36 (by exact Tryz.sizeOf36) rfl (Blk.alloc (Blk.alloc (Blk.new w _ _) _) _)) rfl ⟨rfl, (Below.three _ _ _ _)⟩
set_option maxHeartbeats 1000000 in
theorem s_GetHead_ind (m c : Nat) (b : List UInt8) (j g o k : Nat) (w : World) (B : Nat) (hs : Sl w B 1 (some ⟨g, o, none⟩) m c (u8s b)) (hB : B ≤ w.heap.size) (hg : g < B) (hm : m ≤ 1048576) (hj : j < m) (hc : w.cell? ⟨g, o + j, none⟩ = some (.int .u8 (k : Int))) (hk : k < 256) (e31 : (k : Int) % 32 = 31) (H2 : headOk ((k : Int) / 32) 0 (-1) = true) :
    Calls Tryz.prog 31 #[.slice (some ⟨g, o, none⟩) m c, .int .i64 j] w fun e w' => e = .returned (headRet ((k : Int) / 32) 0 (-1) (j + 1) 0) ∧ Below w.heap.size w w' := by
  have hl := hs.blen
  have hgw : g < w.heap.size := by omega
  have hcA : ∀ x, (w.alloc x).cell? ⟨g, o + j, none⟩ = some (.int .u8 (k : Int)) := fun x => (World.cell?_alloc_lt w x _ (by exact hgw)).trans hc
  have hcB : ∀ x y, ((w.alloc x).alloc y).cell? ⟨g, o + j, none⟩ = some (.int .u8 (k : Int)) := fun x y => (World.cell?_alloc_lt _ y _ (by simp; omega)).trans (hcA x)
  have hcC : ∀ x y z, (((w.alloc x).alloc y).alloc z).cell? ⟨g, o + j, none⟩ = some (.int .u8 (k : Int)) := fun x y z => (World.cell?_alloc_lt _ z _ (by simp; omega)).trans (hcB x y)
  go_enter Tryz.func31, Tryz.ntmps31
  go_wp2_with fail
  go_wp2_with (go_at_call 66; refine (s_HeadOk _ _ _ _).mono ?_; rintro e w1 ⟨rfl, hb1⟩; obtain ⟨hc1, hf1⟩ := bcell hb1; have hz1 : w.heap.size + 2 < w1.heap.size := by have := hb1.size; simp at this; omega)
  have hblk := Blk.three (w := w1) (g := w.heap.size) (t := 36) ((Blk.alloc (Blk.alloc (Blk.new w _ _) _) _).below hb1 (by simp <;> omega)) (.int .i64 ((k : Int) / 32)) (.int .i64 0) (.int .i64 (-1))
  exact bodyPost_ret (results_blk3 Tryz.results31 Tryz.isAgg36 (by exact Tryz.sizeOf36) rfl hblk) rfl ⟨rfl, (((((Below.three _ _ _ _).up hb1).setCell (by simp <;> omega) _).setCell (by simp <;> omega) _).setCell (by simp <;> omega) _)⟩
set_option maxHeartbeats 1000000 in
theorem s_GetHead_ino (m c : Nat) (b : List UInt8) (j g o k : Nat) (w : World) (B : Nat) (hs : Sl w B 1 (some ⟨g, o, none⟩) m c (u8s b)) (hB : B ≤ w.heap.size) (hg : g < B) (hm : m ≤ 1048576) (hj : j < m) (hc : w.cell? ⟨g, o + j, none⟩ = some (.int .u8 (k : Int))) (hk : k < 256) (e31 : (k : Int) % 32 = 31) (H2 : headOk ((k : Int) / 32) 0 (-1) = false) :
    Calls Tryz.prog 31 #[.slice (some ⟨g, o, none⟩) m c, .int .i64 j] w fun e w' => e = .returned (headRet 0 0 0 0 1) ∧ Below w.heap.size w w' := by
  have hl := hs.blen
  have hgw : g < w.heap.size := by omega
  have hcA : ∀ x, (w.alloc x).cell? ⟨g, o + j, none⟩ = some (.int .u8 (k : Int)) := fun x => (World.cell?_alloc_lt w x _ (by exact hgw)).trans hc
  have hcB : ∀ x y, ((w.alloc x).alloc y).cell? ⟨g, o + j, none⟩ = some (.int .u8 (k : Int)) := fun x y => (World.cell?_alloc_lt _ y _ (by simp; omega)).trans (hcA x)
  have hcC : ∀ x y z, (((w.alloc x).alloc y).alloc z).cell? ⟨g, o + j, none⟩ = some (.int .u8 (k : Int)) := fun x y z => (World.cell?_alloc_lt _ z _ (by simp; omega)).trans (hcB x y)
  go_enter Tryz.func31, Tryz.ntmps31
  go_wp2_with fail
  go_wp2_with (go_at_call 66; refine (s_HeadOk _ _ _ _).mono ?_; rintro e w1 ⟨rfl, hb1⟩; obtain ⟨hc1, hf1⟩ := bcell hb1; have hz1 : w.heap.size + 2 < w1.heap.size := by have := hb1.size; simp at this; omega)
  have hblk := Blk.three (w := w1) (g := w.heap.size) (t := 36) ((Blk.alloc (Blk.alloc (Blk.new w _ _) _) _).below hb1 (by simp <;> omega)) (.int .i64 0) (.int .i64 0) (.int .i64 0)
  exact bodyPost_ret (results_blk3 Tryz.results31 Tryz.isAgg36 (by exact Tryz.sizeOf36) rfl hblk) rfl ⟨rfl, (((((Below.three _ _ _ _).up hb1).setCell (by simp <;> omega) _).setCell (by simp <;> omega) _).setCell (by simp <;> omega) _)⟩
set_option maxHeartbeats 1000000 in
theorem s_GetHead_mid (m c : Nat) (b : List UInt8) (j g o k : Nat) (w : World) (B : Nat) (hs : Sl w B 1 (some ⟨g, o, none⟩) m c (u8s b)) (hB : B ≤ w.heap.size) (hg : g < B) (hm : m ≤ 1048576) (hj : j < m) (hc : w.cell? ⟨g, o + j, none⟩ = some (.int .u8 (k : Int))) (hk : k < 256) (H1 : 27 < k % 32) (h31 : ((k : Int) % 32 == 31) = false) :
    Calls Tryz.prog 31 #[.slice (some ⟨g, o, none⟩) m c, .int .i64 j] w fun e w' => e = .returned (headRet 0 0 0 0 1) ∧ Below w.heap.size w w' := by
  have hl := hs.blen
  have hgw : g < w.heap.size := by omega
  have hcA : ∀ x, (w.alloc x).cell? ⟨g, o + j, none⟩ = some (.int .u8 (k : Int)) := fun x => (World.cell?_alloc_lt w x _ (by exact hgw)).trans hc
  have hcB : ∀ x y, ((w.alloc x).alloc y).cell? ⟨g, o + j, none⟩ = some (.int .u8 (k : Int)) := fun x y => (World.cell?_alloc_lt _ y _ (by simp; omega)).trans (hcA x)
  have hcC : ∀ x y z, (((w.alloc x).alloc y).alloc z).cell? ⟨g, o + j, none⟩ = some (.int .u8 (k : Int)) := fun x y z => (World.cell?_alloc_lt _ z _ (by simp; omega)).trans (hcB x y)
  go_enter Tryz.func31, Tryz.ntmps31
  go_wp2_with fail
  exact bodyPost_ret (results_blk3 Tryz.results31 Tryz.isAgg36 (by exact Tryz.sizeOf36) rfl (Blk.alloc (Blk.alloc (Blk.new w _ _) _) _)) rfl ⟨rfl, (Below.three _ _ _ _)⟩
set_option maxHeartbeats 1000000 in
theorem s_GetHead_short (m c : Nat) (b : List UInt8) (j g o k : Nat) (w : World) (B : Nat) (hs : Sl w B 1 (some ⟨g, o, none⟩) m c (u8s b)) (hB : B ≤ w.heap.size) (hg : g < B) (hm : m ≤ 1048576) (hj : j < m) (hc : w.cell? ⟨g, o + j, none⟩ = some (.int .u8 (k : Int))) (hk : k < 256) (H1 : 24 ≤ k % 32) (H2 : k % 32 ≤ 27) (h31 : ((k : Int) % 32 == 31) = false) (v : Nat) (hp : wrap64 (2 ^ (k % 32 - 24)) = (v : Int)) (hv1 : 1 ≤ v) (hv8 : v ≤ 8) (h3 : (m : Int) - j - 1 < v) :
    Calls Tryz.prog 31 #[.slice (some ⟨g, o, none⟩) m c, .int .i64 j] w fun e w' => e = .returned (headRet 0 0 0 0 1) ∧ Below w.heap.size w w' := by
  have hl := hs.blen
  have hgw : g < w.heap.size := by omega
  have hcA : ∀ x, (w.alloc x).cell? ⟨g, o + j, none⟩ = some (.int .u8 (k : Int)) := fun x => (World.cell?_alloc_lt w x _ (by exact hgw)).trans hc
  have hcB : ∀ x y, ((w.alloc x).alloc y).cell? ⟨g, o + j, none⟩ = some (.int .u8 (k : Int)) := fun x y => (World.cell?_alloc_lt _ y _ (by simp; omega)).trans (hcA x)
  have hcC : ∀ x y z, (((w.alloc x).alloc y).alloc z).cell? ⟨g, o + j, none⟩ = some (.int .u8 (k : Int)) := fun x y z => (World.cell?_alloc_lt _ z _ (by simp; omega)).trans (hcB x y)
  go_enter Tryz.func31, Tryz.ntmps31
  go_wp2_with fail
  exact bodyPost_ret (results_blk3 Tryz.results31 Tryz.isAgg36 (by exact Tryz.sizeOf36) rfl (Blk.alloc (Blk.alloc (Blk.new w _ _) _) _)) rfl ⟨rfl, (Below.three _ _ _ _)⟩
set_option maxHeartbeats 1000000 in
theorem s_GetHead_big (m c : Nat) (b : List UInt8) (j g o k : Nat) (w : World) (B : Nat) (hs : Sl w B 1 (some ⟨g, o, none⟩) m c (u8s b)) (hB : B ≤ w.heap.size) (hg : g < B) (hm : m ≤ 1048576) (hj : j < m) (hc : w.cell? ⟨g, o + j, none⟩ = some (.int .u8 (k : Int))) (hk : k < 256) (H1 : 24 ≤ k % 32) (H2 : k % 32 ≤ 27) (h31 : ((k : Int) % 32 == 31) = false) (v : Nat) (hp : wrap64 (2 ^ (k % 32 - 24)) = (v : Int)) (hv1 : 1 ≤ v) (hv8 : v ≤ 8) (h3 : ¬ (m : Int) - j - 1 < v) (h4 : (getBig b ((j : Int) + 1) v).2 = false) :
    Calls Tryz.prog 31 #[.slice (some ⟨g, o, none⟩) m c, .int .i64 j] w fun e w' => e = .returned (headRet 0 0 0 0 2) ∧ Below w.heap.size w w' := by
  have hl := hs.blen
  have hgw : g < w.heap.size := by omega
  have hcA : ∀ x, (w.alloc x).cell? ⟨g, o + j, none⟩ = some (.int .u8 (k : Int)) := fun x => (World.cell?_alloc_lt w x _ (by exact hgw)).trans hc
  have hcB : ∀ x y, ((w.alloc x).alloc y).cell? ⟨g, o + j, none⟩ = some (.int .u8 (k : Int)) := fun x y => (World.cell?_alloc_lt _ y _ (by simp; omega)).trans (hcA x)
  have hcC : ∀ x y z, (((w.alloc x).alloc y).alloc z).cell? ⟨g, o + j, none⟩ = some (.int .u8 (k : Int)) := fun x y z => (World.cell?_alloc_lt _ z _ (by simp; omega)).trans (hcB x y)
  have hgb := getBig_bd b ((j : Int) + 1) v
  go_enter Tryz.func31, Tryz.ntmps31
  go_wp2_with fail
  go_wp2_with fail
  refine (s_GetBig _ m c b ((j : Int) + 1) v _ B ?h1 hm ?h2).mono ?_
  case h1 => exact (((hs.alloc hB _).alloc (by simp; omega) _).alloc (by simp; omega) _)
  case h2 => omega
  rintro e w' ⟨rfl, rfl⟩
  rw [h4]
  go_wp2_with fail
  exact bodyPost_ret (results_blk3 Tryz.results31 Tryz.isAgg36 (by exact Tryz.sizeOf36) rfl (Blk.alloc (Blk.alloc (Blk.new w _ _) _) _)) rfl ⟨rfl, (Below.three _ _ _ _)⟩
set_option maxHeartbeats 1000000 in
theorem s_GetHead_all (m c : Nat) (b : List UInt8) (j g o k : Nat) (w : World) (B : Nat) (hs : Sl w B 1 (some ⟨g, o, none⟩) m c (u8s b)) (hB : B ≤ w.heap.size) (hg : g < B) (hm : m ≤ 1048576) (hj : j < m) (hc : w.cell? ⟨g, o + j, none⟩ = some (.int .u8 (k : Int))) (hk : k < 256) (H1 : 24 ≤ k % 32) (H2 : k % 32 ≤ 27) (h31 : ((k : Int) % 32 == 31) = false) (v : Nat) (hp : wrap64 (2 ^ (k % 32 - 24)) = (v : Int)) (hv1 : 1 ≤ v) (hv8 : v ≤ 8) (h3 : ¬ (m : Int) - j - 1 < v) (h4 : (getBig b ((j : Int) + 1) v).2 = true) :
    Calls Tryz.prog 31 #[.slice (some ⟨g, o, none⟩) m c, .int .i64 j] w fun e w' => e = .returned (headRet ((k : Int) / 32) (getBig b ((j : Int) + 1) v).1 v (j + 1 + v) 0) ∧ Below w.heap.size w w' := by
  have hl := hs.blen
  have hgw : g < w.heap.size := by omega
  have hcA : ∀ x, (w.alloc x).cell? ⟨g, o + j, none⟩ = some (.int .u8 (k : Int)) := fun x => (World.cell?_alloc_lt w x _ (by exact hgw)).trans hc
  have hcB : ∀ x y, ((w.alloc x).alloc y).cell? ⟨g, o + j, none⟩ = some (.int .u8 (k : Int)) := fun x y => (World.cell?_alloc_lt _ y _ (by simp; omega)).trans (hcA x)
  have hcC : ∀ x y z, (((w.alloc x).alloc y).alloc z).cell? ⟨g, o + j, none⟩ = some (.int .u8 (k : Int)) := fun x y z => (World.cell?_alloc_lt _ z _ (by simp; omega)).trans (hcB x y)
  have hgb := getBig_bd b ((j : Int) + 1) v
  go_enter Tryz.func31, Tryz.ntmps31
  go_wp2_with fail
  go_wp2_with fail
  refine (s_GetBig _ m c b ((j : Int) + 1) v _ B ?h1 hm ?h2).mono ?_
  case h1 => exact (((hs.alloc hB _).alloc (by simp; omega) _).alloc (by simp; omega) _)
  case h2 => omega
  rintro e w' ⟨rfl, rfl⟩
  rw [h4]
  go_wp2_with fail
  exact bodyPost_ret (results_blk3 Tryz.results31 Tryz.isAgg36 (by exact Tryz.sizeOf36) rfl (Blk.alloc (Blk.alloc (Blk.new w _ _) _) _)) rfl ⟨rfl, (Below.three _ _ _ _)⟩
set_option maxHeartbeats 1000000 in
theorem s_GetHead (A : Option Addr) (m c : Nat) (b : List UInt8) (i : Int) (w : World) (B : Nat) (h : Sl w B 1 A m c (u8s b)) (hB : B ≤ w.heap.size) (hm : m ≤ 1048576) (hi : -9223372036854775808 ≤ i ∧ i ≤ 9223372036854775807) :
    Calls Tryz.prog 31 #[.slice A m c, .int .i64 i] w fun e w' => e = .returned (ret5 (getHead b i)) ∧ Below w.heap.size w w' := by
  have hl := h.blen
  by_cases hr : 0 ≤ i ∧ i < m
  · obtain ⟨j, rfl⟩ := Int.eq_ofNat_of_zero_le hr.1
    have hs := h
    obtain ⟨g, o, rfl, hg, hjl, hc⟩ := h.byte (k := j) (by omega)
    obtain ⟨k, hkk⟩ : ∃ k, k = b[j].toNat := ⟨_, rfl⟩
    have hk : k < 256 := by have := (b[j]).toNat_lt; omega
    rw [← hkk] at hc
    have e0 : ret5 (getHead b j) = ret5 (getHeadB b j k) := by rw [getHead_in (by omega), hkk]
    have hj : j < m := by omega
    have H : k % 32 < 24 ∨ (k % 32 = 31 ∧ headOk ((k : Int) / 32) 0 (-1) = true) ∨ (k % 32 = 31 ∧ headOk ((k : Int) / 32) 0 (-1) = false) ∨ (27 < k % 32 ∧ k % 32 ≠ 31) ∨ (24 ≤ k % 32 ∧ k % 32 ≤ 27) := by
      cases headOk ((k : Int) / 32) 0 (-1) <;> simp <;> omega
    rcases H with H1 | ⟨H1, H2⟩ | ⟨H1, H2⟩ | ⟨H1, H2⟩ | ⟨H1, H2⟩
    · exact (s_GetHead_low m c b j g o k w B hs hB hg hm hj hc hk H1).mono fun e w' ⟨h1, h2⟩ => ⟨h1.trans (by rw [e0, gh_low H1]), h2⟩
    · exact (s_GetHead_ind m c b j g o k w B hs hB hg hm hj hc hk (by omega) H2).mono fun e w' ⟨h1, h2⟩ => ⟨h1.trans (by rw [e0, gh_ind H1 H2]), h2⟩
    · exact (s_GetHead_ino m c b j g o k w B hs hB hg hm hj hc hk (by omega) H2).mono fun e w' ⟨h1, h2⟩ => ⟨h1.trans (by rw [e0, gh_ind_no H1 H2]), h2⟩
    · exact (s_GetHead_mid m c b j g o k w B hs hB hg hm hj hc hk H1 (by simp; omega)).mono fun e w' ⟨h1, h2⟩ => ⟨h1.trans (by rw [e0, gh_mid H1 H2]), h2⟩
    · have hv0 : ∃ v : Nat, v = 2 ^ (k % 32 - 24) ∧ 1 ≤ v ∧ v ≤ 8 := ⟨_, rfl, Nat.one_le_two_pow, Nat.le_trans (Nat.pow_le_pow_right (by decide) (show k % 32 - 24 ≤ 3 by omega)) (by decide)⟩
      obtain ⟨v, HV, hv1, hv8⟩ := hv0
      have hp : wrap64 (2 ^ (k % 32 - 24)) = (v : Int) := by
        have e : (2 : Int) ^ (k % 32 - 24) = ((2 ^ (k % 32 - 24) : Nat) : Int) := by simp
        rw [e, ← HV, wrap64_as (by omega)]
      have h31 : ((k : Int) % 32 == 31) = false := by simp; omega
      by_cases h3 : (b.length : Int) - j - 1 < v
      · have h3' := h3
        rw [hl] at h3'
        exact (s_GetHead_short m c b j g o k w B hs hB hg hm hj hc hk H1 H2 h31 v hp hv1 hv8 h3').mono fun e w' ⟨h1, h2⟩ => ⟨h1.trans (by rw [e0, gh_short H1 H2 HV h3]), h2⟩
      · have h3' := h3
        rw [hl] at h3'
        cases h4 : (getBig b ((j : Int) + 1) v).2
        · exact (s_GetHead_big m c b j g o k w B hs hB hg hm hj hc hk H1 H2 h31 v hp hv1 hv8 h3' h4).mono fun e w' ⟨h1, h2⟩ => ⟨h1.trans (by rw [e0, gh_big H1 H2 HV h3 h4]), h2⟩
        · exact (s_GetHead_all m c b j g o k w B hs hB hg hm hj hc hk H1 H2 h31 v hp hv1 hv8 h3' h4).mono fun e w' ⟨h1, h2⟩ => ⟨h1.trans (by rw [e0, gh_all H1 H2 HV h3 h4]), h2⟩
  · rw [getHead_out (by omega)]
    by_cases h0 : i < 0
    · go_enter Tryz.func31, Tryz.ntmps31
      go_wp2_with fail
      exact bodyPost_ret (results_blk3 Tryz.results31 Tryz.isAgg36 (by exact Tryz.sizeOf36) rfl (Blk.alloc (Blk.new w _ _) _)) rfl ⟨rfl, Below.two _ _ _⟩
    · have h1 : (m : Int) ≤ i := by omega
      go_enter Tryz.func31, Tryz.ntmps31
      go_wp2_with fail
      exact bodyPost_ret (results_blk3 Tryz.results31 Tryz.isAgg36 (by exact Tryz.sizeOf36) rfl (Blk.alloc (Blk.new w _ _) _)) rfl ⟨rfl, Below.two _ _ _⟩
end Go.Proofs.YtmelnaidjgpclaaGreatDoor
