/- The program's reader of the packed format: value, whole. -/
import Derived.Test.YtmelnaidjgpclaaDoorGetPackL
set_option linter.unusedVariables false
set_option maxRecDepth 100000
set_option linter.unusedSimpArgs false
namespace Go.Proofs.YtmelnaidjgpclaaDoor
open Go.RowKit

theorem FailP.read {w w' : World} {g : Nat} {A : Option Addr} {n c : Nat} {b : List UInt8} {i k : Int} {r : Ending} (h : FailP w w' g A n c b i k r) (hk : k ≠ 0) : ReadP w w' g A n c b (.bad k) r :=
  ⟨zeroT, ⟨none, 0, 0, []⟩, i, k, h.1, LsAt.nil_ _ _, Own.nil_ _ _, h.2.1, h.2.2, rfl, hk⟩
theorem LeafP.read {w w' : World} {g : Nat} {A : Option Addr} {n c : Nat} {b : List UInt8} {i k n1 x1 : Int} {s : ByteArray} {q1 : Nat} {r : Ending} (h : LeafP w w' g A n c b i (leafTr k n1 x1 s) r) (hi : i = (q1 : Int)) :
    ReadP w w' g A n c b (closeK k (n1, x1, s) (.good [] q1)) r :=
  ⟨leafTr k n1 x1 s, ⟨none, 0, 0, []⟩, i, 0, h.1, LsAt.nil_ _ _, Own.nil_ _ _, h.2.1, h.2.2, rfl, hi, rfl⟩
def ValSays (W : World) (g : Nat) (A : Option Addr) (n c : Nat) (b : List UInt8) (f : Nat) : Prop :=
  ∀ (i d : Int) (w : World), PR w g A n c b i 0 → Below W.heap.size W w → 2 * (n - i.toNat) + 3 ≤ f → (-9223372036854775808 ≤ i ∧ i ≤ 9223372036854775807) → (-9223372036854775808 ≤ d ∧ d ≤ 9223372036854775807) →
    Calls Tryd.prog 26 #[.pointer (some ⟨g, 0, none⟩), .int .i64 d] w fun r w' => ReadP w w' g A n c b (kV b f d i) r
theorem i_value {W : World} {g : Nat} {A : Option Addr} {n c : Nat} {b : List UInt8} (hWg : W.heap.size ≤ g) (hT : Lib.Utf8Tabs 0 1 W) (f : Nat) : ValSays W g A n c b f := by
  induction f using Nat.strongRecOn with
  | _ f ih =>
    intro i d w h hB hf hi hd
    have hbl := h.sl.blen
    have hbd := h.bd
    obtain ⟨f, rfl⟩ : ∃ z, f = z + 2 := ⟨f - 2, by omega⟩
    by_cases hd1 : d < 1
    · have e : kV b (f + 2) d i = .bad 2 := by rw [kV, if_pos hd1]
      rw [e]
      exact (i_value_deep g A n c b i d w h hd1).mono fun r w' hr => hr.read (by decide)
    obtain ⟨⟨k, m, q, cd⟩, hG⟩ : ∃ x, getMark b i = x := ⟨_, rfl⟩
    by_cases hcd : cd = 0
    rotate_left
    · have e : kV b (f + 2) d i = .bad cd := by rw [kV, if_neg hd1, hG]; simp only; rw [if_pos hcd]
      rw [e]
      exact (i_value_mark g A n c b i d w h hi (by omega) k m q cd hG hcd).mono fun r w' hr => hr.read hcd
    subst hcd
    have hgood := getMark_good hG
    have hd2 : 1 ≤ d := by omega
    have hq : ((q.toNat : Nat) : Int) = q := by omega
    have hBf : ∀ w1, Fr [g] w w1 → Below W.heap.size W w1 := fun w1 hf1 => hB.trans (hf1.below (by simpa using hWg) hB.size)
    rw [kV_head hd2 hG]
    have hV : ∀ g0, g0 < f + 1 → ∀ (q0 : Nat) w1, PR w1 g A n c b q0 0 → Fr [g] w w1 → q0 ≤ n → 2 * (n - q0) + 3 ≤ g0 → Calls Tryd.prog 26 #[.pointer (some ⟨g, 0, none⟩), .int .i64 (d - 1)] w1 fun r w' => ReadP w1 w' g A n c b (kV b g0 (d - 1) q0) r :=
      fun g0 hg0 q0 w1 h1 hf1 hq0 hfg => ih g0 (by omega) q0 (d - 1) w1 h1 (hBf w1 hf1) (by rw [Int.toNat_natCast]; exact hfg) (by omega) (by omega)
    unfold headR
    by_cases k4 : k = 4
    · rw [if_pos k4]
      obtain ⟨a, e, ok, hfl⟩ := bitsFltV_shape m
      rw [hfl, fltOf_fltV]
      exact (i_value_flt g A n c b i d w h hi hd2 k m q hG k4 a e ok hfl).mono fun r w' hr => by subst k4; exact hr.read hq.symm
    rw [if_neg k4]
    have hk4 : (k == 4) = false := by simpa using k4
    by_cases k78 : k = 7 ∨ k = 8
    · rw [if_pos k78]
      have hmb := hgood.2.2.2.2.2 (by omega)
      obtain ⟨mm, rfl⟩ := Int.eq_ofNat_of_zero_le hmb.1
      rw [Int.toNat_natCast]
      by_cases hsh : b.length < q.toNat + mm
      · rw [if_pos hsh]
        rcases k78 with rfl | rfl
        · exact (i_value_short7 g A n c b i d w h hi hd2 7 mm q hG mm (Lib.hid rfl) rfl rfl rfl (by omega)).mono fun r w' hr => hr.read (by decide)
        · exact (i_value_short8 g A n c b i d w h hi hd2 8 mm q hG mm (Lib.hid rfl) rfl rfl rfl (by omega)).mono fun r w' hr => hr.read (by decide)
      rw [if_neg hsh]
      have hcut : (cutS b q.toNat mm).data.toList = part b q.toNat mm := by unfold cutS; simp
      have hTX : ∀ v, Lib.validD (part b q.toNat mm) = v → ∀ w1, Fr [g] w w1 → Calls Tryd.prog 48 #[.string (cutS b q.toNat mm)] w1 fun r w' => r = .returned (.bool v) ∧ Below w1.heap.size w1 w' := fun v hv w1 hf1 => by
        have h9 := i_TextOk (cutS b q.toNat mm) w1 (by show (part b q.toNat mm).toArray.size ≤ _; rw [List.size_toArray]; unfold part; rw [List.length_take]; omega) (Utf8Tabs_below hT (hBf w1 hf1))
        rw [hcut, hv] at h9
        exact h9
      rcases k78 with rfl | rfl
      · cases hv : Lib.validD (part b q.toNat mm) with
        | false =>
          rw [if_pos ⟨rfl, rfl⟩]
          exact (i_value_bent g A n c b i d w h hi hd2 7 mm q hG mm (Lib.hid rfl) rfl rfl rfl (by omega) _ rfl (hTX _ hv)).mono fun r w' hr => hr.read (by decide)
        | true =>
          rw [if_neg (by simp)]
          exact (i_value_text g A n c b i d w h hi hd2 7 mm q hG mm (Lib.hid rfl) rfl rfl rfl (by omega) _ rfl (hTX _ hv)).mono fun r w' hr => hr.read (q1 := q.toNat + mm) (by omega)
      · rw [if_neg (by simp)]
        exact (i_value_bytes g A n c b i d w h hi hd2 8 mm q hG mm (Lib.hid rfl) rfl rfl rfl (by omega) _ rfl).mono fun r w' hr => hr.read (q1 := q.toNat + mm) (by omega)
    rw [if_neg k78]
    have hk7 : (k == 7) = false := by simp; omega
    have hk8 : (k == 8) = false := by simp; omega
    by_cases k9 : k = 9
    · rw [if_pos (.inl k9)]
      have hmb := hgood.2.2.2.2.2 (by omega)
      have e : manyN k m = m.toNat := by unfold manyN; rw [if_neg (by omega)]
      rw [e]
      exact i_value_list g A n c b i d w h hi hd2 k m q hG hd.2 m.toNat (by omega) (Lib.hid (by omega)) hk4 hk7 hk8 (by simpa using k9) (by rw [k9]; rfl) (f + 1) (by omega) _ rfl hV
    by_cases k10 : k = 10
    · rw [if_pos (.inr k10)]
      have hmb := hgood.2.2.2.2.2 (by omega)
      have e : manyN k m = (2 * m).toNat := by unfold manyN; rw [if_pos k10]
      rw [e]
      exact i_value_map g A n c b i d w h hi hd2 k m q hG hd.2 (2 * m).toNat (by omega) (Lib.hid (by omega)) hk4 hk7 hk8 (by simpa using k9) (by simpa using k10) (f + 1) (by omega) _ rfl hV
    rw [if_neg (by omega)]
    exact (i_value_leaf g A n c b i d w h hi hd2 k m q hG hk4 hk7 hk8 (by simpa using k9) (by simpa using k10)).mono fun r w' hr => hr.read hq.symm
end Go.Proofs.YtmelnaidjgpclaaDoor
