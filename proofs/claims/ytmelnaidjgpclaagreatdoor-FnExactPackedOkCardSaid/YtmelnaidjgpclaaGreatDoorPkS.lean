/- Rows of trees: nothing else changes; what is new lies apart. The reference's Slice. The reference's GetPacked. -/
import Derived.Test.YtmelnaidjgpclaaGreatDoorRowVal
import Derived.Test.YtmelnaidjgpclaaGreatDoorGetMarkW
import Derived.Test.YtmelnaidjgpclaaGreatDoorPkG0
import Derived.Test.YtmelnaidjgpclaaGreatDoorFltNew
import Derived.Deep.Cut
import Derived.Deep.CutBlock
import Derived.Deep.DeepCutAuto
set_option linter.unusedVariables false
set_option maxRecDepth 100000
set_option linter.unusedSimpArgs false
namespace Go.Proofs.YtmelnaidjgpclaaGreatDoor
open Go.RowKit

theorem RV.frg {w w' : World} {lo n c g : Nat} {A : Option Addr} {l : List Tr} {es : List El} (h : RV w lo A n c l es) (hf : Fr [g] w w') (hg : g < lo) : RV w' lo A n c l es :=
  h.fr hf (fun x hx => by have := (row_lt h.row hx).1; simp; omega) (fun x hx => by have := (h.own.2 x hx).1; simp; omega)
theorem RV.newOwn {w w5 : World} {lo n c : Nat} {A : Option Addr} {l : List Tr} {es : List El} {fp : List Nat} (h : RV w lo A n c l es) (ho : Own w5 w.heap.size fp) : ∀ x ∈ fp, x ∉ blkOf A ∧ x ∉ elFp es :=
  fun x hx => ⟨fun h1 => by have := (row_lt h.row h1).2; have := (ho.2 x hx).1; omega, fun h1 => by have := h.own.lt h1; have := (ho.2 x hx).1; omega⟩
end Go.Proofs.YtmelnaidjgpclaaGreatDoor

namespace Go.Proofs.YtmelnaidjgpclaaGreatDoor
open Go.RowKit

set_option maxHeartbeats 1000000 in
theorem s_Slice_no (A : Option Addr) (n c : Nat) (b : List UInt8) (q m : Nat) (w : World) (B : Nat) (h : Sl w B 1 A n c (u8s b)) (hn : n ≤ 1048576) (hq : q ≤ n) (hm : m ≤ 1000000000000000) (hlt : n < q + m) :
    Calls Tryz.prog 54 #[.slice A n c, .int .i64 q, .int .i64 m] w fun r w' => r = .returned (.tuple #[.slice (some ⟨w.heap.size, 0, none⟩) 0 0, .bool false]) ∧ Below w.heap.size w w' := by
  have q0 : ¬ (q : Int) < 0 := by omega
  have q1 : ¬ (m : Int) < 0 := by omega
  have q2 : ¬ (n : Int) < (q : Int) := by omega
  have q3 : (n : Int) - (q : Int) < (m : Int) := by omega
  have hwr : IntKind.i64.wrap ((n : Int) - (q : Int)) = (n : Int) - (q : Int) := by rw [IntKind.wrap_i64]; omega
  go_enter Tryz.func54, Tryz.ntmps54
  go_wp2_with fail
  refine bodyPost_ret (results_tmp2 Tryz.results54 _ _ _) rfl ⟨rfl, Below.one _ _⟩
set_option maxHeartbeats 1000000 in
theorem s_Slice_yes (A : Option Addr) (n c : Nat) (b : List UInt8) (q m : Nat) (w : World) (B : Nat) (h : Sl w B 1 A n c (u8s b)) (hB : B ≤ w.heap.size) (hn : n ≤ 1048576) (hm0 : 0 < m) (hlt : q + m ≤ n) :
    Calls Tryz.prog 54 #[.slice A n c, .int .i64 q, .int .i64 m] w fun r w' => ∃ A' c', r = .returned (.tuple #[.slice A' m c', .bool true]) ∧ BS w' w.heap.size A' m c' (part b q m) ∧ Below w.heap.size w w' := by
  have hl := h.blen
  have hcap := h.cap
  have hmax := h.max
  obtain ⟨g, o, rfl, hg, _⟩ := h.at_ (by omega)
  have hs : Sl (w.alloc (.cells #[] 5)) B 1 (some ⟨g, o + q, none⟩) (q + m - q) (c - q) (u8s (part b q m)) := by rw [Nat.add_sub_cancel_left]; exact (h.sub_ q m (by omega) hm0).alloc hB _
  have q0 : ¬ (q : Int) < 0 := by omega
  have q1 : ¬ (m : Int) < 0 := by omega
  have q2 : ¬ (n : Int) < (q : Int) := by omega
  have q3 : ¬ (n : Int) - (q : Int) < (m : Int) := by omega
  have hwr : IntKind.i64.wrap ((n : Int) - (q : Int)) = (n : Int) - (q : Int) := by rw [IntKind.wrap_i64]; omega
  have hwr2 : IntKind.i64.wrap ((q : Int) + (m : Int)) = (q : Int) + (m : Int) := by rw [IntKind.wrap_i64]; omega
  go_enter Tryz.func54, Tryz.ntmps54
  go_wp2_with (at_builtin; refine app_u8 rfl _ _ rfl (BS.new' w w.heap.size (by simp)) rfl hs rfl (by omega) (by simp) ?_; intro A1 c1 w1 h1 hb1; rw [Nat.zero_add, List.nil_append] at h1)
  have hqm : q + m - q = m := by omega
  rw [hqm] at h1
  refine bodyPost_ret (results_tmp2 Tryz.results54 _ _ _) rfl ⟨A1, c1, by first | rfl | simp [hqm], h1, (Below.one _ _).trans hb1⟩
set_option maxHeartbeats 1000000 in
theorem s_Slice_zero (A : Option Addr) (n c : Nat) (b : List UInt8) (q : Nat) (w : World) (B : Nat) (h : Sl w B 1 A n c (u8s b)) (hB : B ≤ w.heap.size) (hn : n ≤ 1048576) (hlt : q ≤ n) :
    Calls Tryz.prog 54 #[.slice A n c, .int .i64 q, .int .i64 (0 : Nat)] w fun r w' => ∃ A' c', r = .returned (.tuple #[.slice A' 0 c', .bool true]) ∧ BS w' w.heap.size A' 0 c' [] ∧ Below w.heap.size w w' := by
  have hcap := h.cap
  have hmax := h.max
  have hs : ∀ A1 (w1 : World), Sl w1 0 1 A1 0 (c - q) (u8s []) := fun A1 w1 => ⟨rfl, Nat.zero_le _, by omega, fun h0 => absurd h0 (by decide)⟩
  have q0 : ¬ (q : Int) < 0 := by omega
  have q2 : ¬ (n : Int) < (q : Int) := by omega
  have q3 : ¬ (n : Int) - (q : Int) < 0 := by omega
  have hwr : IntKind.i64.wrap ((n : Int) - (q : Int)) = (n : Int) - (q : Int) := by rw [IntKind.wrap_i64]; omega
  go_enter Tryz.func54, Tryz.ntmps54
  go_wp2_with (at_builtin; refine app_u8 (B := 0) rfl _ _ rfl (BS.new' w w.heap.size (by simp)) rfl (hs _ _) rfl (by omega) (by simp) ?_; intro A1 c1 w1 h1 hb1; rw [List.nil_append] at h1)
  all_goals
    refine bodyPost_ret (results_tmp2 Tryz.results54 _ _ _) rfl ⟨A1, c1, rfl, h1, (Below.one _ _).trans hb1⟩
theorem s_Slice_ok (A : Option Addr) (n c : Nat) (b : List UInt8) (q m : Nat) (w : World) (B : Nat) (h : Sl w B 1 A n c (u8s b)) (hB : B ≤ w.heap.size) (hn : n ≤ 1048576) (hlt : q + m ≤ n) :
    Calls Tryz.prog 54 #[.slice A n c, .int .i64 q, .int .i64 m] w fun r w' => ∃ A' c', r = .returned (.tuple #[.slice A' m c', .bool true]) ∧ BS w' w.heap.size A' m c' (part b q m) ∧ Below w.heap.size w w' := by
  rcases Nat.eq_zero_or_pos m with rfl | hm
  · have e : part b q 0 = [] := by unfold part; simp
    rw [e]
    exact s_Slice_zero A n c b q w B h hB hn (by omega)
  · exact s_Slice_yes A n c b q m w B h hB hn hm hlt
end Go.Proofs.YtmelnaidjgpclaaGreatDoor

namespace Go.Proofs.YtmelnaidjgpclaaGreatDoor
open Go.RowKit

def GetRes (w w' : World) (T : Tr) (pl cd : Int) (r : Ending) : Prop :=
  ∃ u, r = .returned (.tuple #[trV T u, .int .i64 pl, .int .i64 cd]) ∧ LsAt w' T.l u ∧ Own w' w.heap.size u.fp ∧ Below w.heap.size w w'
def resP (R : Rd) : Int := match R with
  | .good _ q => q
  | .bad _ => 0
set_option maxHeartbeats 2000000 in
theorem s_get_deep (A : Option Addr) (n c : Nat) (i d : Int) (w : World) (hd : d < 1) :
    Calls Tryz.prog 25 #[.slice A n c, .int .i64 i, .int .i64 d] w fun r w' => GetRes w w' zeroT 0 2 r := by
  have k2 := Below.two w (.cells #[.int .i64 0, .int .i64 0, .int .i64 0, .string ⟨#[]⟩, .slice none 0 0] 28) (.cells #[.int .i64 0, .int .i64 0, .int .i64 0, .string ⟨#[]⟩, .slice none 0 0] 28)
  have hR : Blk ((w.alloc (.cells #[.int .i64 0, .int .i64 0, .int .i64 0, .string ⟨#[]⟩, .slice none 0 0] 28)).alloc (.cells #[.int .i64 0, .int .i64 0, .int .i64 0, .string ⟨#[]⟩, .slice none 0 0] 28)) w.heap.size 28 #[.int .i64 0, .int .i64 0, .int .i64 0, .string ⟨#[]⟩, .slice none 0 0] := (Blk.new w _ _).alloc _
  have hdd : decide (d < 1) = true := by simpa using hd
  have hN : Blk ((w.alloc (.cells #[.int .i64 0, .int .i64 0, .int .i64 0, .string ⟨#[]⟩, .slice none 0 0] 28)).alloc (.cells #[.int .i64 0, .int .i64 0, .int .i64 0, .string ⟨#[]⟩, .slice none 0 0] 28)) (w.heap.size + 1) 28 #[.int .i64 0, .int .i64 0, .int .i64 0, .string ⟨#[]⟩, .slice none 0 0] := by simpa using Blk.new (w.alloc (.cells #[.int .i64 0, .int .i64 0, .int .i64 0, .string ⟨#[]⟩, .slice none 0 0] 28)) 28 #[.int .i64 0, .int .i64 0, .int .i64 0, .string ⟨#[]⟩, .slice none 0 0]
  go_enter Tryz.func25, Tryz.ntmps25
  go_upto_region 3 with fail
  generalize (w.alloc (.cells #[.int .i64 0, .int .i64 0, .int .i64 0, .string ⟨#[]⟩, .slice none 0 0] 28)).alloc (.cells #[.int .i64 0, .int .i64 0, .int .i64 0, .string ⟨#[]⟩, .slice none 0 0] 28) = wa at k2 hR hN ⊢
  have b0 := hN.cell 0
  have b1 := hN.cell 1
  have b2 := hN.cell 2
  have b3 := hN.cell 3
  have b4 := hN.cell 4
  simp only [List.getElem?_toArray, List.getElem?_cons_succ, List.getElem?_cons_zero] at b0 b1 b2 b3 b4
  obtain ⟨x0, x1, x2, x3, x4, ⟨s0, t0⟩, ⟨s1, t1⟩, ⟨s2, t2⟩, ⟨s3, t3⟩, s4, t4⟩ := hR.five (o := 0) (by simp) (.int .i64 0) (.int .i64 0) (.int .i64 0) (.string ⟨#[]⟩)
  go_wp2_with fail
  have hblk : Blk (set5 wa w.heap.size 0 zeroT ⟨none, 0, 0, []⟩) w.heap.size 28 _ := Blk.five_ hR zeroT ⟨none, 0, 0, []⟩
  have hbl : Below w.heap.size w (set5 wa w.heap.size 0 zeroT ⟨none, 0, 0, []⟩) := below_set5 k2 (Nat.le_refl _)
  have hres := fun (tm : Array Value) (hp : tm.getD 6 undef = .pointer (some ⟨w.heap.size, 0, none⟩)) => results_blk3 (P := Tryz.prog) (tmps := tm) Tryz.results25 Tryz.isAgg28 (by exact Tryz.sizeOf28) hp hblk
  refine bodyPost_ret (hres _ rfl) rfl ?_
  exact ⟨⟨none, 0, 0, []⟩, rfl, LsAt.nil_ _ _, Own.nil_ _ _, hbl⟩
set_option maxHeartbeats 4000000 in
theorem s_get_mark (A : Option Addr) (n c : Nat) (b : List UInt8) (i d : Int) (w : World) (B : Nat) (h : Sl w B 1 A n c (u8s b)) (hB : B ≤ w.heap.size) (hn : n ≤ 1048576) (hi : -9223372036854775808 ≤ i ∧ i ≤ 9223372036854775807) (hd : 1 ≤ d) (k m q cd : Int) (hG : getMark b i = (k, m, q, cd)) (hcd : cd ≠ 0) :
    Calls Tryz.prog 25 #[.slice A n c, .int .i64 i, .int .i64 d] w fun r w' => GetRes w w' zeroT 0 cd r := by
  have k2 := Below.two w (.cells #[.int .i64 0, .int .i64 0, .int .i64 0, .string ⟨#[]⟩, .slice none 0 0] 28) (.cells #[.int .i64 0, .int .i64 0, .int .i64 0, .string ⟨#[]⟩, .slice none 0 0] 28)
  have hR : Blk ((w.alloc (.cells #[.int .i64 0, .int .i64 0, .int .i64 0, .string ⟨#[]⟩, .slice none 0 0] 28)).alloc (.cells #[.int .i64 0, .int .i64 0, .int .i64 0, .string ⟨#[]⟩, .slice none 0 0] 28)) w.heap.size 28 #[.int .i64 0, .int .i64 0, .int .i64 0, .string ⟨#[]⟩, .slice none 0 0] := (Blk.new w _ _).alloc _
  have hN : Blk ((w.alloc (.cells #[.int .i64 0, .int .i64 0, .int .i64 0, .string ⟨#[]⟩, .slice none 0 0] 28)).alloc (.cells #[.int .i64 0, .int .i64 0, .int .i64 0, .string ⟨#[]⟩, .slice none 0 0] 28)) (w.heap.size + 1) 28 #[.int .i64 0, .int .i64 0, .int .i64 0, .string ⟨#[]⟩, .slice none 0 0] := by simpa using Blk.new (w.alloc (.cells #[.int .i64 0, .int .i64 0, .int .i64 0, .string ⟨#[]⟩, .slice none 0 0] 28)) 28 #[.int .i64 0, .int .i64 0, .int .i64 0, .string ⟨#[]⟩, .slice none 0 0]
  have hdd : decide (d < 1) = false := by simp; omega
  have hcb : (cd != 0) = true := by simpa using hcd
  go_enter Tryz.func25, Tryz.ntmps25
  go_upto_region 4 with fail
  generalize (w.alloc (.cells #[.int .i64 0, .int .i64 0, .int .i64 0, .string ⟨#[]⟩, .slice none 0 0] 28)).alloc (.cells #[.int .i64 0, .int .i64 0, .int .i64 0, .string ⟨#[]⟩, .slice none 0 0] 28) = wa at k2 hR hN ⊢
  have HM := s_GetMark A n c b i wa B (h.below (k2.mono hB)) (Nat.le_trans hB k2.size) hn hi
  rw [hG] at HM
  unfold ret4 markRet at HM
  go_upto_region 5 with (go_at_call 51; refine HM.mono ?_; rintro r w2 ⟨rfl, hb2⟩)
  have km := Below.one w2 (.cells #[.int .i64 k, .int .i64 m] 63)
  have R3 := (hR.below hb2 hR.lt).below km (hR.below hb2 hR.lt).lt
  have N3 := (hN.below hb2 hN.lt).below km (hN.below hb2 hN.lt).lt
  have M3 := Blk.new w2 63 #[.int .i64 k, .int .i64 m]
  have K3 := (k2.up hb2).up km
  generalize w2.heap.size = bm at M3 ⊢
  generalize w2.alloc (.cells #[.int .i64 k, .int .i64 m] 63) = wb at R3 N3 M3 K3 ⊢
  clear hR hN HM hb2 km k2
  have b0 := N3.cell 0
  have b1 := N3.cell 1
  have b2 := N3.cell 2
  have b3 := N3.cell 3
  have b4 := N3.cell 4
  simp only [List.getElem?_toArray, List.getElem?_cons_succ, List.getElem?_cons_zero] at b0 b1 b2 b3 b4
  obtain ⟨x0, x1, x2, x3, x4, ⟨s0, t0⟩, ⟨s1, t1⟩, ⟨s2, t2⟩, ⟨s3, t3⟩, s4, t4⟩ := R3.five (o := 0) (by simp) (.int .i64 0) (.int .i64 0) (.int .i64 0) (.string ⟨#[]⟩)
  go_wp2_with fail
  have hblk : Blk (set5 wb w.heap.size 0 zeroT ⟨none, 0, 0, []⟩) w.heap.size 28 _ := Blk.five_ R3 zeroT ⟨none, 0, 0, []⟩
  have hbl : Below w.heap.size w (set5 wb w.heap.size 0 zeroT ⟨none, 0, 0, []⟩) := below_set5 K3 (Nat.le_refl _)
  have hres := fun (tm : Array Value) (hp : tm.getD 6 undef = .pointer (some ⟨w.heap.size, 0, none⟩)) => results_blk3 (P := Tryz.prog) (tmps := tm) Tryz.results25 Tryz.isAgg28 (by exact Tryz.sizeOf28) hp hblk
  refine bodyPost_ret (hres _ rfl) rfl ?_
  exact ⟨⟨none, 0, 0, []⟩, rfl, LsAt.nil_ _ _, Own.nil_ _ _, hbl⟩
def GetSays (A : Option Addr) (n c : Nat) (b : List UInt8) (B : Nat) (f : Nat) : Prop :=
  ∀ (i d : Int) (w : World), Sl w B 1 A n c (u8s b) → B ≤ w.heap.size → 2 * (n - i.toNat) + 3 ≤ f → (-9223372036854775808 ≤ i ∧ i ≤ 9223372036854775807) → (-9223372036854775808 ≤ d ∧ d ≤ 9223372036854775807) →
    Calls Tryz.prog 25 #[.slice A n c, .int .i64 i, .int .i64 d] w fun r w' => GetRes w w' (resR (kV b f d i)).1 (resP (kV b f d i)) (resR (kV b f d i)).2 r
theorem s_l6FltVal (a e : Int) (w : World) : Calls Tryz.prog 53 #[.agg #[.int .i64 a, .int .i64 e]] w fun r w' => r = .returned (trV (leafTr 4 a e ⟨#[]⟩) ⟨none, 0, 0, []⟩) ∧ Below w.heap.size w w' := by
  have k2 := Below.two w (.cells #[.int .i64 a, .int .i64 e] 51) (.cells #[.int .i64 4, .int .i64 a, .int .i64 e, .string ⟨#[]⟩, .slice none 0 0] 28)
  have hZ2 : Blk ((w.alloc (.cells #[.int .i64 a, .int .i64 e] 51)).alloc (.cells #[.int .i64 4, .int .i64 a, .int .i64 e, .string ⟨#[]⟩, .slice none 0 0] 28)) (w.heap.size + 1) 28 #[.int .i64 4, .int .i64 a, .int .i64 e, .string ⟨#[]⟩, .slice none 0 0] := by
    simpa using Blk.new (w.alloc (.cells #[.int .i64 a, .int .i64 e] 51)) 28 #[.int .i64 4, .int .i64 a, .int .i64 e, .string ⟨#[]⟩, .slice none 0 0]
  go_enter Tryz.func53, Tryz.ntmps53
  go_wp2_with fail
  exact bodyPost_ret (results_blk Tryz.results53 Tryz.isAgg28 (by exact Tryz.sizeOf28) rfl hZ2) rfl ⟨rfl, k2⟩
set_option maxHeartbeats 4000000 in
theorem s_get_some (A : Option Addr) (n c : Nat) (b : List UInt8) (i d : Int) (w : World) (B : Nat) (h : Sl w B 1 A n c (u8s b)) (hB : B ≤ w.heap.size) (hn : n ≤ 1048576) (hi : -9223372036854775808 ≤ i ∧ i ≤ 9223372036854775807) (hd : 1 ≤ d) (hd2 : d ≤ 9223372036854775807) (k m q : Int) (hG : getMark b i = (k, m, q, 0)) (f : Nat) (hf : 2 * (n - i.toNat) + 3 ≤ f + 2) (hV : ∀ g, g < f + 1 → GetSays A n c b B g) (n1 x1 : Int) (str : ByteArray) (q1 mn : Nat) (hh : headR b k m q.toNat = some ((n1, x1, str), q1, mn)) :
    Calls Tryz.prog 25 #[.slice A n c, .int .i64 i, .int .i64 d] w fun r w' => GetRes w w' (resR (closeK k (n1, x1, str) (kM b (f + 1) d mn q1 []))).1 (resP (closeK k (n1, x1, str) (kM b (f + 1) d mn q1 []))) (resR (closeK k (n1, x1, str) (kM b (f + 1) d mn q1 []))).2 r := by
  have hgood := getMark_good hG
  obtain ⟨qn, rfl⟩ := Int.eq_ofNat_of_zero_le (show 0 ≤ q by omega)
  rw [Int.toNat_natCast] at hh
  have hbl := h.blen
  obtain ⟨R, hR0⟩ : ∃ R, kM b (f + 1) d mn q1 [] = R := ⟨_, rfl⟩
  rw [hR0]
  have HR0 := Lib.hid hR0
  clear hR0
  have k2 := Below.two w (.cells #[.int .i64 0, .int .i64 0, .int .i64 0, .string ⟨#[]⟩, .slice none 0 0] 28) (.cells #[.int .i64 0, .int .i64 0, .int .i64 0, .string ⟨#[]⟩, .slice none 0 0] 28)
  have hR : Blk ((w.alloc (.cells #[.int .i64 0, .int .i64 0, .int .i64 0, .string ⟨#[]⟩, .slice none 0 0] 28)).alloc (.cells #[.int .i64 0, .int .i64 0, .int .i64 0, .string ⟨#[]⟩, .slice none 0 0] 28)) w.heap.size 28 #[.int .i64 0, .int .i64 0, .int .i64 0, .string ⟨#[]⟩, .slice none 0 0] := (Blk.new w _ _).alloc _
  have hN : Blk ((w.alloc (.cells #[.int .i64 0, .int .i64 0, .int .i64 0, .string ⟨#[]⟩, .slice none 0 0] 28)).alloc (.cells #[.int .i64 0, .int .i64 0, .int .i64 0, .string ⟨#[]⟩, .slice none 0 0] 28)) (w.heap.size + 1) 28 #[.int .i64 0, .int .i64 0, .int .i64 0, .string ⟨#[]⟩, .slice none 0 0] := by simpa using Blk.new (w.alloc (.cells #[.int .i64 0, .int .i64 0, .int .i64 0, .string ⟨#[]⟩, .slice none 0 0] 28)) 28 #[.int .i64 0, .int .i64 0, .int .i64 0, .string ⟨#[]⟩, .slice none 0 0]
  have hdd : decide (d < 1) = false := by simp; omega
  go_enter Tryz.func25, Tryz.ntmps25
  go_upto_region 4 with fail
  generalize (w.alloc (.cells #[.int .i64 0, .int .i64 0, .int .i64 0, .string ⟨#[]⟩, .slice none 0 0] 28)).alloc (.cells #[.int .i64 0, .int .i64 0, .int .i64 0, .string ⟨#[]⟩, .slice none 0 0] 28) = wa at k2 hR hN ⊢
  have HM := s_GetMark A n c b i wa B (h.below (k2.mono hB)) (Nat.le_trans hB k2.size) hn hi
  rw [hG] at HM
  unfold ret4 markRet at HM
  go_upto_region 5 with (go_at_call 51; refine HM.mono ?_; rintro r w2 ⟨rfl, hb2⟩)
  have km := Below.one w2 (.cells #[.int .i64 k, .int .i64 m] 63)
  have R3 := (hR.below hb2 hR.lt).below km (hR.below hb2 hR.lt).lt
  have N3 := (hN.below hb2 hN.lt).below km (hN.below hb2 hN.lt).lt
  have M3 := Blk.new w2 63 #[.int .i64 k, .int .i64 m]
  have K3 := (k2.up hb2).up km
  generalize w2.heap.size = bm at M3 ⊢
  generalize w2.alloc (.cells #[.int .i64 k, .int .i64 m] 63) = wb at R3 N3 M3 K3 ⊢
  clear hR hN HM hb2 km k2
  have e0 := M3.cell 0
  have e1 := M3.cell 1
  simp only [List.getElem?_toArray, List.getElem?_cons_succ, List.getElem?_cons_zero] at e0 e1
  go_upto_region 8 with fail
  have kv := Below.one wb (.cells #[.int .i64 k, .int .i64 0, .int .i64 0, .string ⟨#[]⟩, .slice none 0 0] 28)
  have R4 := R3.below kv R3.lt
  have N4 := N3.below kv N3.lt
  have M4 := M3.below kv M3.lt
  have V4 := Blk.new wb 28 #[.int .i64 k, .int .i64 0, .int .i64 0, .string ⟨#[]⟩, .slice none 0 0]
  have K4 := K3.up kv
  have zv : w.heap.size + 1 < wb.heap.size := N3.lt
  have zm : bm < wb.heap.size := M3.lt
  generalize wb.heap.size = bv at V4 zv zm ⊢
  generalize wb.alloc (.cells #[.int .i64 k, .int .i64 0, .int .i64 0, .string ⟨#[]⟩, .slice none 0 0] 28) = wc at R4 N4 M4 V4 K4 ⊢
  clear R3 N3 M3 K3 kv e0 e1
  have e0 := M4.cell 0
  have e1 := M4.cell 1
  simp only [List.getElem?_toArray, List.getElem?_cons_succ, List.getElem?_cons_zero] at e0 e1
  go_upto_block 0 with fail
  have hmn : mn ≤ 131070 := headR_many hh hgood.2.2.2.2.2
  have hq1 : q1 ≤ n ∧ qn ≤ q1 := by have := headR_at hh; omega
  go_cut [11, 14] from 40 (fun s11 s14 w' => s11 = .int .i64 q1 ∧ s14 = .int .i64 mn ∧ Blk w' w.heap.size 28 #[.int .i64 0, .int .i64 0, .int .i64 0, .string ⟨#[]⟩, .slice none 0 0] ∧ Blk w' (w.heap.size + 1) 28 #[.int .i64 0, .int .i64 0, .int .i64 0, .string ⟨#[]⟩, .slice none 0 0] ∧ Blk w' bv 28 #[.int .i64 k, .int .i64 n1, .int .i64 x1, .string str, .slice none 0 0] ∧ Below w.heap.size w w')
  case first =>
    clear HR0 hV hmn hq1
    have hbv : bv < wc.heap.size := V4.lt
    by_cases k4 : k = 4
    · subst k4
      have hh2 := hh
      unfold headR at hh2
      rw [if_pos rfl] at hh2
      obtain ⟨a, e, ok, hf⟩ := bitsFltV_shape m
      rw [hf, fltOf_fltV] at hh2
      simp only [Option.some.injEq, Prod.mk.injEq] at hh2
      obtain ⟨⟨rfl, rfl, rfl⟩, rfl, rfl⟩ := hh2
      have HB := s_BitsFlt m wc
      rw [hf] at HB
      unfold fltV at HB
      have HL := fun w1 => s_l6FltVal a e w1
      obtain ⟨T, hT⟩ : ∃ T, leafTr 4 a e ⟨#[]⟩ = T := ⟨_, rfl⟩
      rw [hT] at HL
      have HT := Lib.hid hT
      clear hT hh hf hG
      go_wp2_with (first
        | (go_at_call 52; refine HB.mono ?_; rintro r w5 ⟨rfl, hb5⟩; have kf := hb5.up (Below.one w5 (.cells #[.int .i64 a, .int .i64 e] 51)))
        | (go_at_call 53; refine (HL _).mono ?_; rintro r w6 ⟨rfl, hb6⟩; have kk := kf.up hb6; have V6 := V4.below kk V4.lt; obtain ⟨x0, x1, x2, x3, x4, ⟨s0, t0⟩, ⟨s1, t1⟩, ⟨s2, t2⟩, ⟨s3, t3⟩, s4, t4⟩ := V6.five (o := 0) (by simp) (.int .i64 T.k) (.int .i64 T.n) (.int .i64 T.x) (.string T.s)))
      go_meet
      case rel =>
        have R7 := (R4.below kk R4.lt).far5 (g := bv) (o := 0) (t := T) (e := ⟨none, 0, 0, []⟩) (by omega)
        have N7 := (N4.below kk N4.lt).far5 (g := bv) (o := 0) (t := T) (e := ⟨none, 0, 0, []⟩) (by omega)
        have V7 : Blk (set5 w6 bv 0 T ⟨none, 0, 0, []⟩) bv 28 _ := Blk.five_ V6 T ⟨none, 0, 0, []⟩
        have K7 : Below w.heap.size w (set5 w6 bv 0 T ⟨none, 0, 0, []⟩) := below_set5 (K4.up kk) (by omega)
        refine ⟨rfl, rfl, R7, N7, ?_, K7⟩
        rw [← HT.out] at V7 ⊢
        exact V7
    have hk4 : (k == 4) = false := by simpa using k4
    by_cases k9 : k = 9
    · subst k9
      have hh2 := hh
      unfold headR manyN at hh2
      rw [if_neg (by decide), if_neg (by decide), if_pos (by decide), if_neg (by decide)] at hh2
      simp only [Option.some.injEq, Prod.mk.injEq] at hh2
      obtain ⟨⟨rfl, rfl, rfl⟩, rfl, rfl⟩ := hh2
      have hm0 : ((m.toNat : Nat) : Int) = m := by have := (hgood.2.2.2.2.2 (by decide)).1; omega
      have HM0 := Lib.hid hm0
      clear hm0
      go_wp2_with fail
      go_meet
      case rel => exact ⟨rfl, by rw [HM0.out], R4, N4, V4, K4⟩
    have hk9 : (k == 9) = false := by simpa using k9
    by_cases k10 : k = 10
    · subst k10
      have hh2 := hh
      unfold headR manyN at hh2
      rw [if_neg (by decide), if_neg (by decide), if_pos (by decide), if_pos rfl] at hh2
      simp only [Option.some.injEq, Prod.mk.injEq] at hh2
      obtain ⟨⟨rfl, rfl, rfl⟩, rfl, rfl⟩ := hh2
      have hmb := hgood.2.2.2.2.2 (by decide)
      have hm0 : (((2 * m).toNat : Nat) : Int) = 2 * m := by omega
      have HM0 := Lib.hid hm0
      have hw2 : IntKind.i64.wrap (2 * m) = 2 * m := by rw [IntKind.wrap_i64]; omega
      clear hm0
      go_wp2_with fail
      go_meet
      case rel => exact ⟨rfl, by rw [HM0.out], R4, N4, V4, K4⟩
    have hk10 : (k == 10) = false := by simpa using k10
    by_cases k78 : k = 7 ∨ k = 8
    rotate_left
    · have hk7 : (k == 7) = false := by simp; omega
      have hk8 : (k == 8) = false := by simp; omega
      have hh2 := hh
      unfold headR at hh2
      rw [if_neg k4, if_neg k78, if_neg (by omega)] at hh2
      simp only [Option.some.injEq, Prod.mk.injEq] at hh2
      obtain ⟨⟨rfl, rfl, rfl⟩, rfl, rfl⟩ := hh2
      have f1 := V4.frozen 1
      have p1 := V4.cell 1
      simp only [List.getElem?_toArray, List.getElem?_cons_succ, List.getElem?_cons_zero] at p1
      clear hh
      go_wp2_with fail
      go_meet
      case rel => exact ⟨rfl, rfl, R4.far (p := ⟨bv, 1, none⟩) (by show w.heap.size ≠ bv; omega) _, N4.far (p := ⟨bv, 1, none⟩) (by show w.heap.size + 1 ≠ bv; omega) _, by simpa using V4.set_ 1 (.int .i64 m), K4.setCell (p := ⟨bv, 1, none⟩) (by show w.heap.size ≤ bv; omega) _⟩
    · have hmb := hgood.2.2.2.2.2 (by omega)
      obtain ⟨mm, rfl⟩ := Int.eq_ofNat_of_zero_le hmb.1
      have hh2 := hh
      unfold headR at hh2
      rw [if_neg k4, if_pos k78, Int.toNat_natCast] at hh2
      split at hh2
      · cases hh2
      rename_i hsh
      split at hh2
      · cases hh2
      rename_i hva
      simp only [Option.some.injEq, Prod.mk.injEq] at hh2
      obtain ⟨⟨rfl, rfl, hstr⟩, rfl, rfl⟩ := hh2
      have HS := s_Slice_ok A n c b qn mm wc B (h.below (K4.mono hB)) (Nat.le_trans hB K4.size) hn (by omega)
      have hcut : (cutS b qn mm).data.toList = part b qn mm := by unfold cutS; simp
      have hTX := fun w1 => s_TextOk (cutS b qn mm) w1 (by show (part b qn mm).toArray.size ≤ _; rw [List.size_toArray]; unfold part; rw [List.length_take]; omega)
      rw [hcut] at hTX
      have HST := Lib.hid hstr
      have hwq : IntKind.i64.wrap ((qn : Int) + (mm : Int)) = (qn : Int) + (mm : Int) := by rw [IntKind.wrap_i64]; omega
      obtain ⟨ss, hss⟩ : ∃ ss, cutS b qn mm = ss := ⟨_, rfl⟩
      rw [hss] at hTX
      have hcv0 := fun w1 B1 A1 c1 (h1 : Sl w1 B1 1 A1 mm c1 (u8s (part b qn mm))) => run_str_sl (P := Tryz.prog) 22 5 Tryz.underlying22 Tryz.underlying5 h1 9 Tryz.underlying9
      change ∀ w1 B1 A1 c1, _ → (convert 22 9 (.slice A1 mm c1)).run Tryz.prog w1 = .ok (.string (cutS b qn mm)) w1 at hcv0
      rw [hss] at hcv0
      have HSS := Lib.hid (hss.symm.trans hstr)
      have f3 := fun w1 (hb : Below wc.heap.size wc w1) => (V4.below hb V4.lt).frozen 3
      have p3 : ∀ w1, Below wc.heap.size wc w1 → w1.cell? ⟨bv, 3, none⟩ = some (.string ⟨#[]⟩) := fun w1 hb => (V4.below hb V4.lt).cell 3
      have m0 : ∀ w1, Below wc.heap.size wc w1 → w1.cell? ⟨bm, 0, none⟩ = some (.int .i64 k) := fun w1 hb => (M4.below hb M4.lt).cell 0
      have m1 : ∀ w1, Below wc.heap.size wc w1 → w1.cell? ⟨bm, 1, none⟩ = some (.int .i64 mm) := fun w1 hb => (M4.below hb M4.lt).cell 1
      have zbm : bm < bv := zm
      have hfin : ∀ w1, Below wc.heap.size wc w1 → ((Value.int .i64 ((qn : Int) + (mm : Int))) = .int .i64 ((qn + mm : Nat) : Int) ∧ (Value.int .i64 0) = .int .i64 ((0 : Nat) : Int) ∧ Blk (w1.setCell ⟨bv, 3, none⟩ (.string ss)) w.heap.size 28 #[.int .i64 0, .int .i64 0, .int .i64 0, .string ⟨#[]⟩, .slice none 0 0] ∧ Blk (w1.setCell ⟨bv, 3, none⟩ (.string ss)) (w.heap.size + 1) 28 #[.int .i64 0, .int .i64 0, .int .i64 0, .string ⟨#[]⟩, .slice none 0 0] ∧ Blk (w1.setCell ⟨bv, 3, none⟩ (.string ss)) bv 28 #[.int .i64 k, .int .i64 0, .int .i64 0, .string str, .slice none 0 0] ∧ Below w.heap.size w (w1.setCell ⟨bv, 3, none⟩ (.string ss))) := fun w1 hb =>
        ⟨by go_num, rfl, (R4.below hb R4.lt).far (p := ⟨bv, 3, none⟩) (by show w.heap.size ≠ bv; omega) _, (N4.below hb N4.lt).far (p := ⟨bv, 3, none⟩) (by show w.heap.size + 1 ≠ bv; omega) _, by rw [← HSS.out]; simpa using (V4.below hb V4.lt).set_ 3 (.string ss), (K4.up hb).setCell (p := ⟨bv, 3, none⟩) (by show w.heap.size ≤ bv; omega) _⟩
      clear hh hstr hss hcut
      rcases k78 with rfl | rfl
      · have hv : Lib.validD (part b qn mm) = true := by cases hx : Lib.validD (part b qn mm) with
          | true => rfl
          | false => exact absurd ⟨rfl, hx⟩ hva
        rw [hv] at hTX
        clear hva hv
        go_wp2_with (first
          | (go_at_call 54; refine HS.mono ?_; rintro r w5 ⟨A5, c5, rfl, h5, hb5⟩; have hcv := hcv0 w5 _ A5 c5 h5.sl; have m05 := m0 _ hb5; have m15 := m1 _ hb5)
          | (go_at_call 55; refine (hTX _).mono ?_; rintro r w6 ⟨rfl, hb6⟩; have k6 := hb5.up hb6; have hcv6 := hcv0 w6 _ A5 c5 (h5.below hb6).sl; have f36 := f3 _ k6; have p36 := p3 _ k6; have m16 := m1 _ k6; have m17 : (w6.setCell ⟨bv, 3, none⟩ (.string ss)).cell? ⟨bm, 1, none⟩ = some (.int .i64 mm) := ((M4.below k6 M4.lt).far (p := ⟨bv, 3, none⟩) (by show bm ≠ bv; omega) (.string ss)).cell 1))
        go_meet
        case rel => exact hfin w6 k6
      · clear hTX hva
        go_wp2_with (go_at_call 54; refine HS.mono ?_; rintro r w5 ⟨A5, c5, rfl, h5, hb5⟩; have hcv := hcv0 w5 _ A5 c5 h5.sl; have m05 := m0 _ hb5; have m15 := m1 _ hb5; have f35 := f3 _ hb5; have p35 := p3 _ hb5; have m17 : (w5.setCell ⟨bv, 3, none⟩ (.string ss)).cell? ⟨bm, 1, none⟩ = some (.int .i64 mm) := ((M4.below hb5 M4.lt).far (p := ⟨bv, 3, none⟩) (by show bm ≠ bv; omega) (.string ss)).cell 1)
        go_meet
        case rel => exact hfin w5 hb5
  case rest =>
    obtain ⟨rfl, rfl, R5, N5, V5, K5⟩ := hcut
    clear R4 N4 M4 V4 K4 e0 e1 hG hh
    have RV0 := RV.nil_ wc (bv + 1)
    have hVl : bv < wc.heap.size := V5.lt
    go_wp2_with fail
    go_loopg [11, 19, 20, 21, 22] mn (fun f' v11 v19 v20 v21 v22 wr => ∃ (j q0 fq c' : Nat) (A' : Option Addr) (acc : List Tr) (es : List El), v11 = .int .i64 q0 ∧ v19 = .int .i64 j ∧ j + f' = mn ∧ q0 ≤ n ∧ 2 * (n - q0) + 4 ≤ fq ∧ fq ≤ f + 1 ∧ Hid (kM b fq d f' q0 acc = R) ∧ Blk wr w.heap.size 28 #[.int .i64 0, .int .i64 0, .int .i64 0, .string ⟨#[]⟩, .slice none 0 0] ∧ Blk wr (w.heap.size + 1) 28 #[.int .i64 0, .int .i64 0, .int .i64 0, .string ⟨#[]⟩, .slice none 0 0] ∧ Blk wr bv 28 #[.int .i64 k, .int .i64 n1, .int .i64 x1, .string str, .slice A' j c'] ∧ RV wr (bv + 1) A' j c' acc es ∧ Below w.heap.size w wr)
    case atStart => exact ⟨0, q1, f + 1, 0, none, [], [], rfl, rfl, by omega, by omega, by omega, Nat.le_refl _, HR0, R5, N5, V5, RV0, K5⟩
    case round =>
      obtain ⟨j, q0, fq, c', A', acc, es, rfl, rfl, hjf, hq0, hfq, hfqF, hP, hR, hN, hO, hRV, hK⟩ := hrel
      clear R5 N5 V5 K5 RV0 HR0 hVl
      obtain ⟨g0, rfl⟩ : ∃ z, fq = z + 1 := ⟨fq - 1, by omega⟩
      by_cases hlt : j < mn
      · obtain ⟨f0, rfl⟩ : ∃ z, gk = z + 1 := ⟨gk - 1, by omega⟩
        have hk1 : IntKind.i64.wrap (d - 1) = d - 1 := by rw [IntKind.wrap_i64]; omega
        have HV := hV g0 (by omega) q0 (d - 1) wr (h.below (hK.mono hB)) (Nat.le_trans hB hK.size) (by rw [Int.toNat_natCast]; omega) (by omega) (by omega)
        obtain ⟨X, hX⟩ : ∃ X, kV b g0 (d - 1) q0 = X := ⟨_, rfl⟩
        have hP2 := hP.out
        rw [kM] at hP2
        rw [hX] at HV hP2
        have hXg : ∀ v q', X = .good v q' → q0 < q' ∧ q' ≤ n := fun v q' he => by have := (kVM_good b g0).1 _ _ _ _ (hX.trans he); rw [Int.toNat_natCast] at this; omega
        have hXb : ∀ c0, X = .bad c0 → c0 ≠ 0 := fun c0 he => (kVM_bad b g0).1 _ _ _ (hX.trans he)
        clear hX hP hV
        have hlo : bv + 1 ≤ wr.heap.size := hO.lt
        cases X with
        | bad c0 =>
          have hc0 := hXb c0 rfl
          have hcb : (c0 != 0) = true := by simpa using hc0
          have HP := Lib.hid hP2
          simp only [resR, resP] at HV
          clear hP2 hXg hXb
          unfold GetRes at HV
          go_upto_region 30 with (go_at_call 25; refine HV.mono ?_; rintro r w5 ⟨u, rfl, hl5, ho5, hb5⟩)
          have kx := hb5.up (Below.one w5 (.cells #[.int .i64 zeroT.k, .int .i64 zeroT.n, .int .i64 zeroT.x, .string zeroT.s, .slice u.A u.n u.c] 28))
          have R6 := hR.below kx hR.lt
          have N6 := hN.below kx hN.lt
          have K6 := hK.up kx
          generalize w5.alloc (.cells #[.int .i64 zeroT.k, .int .i64 zeroT.n, .int .i64 zeroT.x, .string zeroT.s, .slice u.A u.n u.c] 28) = w6 at R6 N6 K6 ⊢
          clear hR hN hO hRV hK HV hl5 ho5 hb5 kx
          have b0 := N6.cell 0
          have b1 := N6.cell 1
          have b2 := N6.cell 2
          have b3 := N6.cell 3
          have b4 := N6.cell 4
          simp only [List.getElem?_toArray, List.getElem?_cons_succ, List.getElem?_cons_zero] at b0 b1 b2 b3 b4
          obtain ⟨x0, x1, x2, x3, x4, ⟨s0, t0⟩, ⟨s1, t1⟩, ⟨s2, t2⟩, ⟨s3, t3⟩, s4, t4⟩ := R6.five (o := 0) (by simp) (.int .i64 0) (.int .i64 0) (.int .i64 0) (.string ⟨#[]⟩)
          go_wp2_with fail
          have hblk : Blk (set5 w6 w.heap.size 0 zeroT ⟨none, 0, 0, []⟩) w.heap.size 28 _ := Blk.five_ R6 zeroT ⟨none, 0, 0, []⟩
          have hbl9 : Below w.heap.size w (set5 w6 w.heap.size 0 zeroT ⟨none, 0, 0, []⟩) := below_set5 K6 (Nat.le_refl _)
          have hres := fun (tm : Array Value) (hp : tm.getD 6 undef = .pointer (some ⟨w.heap.size, 0, none⟩)) => results_blk3 (P := Tryz.prog) (tmps := tm) Tryz.results25 Tryz.isAgg28 (by exact Tryz.sizeOf28) hp hblk
          refine bodyPost_ret (hres _ rfl) rfl ?_
          rw [← HP.out]
          exact ⟨⟨none, 0, 0, []⟩, rfl, LsAt.nil_ _ _, Own.nil_ _ _, hbl9⟩
        | good v q' =>
          obtain ⟨hqa, hqb⟩ := hXg v q' rfl
          have HP : Hid (kM b g0 d f0 q' (acc ++ [v]) = R) := Lib.hid hP2
          simp only [resR, resP] at HV
          clear hP2 hXg hXb
          unfold GetRes at HV
          have hnm : j + 1 ≤ 1099511627776 := by omega
          go_upto_region 32 with (first
            | (go_at_call 25; refine HV.mono ?_; rintro r w5 ⟨u, rfl, hl5, ho5, hb5⟩; have kx := Below.one w5 (.cells #[.int .i64 v.k, .int .i64 v.n, .int .i64 v.x, .string v.s, .slice u.A u.n u.c] 28); have kk := hb5.up kx; have R6 := hR.below kk hR.lt; have N6 := hN.below kk hN.lt; have O6 := hO.below kk hO.lt; have K6 := hK.up kk; have V6 := hRV.below kk; have l6 := hl5.below (fun g hg => ho5.lt hg) kx; have o6 := (ho5.below (fun g hg => ho5.lt hg) kx).mono (lo2 := bv + 1) hlo; have hdd := hRV.newOwn ho5; have zb5 : bv + 1 ≤ (w5.alloc (.cells #[.int .i64 v.k, .int .i64 v.n, .int .i64 v.x, .string v.s, .slice u.A u.n u.c] 28)).heap.size := O6.lt; have p5 := O6.cell 4; have v0 := (Blk.new w5 28 #[.int .i64 v.k, .int .i64 v.n, .int .i64 v.x, .string v.s, .slice u.A u.n u.c]).cell 0; have v1 := (Blk.new w5 28 #[.int .i64 v.k, .int .i64 v.n, .int .i64 v.x, .string v.s, .slice u.A u.n u.c]).cell 1; have v2 := (Blk.new w5 28 #[.int .i64 v.k, .int .i64 v.n, .int .i64 v.x, .string v.s, .slice u.A u.n u.c]).cell 2; have v3 := (Blk.new w5 28 #[.int .i64 v.k, .int .i64 v.n, .int .i64 v.x, .string v.s, .slice u.A u.n u.c]).cell 3; have v4 := (Blk.new w5 28 #[.int .i64 v.k, .int .i64 v.n, .int .i64 v.x, .string v.s, .slice u.A u.n u.c]).cell 4; simp only [List.getElem?_toArray, List.getElem?_cons_succ, List.getElem?_cons_zero] at v0 v1 v2 v3 v4 p5)
            | (at_builtin; refine app_val rfl _ _ rfl V6 rfl (by first | rfl | simp) rfl l6 o6 hdd hnm zb5 ?_; intro A3 c3 w7 h7 hb7 hg7; have O7 := O6.below hb7 (by omega); have p7 := O7.cell 4; have f7 := O7.frozen 4; simp only [List.getElem?_toArray, List.getElem?_cons_succ, List.getElem?_cons_zero] at p7))
          have R7 := (R6.below hb7 (by omega)).far (p := ⟨bv, 4, none⟩) (by show w.heap.size ≠ bv; omega) (.slice A3 (j + 1) c3)
          have N7 := (N6.below hb7 (by omega)).far (p := ⟨bv, 4, none⟩) (by show w.heap.size + 1 ≠ bv; omega) (.slice A3 (j + 1) c3)
          have O8 : Blk (w7.setCell ⟨bv, 4, none⟩ (.slice A3 (j + 1) c3)) bv 28 #[.int .i64 k, .int .i64 n1, .int .i64 x1, .string str, .slice A3 (j + 1) c3] := by simpa using O7.set_ 4 (.slice A3 (j + 1) c3)
          have V8 := h7.frg (g := bv) ((Fr.refl [bv] w7).setCell (p := ⟨bv, 4, none⟩) (by simp) (.slice A3 (j + 1) c3)) (Nat.lt_succ_self _)
          have K8 := (K6.trans (hb7.mono (by omega : w.heap.size ≤ bv + 1))).setCell (p := ⟨bv, 4, none⟩) (by show w.heap.size ≤ bv; omega) (.slice A3 (j + 1) c3)
          generalize w7.setCell ⟨bv, 4, none⟩ (.slice A3 (j + 1) c3) = w8 at R7 N7 O8 V8 K8 ⊢
          clear hR hN hO hRV hK HV hl5 ho5 hb5 kx kk R6 N6 O6 K6 V6 l6 o6 hdd zb5 p5 v0 v1 v2 v3 v4 h7 hb7 hg7 O7 p7 f7
          go_wp2_with fail
          go_roundg f0
          case measure => omega
          case rel => exact ⟨j + 1, q', g0, c3, A3, acc ++ [v], es ++ [u], rfl, by go_num, by omega, by omega, by omega, by omega, HP, R7, N7, O8, V8, K8⟩
      · obtain rfl : gk = 0 := by omega
        obtain rfl : j = mn := by omega
        have hP2 := hP.out
        rw [kM] at hP2
        have HP := Lib.hid hP2
        have b0 := hO.cell 0
        have b1 := hO.cell 1
        have b2 := hO.cell 2
        have b3 := hO.cell 3
        have b4 := hO.cell 4
        simp only [List.getElem?_toArray, List.getElem?_cons_succ, List.getElem?_cons_zero] at b0 b1 b2 b3 b4
        obtain ⟨x0, x1', x2, x3, x4, ⟨s0, t0⟩, ⟨s1, t1⟩, ⟨s2, t2⟩, ⟨s3, t3⟩, s4, t4⟩ := hR.five (o := 0) (by simp) (.int .i64 k) (.int .i64 n1) (.int .i64 x1) (.string str)
        clear hP hP2 hV
        go_wp2_with fail
        obtain ⟨fp, hls, hown, _⟩ := hRV.list hRV.cap.1 hRV.cap.2
        have hn0 : w.heap.size ∉ fp := fun hx => by have := (hown.2 _ hx).1; omega
        have hblk : Blk (set5 wr w.heap.size 0 ⟨k, n1, x1, str, acc⟩ ⟨A', j, c', fp⟩) w.heap.size 28 _ := Blk.five_ hR ⟨k, n1, x1, str, acc⟩ ⟨A', j, c', fp⟩
        have hbl9 : Below w.heap.size w (set5 wr w.heap.size 0 ⟨k, n1, x1, str, acc⟩ ⟨A', j, c', fp⟩) := below_set5 hK (Nat.le_refl _)
        have hls5 := hls.set5_ (e2 := ⟨A', j, c', fp⟩) (g := w.heap.size) (o := 0) (t := ⟨k, n1, x1, str, acc⟩) hn0
        have how5 := (hown.mono (lo2 := w.heap.size) (by omega)).set5_ (g := w.heap.size) (o := 0) (t := ⟨k, n1, x1, str, acc⟩) (e := ⟨A', j, c', fp⟩) hn0
        have hres := fun (tm : Array Value) (hp : tm.getD 6 undef = .pointer (some ⟨w.heap.size, 0, none⟩)) => results_blk3 (P := Tryz.prog) (tmps := tm) Tryz.results25 Tryz.isAgg28 (by exact Tryz.sizeOf28) hp hblk
        refine bodyPost_ret (hres _ rfl) rfl ?_
        rw [← HP.out]
        exact ⟨⟨A', j, c', fp⟩, rfl, hls5, how5, hbl9⟩
set_option maxHeartbeats 4000000 in
theorem s_get_fail (A : Option Addr) (n c : Nat) (b : List UInt8) (i d : Int) (w : World) (B : Nat) (h : Sl w B 1 A n c (u8s b)) (hB : B ≤ w.heap.size) (hn : n ≤ 1048576) (hi : -9223372036854775808 ≤ i ∧ i ≤ 9223372036854775807) (hd : 1 ≤ d) (hd2 : d ≤ 9223372036854775807) (k m q : Int) (hG : getMark b i = (k, m, q, 0)) (hh : headR b k m q.toNat = none) :
    Calls Tryz.prog 25 #[.slice A n c, .int .i64 i, .int .i64 d] w fun r w' => GetRes w w' zeroT 0 1 r := by
  have hgood := getMark_good hG
  obtain ⟨qn, rfl⟩ := Int.eq_ofNat_of_zero_le (show 0 ≤ q by omega)
  rw [Int.toNat_natCast] at hh
  have hbl := h.blen
  have k2 := Below.two w (.cells #[.int .i64 0, .int .i64 0, .int .i64 0, .string ⟨#[]⟩, .slice none 0 0] 28) (.cells #[.int .i64 0, .int .i64 0, .int .i64 0, .string ⟨#[]⟩, .slice none 0 0] 28)
  have hR : Blk ((w.alloc (.cells #[.int .i64 0, .int .i64 0, .int .i64 0, .string ⟨#[]⟩, .slice none 0 0] 28)).alloc (.cells #[.int .i64 0, .int .i64 0, .int .i64 0, .string ⟨#[]⟩, .slice none 0 0] 28)) w.heap.size 28 #[.int .i64 0, .int .i64 0, .int .i64 0, .string ⟨#[]⟩, .slice none 0 0] := (Blk.new w _ _).alloc _
  have hN : Blk ((w.alloc (.cells #[.int .i64 0, .int .i64 0, .int .i64 0, .string ⟨#[]⟩, .slice none 0 0] 28)).alloc (.cells #[.int .i64 0, .int .i64 0, .int .i64 0, .string ⟨#[]⟩, .slice none 0 0] 28)) (w.heap.size + 1) 28 #[.int .i64 0, .int .i64 0, .int .i64 0, .string ⟨#[]⟩, .slice none 0 0] := by simpa using Blk.new (w.alloc (.cells #[.int .i64 0, .int .i64 0, .int .i64 0, .string ⟨#[]⟩, .slice none 0 0] 28)) 28 #[.int .i64 0, .int .i64 0, .int .i64 0, .string ⟨#[]⟩, .slice none 0 0]
  have hdd : decide (d < 1) = false := by simp; omega
  go_enter Tryz.func25, Tryz.ntmps25
  go_upto_region 4 with fail
  generalize (w.alloc (.cells #[.int .i64 0, .int .i64 0, .int .i64 0, .string ⟨#[]⟩, .slice none 0 0] 28)).alloc (.cells #[.int .i64 0, .int .i64 0, .int .i64 0, .string ⟨#[]⟩, .slice none 0 0] 28) = wa at k2 hR hN ⊢
  have HM := s_GetMark A n c b i wa B (h.below (k2.mono hB)) (Nat.le_trans hB k2.size) hn hi
  rw [hG] at HM
  unfold ret4 markRet at HM
  go_upto_region 5 with (go_at_call 51; refine HM.mono ?_; rintro r w2 ⟨rfl, hb2⟩)
  have km := Below.one w2 (.cells #[.int .i64 k, .int .i64 m] 63)
  have R3 := (hR.below hb2 hR.lt).below km (hR.below hb2 hR.lt).lt
  have N3 := (hN.below hb2 hN.lt).below km (hN.below hb2 hN.lt).lt
  have M3 := Blk.new w2 63 #[.int .i64 k, .int .i64 m]
  have K3 := (k2.up hb2).up km
  generalize w2.heap.size = bm at M3 ⊢
  generalize w2.alloc (.cells #[.int .i64 k, .int .i64 m] 63) = wb at R3 N3 M3 K3 ⊢
  clear hR hN HM hb2 km k2
  have e0 := M3.cell 0
  have e1 := M3.cell 1
  simp only [List.getElem?_toArray, List.getElem?_cons_succ, List.getElem?_cons_zero] at e0 e1
  go_upto_region 8 with fail
  have kv := Below.one wb (.cells #[.int .i64 k, .int .i64 0, .int .i64 0, .string ⟨#[]⟩, .slice none 0 0] 28)
  have R4 := R3.below kv R3.lt
  have N4 := N3.below kv N3.lt
  have M4 := M3.below kv M3.lt
  have V4 := Blk.new wb 28 #[.int .i64 k, .int .i64 0, .int .i64 0, .string ⟨#[]⟩, .slice none 0 0]
  have K4 := K3.up kv
  have zv : w.heap.size + 1 < wb.heap.size := N3.lt
  have zm : bm < wb.heap.size := M3.lt
  generalize wb.heap.size = bv at V4 zv zm ⊢
  generalize wb.alloc (.cells #[.int .i64 k, .int .i64 0, .int .i64 0, .string ⟨#[]⟩, .slice none 0 0] 28) = wc at R4 N4 M4 V4 K4 ⊢
  clear R3 N3 M3 K3 kv e0 e1
  have e0 := M4.cell 0
  have e1 := M4.cell 1
  simp only [List.getElem?_toArray, List.getElem?_cons_succ, List.getElem?_cons_zero] at e0 e1
  have k78 : k = 7 ∨ k = 8 := by
    unfold headR at hh
    split at hh
    · cases hh
    split at hh
    · assumption
    split at hh
    · cases hh
    · cases hh
  have k4 : ¬ k = 4 := by omega
  have hmb := hgood.2.2.2.2.2 (by omega)
  obtain ⟨mm, rfl⟩ := Int.eq_ofNat_of_zero_le hmb.1
  unfold headR at hh
  rw [if_neg k4, if_pos k78, Int.toNat_natCast] at hh
  have m0 : ∀ w1, Below wc.heap.size wc w1 → w1.cell? ⟨bm, 0, none⟩ = some (.int .i64 k) := fun w1 hb => (M4.below hb M4.lt).cell 0
  by_cases hsh : b.length < qn + mm
  · have HS := s_Slice_no A n c b qn mm wc B (h.below (K4.mono hB)) hn (by omega) (by omega) (by omega)
    clear hh
    rcases k78 with rfl | rfl
    all_goals
      go_upto_region 18 with (go_at_call 54; refine HS.mono ?_; rintro r w5 ⟨rfl, hb5⟩; have m05 := m0 _ hb5)
      have R5 := R4.below hb5 R4.lt
      have N5 := N4.below hb5 N4.lt
      have K5 := K4.up hb5
      have b0 := N5.cell 0
      have b1 := N5.cell 1
      have b2 := N5.cell 2
      have b3 := N5.cell 3
      have b4 := N5.cell 4
      simp only [List.getElem?_toArray, List.getElem?_cons_succ, List.getElem?_cons_zero] at b0 b1 b2 b3 b4
      obtain ⟨x0, x1, x2, x3, x4, ⟨s0, t0⟩, ⟨s1, t1⟩, ⟨s2, t2⟩, ⟨s3, t3⟩, s4, t4⟩ := R5.five (o := 0) (by simp) (.int .i64 0) (.int .i64 0) (.int .i64 0) (.string ⟨#[]⟩)
      go_wp2_with fail
      have hblk : Blk (set5 w5 w.heap.size 0 zeroT ⟨none, 0, 0, []⟩) w.heap.size 28 _ := Blk.five_ R5 zeroT ⟨none, 0, 0, []⟩
      have hbl9 : Below w.heap.size w (set5 w5 w.heap.size 0 zeroT ⟨none, 0, 0, []⟩) := below_set5 K5 (Nat.le_refl _)
      have hres := fun (tm : Array Value) (hp : tm.getD 6 undef = .pointer (some ⟨w.heap.size, 0, none⟩)) => results_blk3 (P := Tryz.prog) (tmps := tm) Tryz.results25 Tryz.isAgg28 (by exact Tryz.sizeOf28) hp hblk
      refine bodyPost_ret (hres _ rfl) rfl ?_
      exact ⟨⟨none, 0, 0, []⟩, rfl, LsAt.nil_ _ _, Own.nil_ _ _, hbl9⟩
  · rw [if_neg hsh] at hh
    have hva : k = 7 ∧ Lib.validD (part b qn mm) = false := by
      by_cases h9 : k = 7 ∧ Lib.validD (part b qn mm) = false
      · exact h9
      · rw [if_neg h9] at hh; cases hh
    obtain ⟨rfl, hv⟩ := hva
    have HS := s_Slice_ok A n c b qn mm wc B (h.below (K4.mono hB)) (Nat.le_trans hB K4.size) hn (by omega)
    have hcut : (cutS b qn mm).data.toList = part b qn mm := by unfold cutS; simp
    have hTX := fun w1 => s_TextOk (cutS b qn mm) w1 (by show (part b qn mm).toArray.size ≤ _; rw [List.size_toArray]; unfold part; rw [List.length_take]; omega)
    rw [hcut, hv] at hTX
    have hcv0 := fun w1 B1 A1 c1 (h1 : Sl w1 B1 1 A1 mm c1 (u8s (part b qn mm))) => run_str_sl (P := Tryz.prog) 22 5 Tryz.underlying22 Tryz.underlying5 h1 9 Tryz.underlying9
    change ∀ w1 B1 A1 c1, _ → (convert 22 9 (.slice A1 mm c1)).run Tryz.prog w1 = .ok (.string (cutS b qn mm)) w1 at hcv0
    generalize cutS b qn mm = ss at hTX hcv0
    clear hh hcut hv k78
    go_upto_region 18 with (first
      | (go_at_call 54; refine HS.mono ?_; rintro r w5 ⟨A5, c5, rfl, h5, hb5⟩; have hcv := hcv0 w5 _ A5 c5 h5.sl; have m05 := m0 _ hb5)
      | (go_at_call 55; refine (hTX _).mono ?_; rintro r w6 ⟨rfl, hb6⟩; have k6 := hb5.up hb6))
    have R6 := R4.below k6 R4.lt
    have N6 := N4.below k6 N4.lt
    have K6 := K4.up k6
    have b0 := N6.cell 0
    have b1 := N6.cell 1
    have b2 := N6.cell 2
    have b3 := N6.cell 3
    have b4 := N6.cell 4
    simp only [List.getElem?_toArray, List.getElem?_cons_succ, List.getElem?_cons_zero] at b0 b1 b2 b3 b4
    obtain ⟨x0, x1, x2, x3, x4, ⟨s0, t0⟩, ⟨s1, t1⟩, ⟨s2, t2⟩, ⟨s3, t3⟩, s4, t4⟩ := R6.five (o := 0) (by simp) (.int .i64 0) (.int .i64 0) (.int .i64 0) (.string ⟨#[]⟩)
    go_wp2_with fail
    have hblk : Blk (set5 w6 w.heap.size 0 zeroT ⟨none, 0, 0, []⟩) w.heap.size 28 _ := Blk.five_ R6 zeroT ⟨none, 0, 0, []⟩
    have hbl9 : Below w.heap.size w (set5 w6 w.heap.size 0 zeroT ⟨none, 0, 0, []⟩) := below_set5 K6 (Nat.le_refl _)
    have hres := fun (tm : Array Value) (hp : tm.getD 6 undef = .pointer (some ⟨w.heap.size, 0, none⟩)) => results_blk3 (P := Tryz.prog) (tmps := tm) Tryz.results25 Tryz.isAgg28 (by exact Tryz.sizeOf28) hp hblk
    refine bodyPost_ret (hres _ rfl) rfl ?_
    exact ⟨⟨none, 0, 0, []⟩, rfl, LsAt.nil_ _ _, Own.nil_ _ _, hbl9⟩
theorem s_get {A : Option Addr} {n c : Nat} {b : List UInt8} {B : Nat} (hn : n ≤ 1048576) (f : Nat) : GetSays A n c b B f := by
  induction f using Nat.strongRecOn with
  | _ f ih =>
    intro i d w h hB hf hi hd
    have hbl := h.blen
    obtain ⟨f, rfl⟩ : ∃ z, f = z + 2 := ⟨f - 2, by omega⟩
    by_cases hd1 : d < 1
    · have e : kV b (f + 2) d i = .bad 2 := by rw [kV, if_pos hd1]
      rw [e]
      exact s_get_deep A n c i d w hd1
    obtain ⟨⟨k, m, q, cd⟩, hG⟩ : ∃ x, getMark b i = x := ⟨_, rfl⟩
    by_cases hcd : cd = 0
    rotate_left
    · have e : kV b (f + 2) d i = .bad cd := by rw [kV, if_neg hd1, hG]; simp only; rw [if_pos hcd]
      rw [e]
      exact s_get_mark A n c b i d w B h hB hn hi (by omega) k m q cd hG hcd
    subst hcd
    rw [kV_head (by omega) hG]
    cases hh : headR b k m q.toNat with
    | none => exact s_get_fail A n c b i d w B h hB hn hi (by omega) hd.2 k m q hG hh
    | some x =>
      obtain ⟨⟨n1, x1, str⟩, q1, mn⟩ := x
      exact s_get_some A n c b i d w B h hB hn hi (by omega) hd.2 k m q hG f hf (fun g hg => ih g (by omega)) n1 x1 str q1 mn hh
end Go.Proofs.YtmelnaidjgpclaaGreatDoor
