/- The laws' own helpers on []byte: copies, comparison. -/
import Derived.Test.YtmelnaidjgpclaaGreatDoorMem
import Derived.Test.YtmelnaidjgpclaaGreatDoorNum
import Derived.BigQuiet
import Derived.Deep.QuietTactic
set_option linter.unusedVariables false
set_option maxRecDepth 100000
set_option linter.unusedSimpArgs false
namespace Go.Proofs.YtmelnaidjgpclaaGreatDoor
open Go.RowKit

theorem info_u8 : (Tryz.prog.info? 5).map (fun i => (i.zero, i.size, i.bytes)) = some (some (.int .u8 0), 1, 1) := by kernel_rfl

set_option maxHeartbeats 400000 in
theorem l_toByteS (A : Option Addr) (n c : Nat) (b : List UInt8) (w : World) (B : Nat) (h : Sl w B 1 A n c (u8s b)) (hB : B ≤ w.heap.size) (hn : n ≤ 1048576) :
    Calls Tryz.prog 6 #[.slice A n c] w fun e w' => e = .returned (.slice (some ⟨w.heap.size, 0, none⟩) n n) ∧
      w'.ownsRow 0 5 1 (.slice (some ⟨w.heap.size, 0, none⟩) n n) n (u8s b) ∧ Below w.heap.size w w' := by
  obtain ⟨i0, hi, hz0, hz1, hz2⟩ := info_parts info_u8
  have hbl := h.blen
  go_enter Tryz.func6, Tryz.ntmps6
  go_wp2_with (at_make; refine wpList_make_full _ rfl _ _ 22 rfl 0 5 i0 (.int .u8 0) 1 Tryz.underlying22 hi hz0 hz1 _ _ _ _ n rfl rfl rfl rfl (by rw [hz2]; omega) (by unfold maxLen; omega) (Nat.zero_le _) ?_; intro w1 hown1 hg1)
  have hown : w1.ownsRow 0 5 1 (.slice (some ⟨w.heap.size, 0, none⟩) n n) n ((u8s b).take 0 ++ List.replicate (n - 0) (.int .u8 0)) := by
    have e : (madeCells (Value.int .u8 0).cells (n * 1)).toList = (u8s b).take 0 ++ List.replicate (n - 0) (.int .u8 0) := by
      rw [show (Value.int .u8 0).cells = #[.int .u8 0] from rfl, toList_madeCells_one]; simp
    rw [← e]; exact hown1
  clear hown1
  have hb1 : Below w.heap.size w w1 := (Below.refl _ _).grown hg1 (Nat.le_refl _) (fun k hk => by cases hk)
  go_loopw [4] (fun i wr => ∃ k : Nat, k ≤ n ∧ i = .int .i64 k ∧ wr.ownsRow 0 5 1 (.slice (some ⟨w.heap.size, 0, none⟩) n n) n ((u8s b).take k ++ List.replicate (n - k) (.int .u8 0)) ∧ Below w.heap.size w wr) (fun i _ => n - (intOf i).toNat)
  case atStart => exact ⟨0, Nat.zero_le _, rfl, hown, hb1⟩
  case round =>
    obtain ⟨k, hk, rfl, hor, hbr⟩ := hrel
    clear hown hb1 hg1
    by_cases hlt : k < n
    · obtain ⟨g, o, rfl, hg, hkb, hc⟩ := (h.below (hbr.mono hB)).byte hlt
      obtain ⟨u2, hc2⟩ : ∃ u2, wr.cell? ⟨w.heap.size, k, none⟩ = some u2 := by
        rw [hor.cellAt k (by omega)]
        exact ⟨_, List.getElem?_eq_getElem (by rw [hor.1]; omega)⟩
      have hf2 := hor.frozenAt k
      have hst := (hor.stored k (.int .u8 (b[k].toNat : Int))).1
      have hbs := hbr.setCell (p := ⟨w.heap.size, k, none⟩) (Nat.le_refl _) (.int .u8 (b[k].toNat : Int))
      have HST := Lib.hid hst; clear hst
      go_wp2
      go_roundw
      case rel =>
        refine ⟨k + 1, by omega, by go_num, ?_, hbs⟩
        have e := take_set_step (u8s b) (.int .u8 0) k n (by rw [u8s_len]; omega) hlt (by rw [u8s_len]; omega)
        have e2 : (u8s b)[k]'(by rw [u8s_len]; omega) = .int .u8 (b[k].toNat : Int) := by simp [u8s]
        rw [e2] at e
        rw [← e]
        exact HST.out
      case measure => simp [intOf]; omega
    · have hkn : n = k := by omega
      have Hkn := Lib.hid hkn; clear hkn
      go_wp2
      go_ret
      refine ⟨rfl, ?_, hbr⟩
      have e : (u8s b).take k ++ List.replicate (n - k) (.int .u8 0) = u8s b := by
        rw [← Hkn.out, Nat.sub_self, List.take_of_length_le (by rw [u8s_len]; omega)]; simp
      rw [← e]; exact hor
theorem take_eq_step {a b : List UInt8} {k : Nat} (h : a.take k = b.take k) (ha : k < a.length) (hb : k < b.length) (e : a[k] = b[k]) : a.take (k + 1) = b.take (k + 1) := by
  rw [List.take_succ_eq_append_getElem ha, List.take_succ_eq_append_getElem hb, h, e]
set_option maxHeartbeats 400000 in
theorem l_eqByteS (A1 : Option Addr) (n1 c1 : Nat) (b1 : List UInt8) (A2 : Option Addr) (n2 c2 : Nat) (b2 : List UInt8) (w : World) (B : Nat) (h1 : Sl w B 1 A1 n1 c1 (u8s b1)) (h2 : Sl w B 1 A2 n2 c2 (u8s b2)) :
    Calls Tryz.prog 8 #[.slice A1 n1 c1, .slice A2 n2 c2] w fun e w' => e = .returned (.bool (decide (b1 = b2))) ∧ Drawn w w' := by
  have l1 := h1.blen
  have l2 := h2.blen
  have m1 := h1.cap
  have m2 := h1.max
  unfold maxLen at m2
  by_cases hn : n1 = n2
  · subst hn
    go_enter Tryz.func8, Tryz.ntmps8
    go_wp2
    go_loopw [5] (fun i wr => ∃ k : Nat, k ≤ n1 ∧ i = .int .i64 k ∧ b1.take k = b2.take k ∧ Drawn w wr) (fun i _ => n1 - (intOf i).toNat)
    case atStart => exact ⟨0, Nat.zero_le _, rfl, rfl, Drawn.refl _⟩
    case round =>
      obtain ⟨k, hk, rfl, HE, hd⟩ := hrel
      have he := Lib.hid HE; clear HE
      by_cases hlt : k < n1
      · obtain ⟨g, o, rfl, hg, hkb, hc⟩ := (hd.sl h1).byte hlt
        obtain ⟨g', o', rfl, hg', hkb', hc'⟩ := (hd.sl h2).byte hlt
        by_cases hcc : b1[k] = b2[k]
        · have hne : ((b1[k].toNat : Int) != (b2[k].toNat : Int)) = false := by rw [hcc]; simp
          have hcc' := Lib.hid hcc; clear hcc
          go_wp2
          go_quiet (fail)
          go_wp2
          go_roundw
          case rel => exact ⟨k + 1, by omega, by go_num, take_eq_step he.out (by omega) (by omega) hcc'.out, hd.drewN _⟩
          case measure => simp [intOf]; omega
        · have hne : ((b1[k].toNat : Int) != (b2[k].toNat : Int)) = true := by
            simp only [bne_iff_ne, ne_eq, Int.natCast_inj]; exact fun e => hcc (UInt8.toNat_inj.1 e)
          go_wp2
          go_quiet (fail)
          go_wp2
          go_ret
          refine ⟨ret_bool ?_, hd.drewN _⟩
          rw [eq_comm, decide_eq_false_iff_not]
          rintro rfl
          exact hcc rfl
      · go_wp2
        go_ret
        refine ⟨ret_bool ?_, hd⟩
        have e := he.out
        rw [List.take_of_length_le (by omega), List.take_of_length_le (by omega)] at e
        rw [e]; simp
  · have hne : ((n1 : Int) != n2) = true := by simp; omega
    go_enter Tryz.func8, Tryz.ntmps8
    go_wp2
    go_ret
    refine ⟨ret_bool ?_, Drawn.refl _⟩
    rw [eq_comm, decide_eq_false_iff_not]
    rintro rfl
    omega
end Go.Proofs.YtmelnaidjgpclaaGreatDoor
