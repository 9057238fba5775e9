/- The laws' own helpers on []byte: copies, comparison. -/
import Derived.Test.YticejlknbfhndaaDoorMem
import Derived.Test.YticejlknbfhndaaDoorNum
import Derived.BigQuiet
import Derived.Deep.QuietTactic
set_option linter.unusedVariables false
set_option maxRecDepth 100000
set_option linter.unusedSimpArgs false
namespace Go.Proofs.YticejlknbfhndaaDoor
open Go.RowKit

theorem info_u8 : (Tryd.prog.info? 5).map (fun i => (i.zero, i.size, i.bytes)) = some (some (.int .u8 0), 1, 1) := by kernel_rfl

theorem take_eq_step {a b : List UInt8} {k : Nat} (h : a.take k = b.take k) (ha : k < a.length) (hb : k < b.length) (e : a[k] = b[k]) : a.take (k + 1) = b.take (k + 1) := by
  rw [List.take_succ_eq_append_getElem ha, List.take_succ_eq_append_getElem hb, h, e]
set_option maxHeartbeats 400000 in
theorem l_eqByteS (A1 : Option Addr) (n1 c1 : Nat) (b1 : List UInt8) (A2 : Option Addr) (n2 c2 : Nat) (b2 : List UInt8) (w : World) (B : Nat) (h1 : Sl w B 1 A1 n1 c1 (u8s b1)) (h2 : Sl w B 1 A2 n2 c2 (u8s b2)) :
    Calls Tryd.prog 32 #[.slice A1 n1 c1, .slice A2 n2 c2] w fun e w' => e = .returned (.bool (decide (b1 = b2))) ∧ Drawn w w' := by
  have l1 := h1.blen
  have l2 := h2.blen
  have m1 := h1.cap
  have m2 := h1.max
  unfold maxLen at m2
  by_cases hn : n1 = n2
  · subst hn
    go_enter Tryd.func32, Tryd.ntmps32
    go_wp2
    go_loopw [5] (fun i wr => ∃ k : Nat, k ≤ n1 ∧ i = .int .i64 k ∧ b1.take k = b2.take k ∧ Drawn w wr) (fun i _ => n1 - (intOf i).toNat)
    case atStart => exact ⟨0, Nat.zero_le _, rfl, rfl, Drawn.refl _⟩
    case round =>
      obtain ⟨k, hk, rfl, HE, hd⟩ := hrel
      have he := Lib.hid HE; clear HE
      by_cases hlt : k < n1
      · obtain ⟨g, o, rfl, hg, hkb, hc⟩ := (hd.sl h1).byte hlt
        obtain ⟨g', o', rfl, hg', hkb', hc'⟩ := (hd.sl h2).byte hlt
        by_cases hcc : b1[k] = b2[k]
        · have hne : ((b1[k].toNat : Int) != (b2[k].toNat : Int)) = false := by rw [hcc]; simp
          have hcc' := Lib.hid hcc; clear hcc
          go_wp2
          go_quiet (fail)
          go_wp2
          go_roundw
          case rel => exact ⟨k + 1, by omega, by go_num, take_eq_step he.out (by omega) (by omega) hcc'.out, hd.drewN _⟩
          case measure => simp [intOf]; omega
        · have hne : ((b1[k].toNat : Int) != (b2[k].toNat : Int)) = true := by
            simp only [bne_iff_ne, ne_eq, Int.natCast_inj]; exact fun e => hcc (UInt8.toNat_inj.1 e)
          go_wp2
          go_quiet (fail)
          go_wp2
          go_ret
          refine ⟨ret_bool ?_, hd.drewN _⟩
          rw [eq_comm, decide_eq_false_iff_not]
          rintro rfl
          exact hcc rfl
      · go_wp2
        go_ret
        refine ⟨ret_bool ?_, hd⟩
        have e := he.out
        rw [List.take_of_length_le (by omega), List.take_of_length_le (by omega)] at e
        rw [e]; simp
  · have hne : ((n1 : Int) != n2) = true := by simp; omega
    go_enter Tryd.func32, Tryd.ntmps32
    go_wp2
    go_ret
    refine ⟨ret_bool ?_, Drawn.refl _⟩
    rw [eq_comm, decide_eq_false_iff_not]
    rintro rfl
    omega
end Go.Proofs.YticejlknbfhndaaDoor
