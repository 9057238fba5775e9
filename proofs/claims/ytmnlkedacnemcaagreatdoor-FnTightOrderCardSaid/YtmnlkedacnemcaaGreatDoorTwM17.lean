/- impl.LessBytes and spec.LessBytes: the order of bytes. LessTight: impl, spec, law. -/
import Derived.Test.YtmnlkedacnemcaaGreatDoorTwM3
import Derived.Lib.Bytealg
import Derived.Lib.BytesEntry
import Derived.Lib.UnsafeStr
import Derived.Test.YtmnlkedacnemcaaGreatDoorTwTightS
set_option linter.unusedVariables false
set_option maxRecDepth 100000
set_option linter.unusedSimpArgs false
namespace Go.Proofs.YtmnlkedacnemcaaGreatDoor
open Go.RowKit

/-- a is less than b. -/
def ltB (a b : List UInt8) : Bool := decide (Lib.compareBytes a b < 0)

theorem run_loadBytes_u8 {P : Program} (w : World) : ∀ (l : List UInt8) (a : Addr) (acc : ByteArray), (∀ j x, l[j]? = some x → w.cell? (a.add j) = some (.int .u8 x.toNat)) →
    (Extern.Bytes.loadBytes a l.length acc).run P w = .ok ⟨acc.data ++ l.toArray⟩ w
  | [], a, acc, _ => by simp [Extern.Bytes.loadBytes]
  | x :: l, a, acc, h => by
    have h0 : w.cell? a = some (.int .u8 x.toNat) := by
      have := h 0 x rfl
      simpa [Addr.add] using this
    have ih := run_loadBytes_u8 (P := P) w l (a.add 1) (acc.push x) (fun j y hy => by
      have := h (j + 1) y (by simpa using hy)
      have e : (a.add 1).add j = a.add (j + 1) := by
        unfold Addr.add
        by_cases hj : j = 0
        · subst hj; simp
        · simp [hj]; omega
      rw [e]; exact this)
    have hx : ((x.toNat : Int).toNat).toUInt8 = x := by simp
    simp only [List.length_cons, Extern.Bytes.loadBytes, Sem.run_bind, run_load, h0, Result.andThen, hx]
    rw [ih]
    congr 1
    apply ByteArray.ext
    simp [ByteArray.push]
theorem run_bytesOf_sl {P : Program} {w : World} {B n c : Nat} {A : Option Addr} {b : List UInt8} (h : Sl w B 1 A n c (u8s b)) :
    (Extern.Bytes.bytesOf (.slice A n c)).run P w = .ok ⟨b.toArray⟩ w := by
  have hl := h.blen
  by_cases hn : 0 < n
  · obtain ⟨g, o, rfl, _, hc⟩ := h.at_ hn
    have hr := run_loadBytes_u8 (P := P) w b ⟨g, o, none⟩ .empty (fun j x hj => by
      have e : (⟨g, o, none⟩ : Addr).add j = ⟨g, o + j, none⟩ := by unfold Addr.add; split <;> simp_all
      rw [e]
      exact hc j _ (by simp [u8s, hj]))
    rw [hl] at hr
    simp only [Extern.Bytes.bytesOf]
    rw [hr]
    congr 1
    apply ByteArray.ext
    show (#[] : Array UInt8) ++ b.toArray = b.toArray
    simp
  · have hn0 : n = 0 := by omega
    subst hn0
    have hb : b = [] := List.eq_nil_of_length_eq_zero hl
    subst hb
    cases A with
    | none => rfl
    | some a => rfl
theorem run_compare_sl {P : Program} {w : World} {B n1 c1 n2 c2 : Nat} {A1 A2 : Option Addr} {b1 b2 : List UInt8} (h1 : Sl w B 1 A1 n1 c1 (u8s b1)) (h2 : Sl w B 1 A2 n2 c2 (u8s b2)) :
    (Extern.BytealgCompare.compare #[.slice A1 n1 c1, .slice A2 n2 c2]).run P w = .ok (.int .i64 (Lib.compareBytes b1 b2)) w := by
  change Sem.run P (do pure (goInt (Extern.BytealgCompare.cmp (← Extern.Bytes.bytesOf (.slice A1 n1 c1)) (← Extern.Bytes.bytesOf (.slice A2 n2 c2))))) w = _
  simp only [Sem.run_bind, run_bytesOf_sl h1, run_bytesOf_sl h2, Sem.run_pure, Result.andThen]
  rw [Lib.cmp_eq]
  rfl
theorem g_bytesCompare (A1 : Option Addr) (n1 c1 : Nat) (b1 : List UInt8) (A2 : Option Addr) (n2 c2 : Nat) (b2 : List UInt8) (w : World) (B : Nat) (h1 : Sl w B 1 A1 n1 c1 (u8s b1)) (h2 : Sl w B 1 A2 n2 c2 (u8s b2)) :
    Calls Tryz.prog 29 #[.slice A1 n1 c1, .slice A2 n2 c2] w fun e w' => e = .returned (.int .i64 (Lib.compareBytes b1 b2)) ∧ w = w' := by
  go_enter Tryz.func29, Tryz.ntmps29
  go_wp2_with fail
  rw [run_callFunc_extern Tryz.func46 (by kernel_rfl) (by kernel_rfl) (by kernel_rfl) (e := Extern.BytealgCompare.compare) (by kernel_rfl), run_compare_sl h1 h2]
  simp only [Result.andThen]
  rw [Oper.upon_value]
  go_wp2
  go_ret
  exact ⟨rfl, rfl⟩
theorem i_LessBytes (A1 : Option Addr) (n1 c1 : Nat) (b1 : List UInt8) (A2 : Option Addr) (n2 c2 : Nat) (b2 : List UInt8) (w : World) (B : Nat) (h1 : Sl w B 1 A1 n1 c1 (u8s b1)) (h2 : Sl w B 1 A2 n2 c2 (u8s b2)) :
    Calls Tryz.prog 13 #[.slice A1 n1 c1, .slice A2 n2 c2] w fun e w' => e = .returned (.bool (ltB b1 b2)) ∧ w = w' := by
  by_cases hc : Lib.compareBytes b1 b2 < 0
  all_goals
    go_enter Tryz.func13, Tryz.ntmps13
    go_wp2_with (go_at_call 29; refine (g_bytesCompare _ _ _ _ _ _ _ _ _ _ h1 h2).mono ?_; rintro e w' ⟨rfl, rfl⟩)
    go_ret
    exact ⟨ret_bool (by simp [ltB, hc]), rfl⟩
theorem ltB_step {a b : List UInt8} {k : Nat} (ha : k < a.length) (hb : k < b.length) :
    ltB (a.drop k) (b.drop k) = if a[k] = b[k] then ltB (a.drop (k + 1)) (b.drop (k + 1)) else decide ((a[k].toNat : Int) < (b[k].toNat : Int)) := by
  rw [List.drop_eq_getElem_cons ha, List.drop_eq_getElem_cons hb]
  unfold ltB
  rw [Lib.compareBytes]
  by_cases h : a[k] = b[k]
  · rw [h, if_pos rfl, if_neg (UInt8.lt_irrefl _), if_neg (UInt8.lt_irrefl _)]
  · rw [if_neg h]
    by_cases h2 : a[k] < b[k]
    · rw [if_pos h2]
      have : (a[k].toNat : Int) < (b[k].toNat : Int) := by have := UInt8.lt_iff_toNat_lt.1 h2; omega
      simp [this]
    · rw [if_neg h2]
      have h3 : b[k] < a[k] := UInt8.lt_of_le_of_ne (UInt8.not_lt.1 h2) (Ne.symm h)
      rw [if_pos h3]
      have : ¬ (a[k].toNat : Int) < (b[k].toNat : Int) := by have := UInt8.lt_iff_toNat_lt.1 h3; omega
      simp [this]
theorem ltB_end {a b : List UInt8} {k : Nat} (h : k = a.length ∨ k = b.length) (ha : k ≤ a.length) (hb : k ≤ b.length) : ltB (a.drop k) (b.drop k) = decide ((a.length : Int) < b.length) := by
  rcases h with h | h
  · rw [List.drop_of_length_le (by omega)]
    by_cases hk : k < b.length
    · rw [List.drop_eq_getElem_cons hk]
      have : (a.length : Int) < b.length := by omega
      simp [ltB, Lib.compareBytes, this]
    · rw [List.drop_of_length_le (by omega)]
      have : ¬ (a.length : Int) < b.length := by omega
      simp [ltB, Lib.compareBytes, this]
  · rw [List.drop_of_length_le (l := b) (by omega)]
    have hn : ¬ (a.length : Int) < b.length := by omega
    by_cases hk : k < a.length
    · rw [List.drop_eq_getElem_cons hk]
      simp [ltB, Lib.compareBytes, hn]
    · rw [List.drop_of_length_le (by omega)]
      simp [ltB, Lib.compareBytes, hn]
set_option maxHeartbeats 800000 in
theorem s_LessBytes (A1 : Option Addr) (n1 c1 : Nat) (b1 : List UInt8) (A2 : Option Addr) (n2 c2 : Nat) (b2 : List UInt8) (w : World) (B : Nat) (h1 : Sl w B 1 A1 n1 c1 (u8s b1)) (h2 : Sl w B 1 A2 n2 c2 (u8s b2)) :
    Calls Tryz.prog 14 #[.slice A1 n1 c1, .slice A2 n2 c2] w fun e w' => e = .returned (.bool (ltB b1 b2)) ∧ Drawn w w' := by
  have l1 := h1.blen
  have l2 := h2.blen
  have m1 := h1.cap
  have m2 := h1.max
  unfold maxLen at m2
  go_enter Tryz.func14, Tryz.ntmps14
  go_wp2
  go_loopw [5] (fun i wr => ∃ k : Nat, k ≤ n1 ∧ k ≤ n2 ∧ i = .int .i64 k ∧ ltB (b1.drop k) (b2.drop k) = ltB b1 b2 ∧ Drawn w wr) (fun i _ => n1 - (intOf i).toNat)
  case atStart => exact ⟨0, Nat.zero_le _, Nat.zero_le _, rfl, rfl, Drawn.refl _⟩
  case round =>
    obtain ⟨k, hk, hk2, rfl, HE, hd⟩ := hrel
    have he := Lib.hid HE; clear HE
    by_cases hlt : k < n1 ∧ k < n2
    · obtain ⟨hlt1, hlt2⟩ := hlt
      obtain ⟨g, o, rfl, hg, hkb, hc⟩ := (hd.sl h1).byte hlt1
      obtain ⟨g', o', rfl, hg', hkb', hc'⟩ := (hd.sl h2).byte hlt2
      by_cases hcc : b1[k] = b2[k]
      · have hne : ((b1[k].toNat : Int) != (b2[k].toNat : Int)) = false := by rw [hcc]; simp
        have hcc' := Lib.hid hcc; clear hcc
        go_wp2
        go_quiet (fail)
        go_wp2
        go_roundw
        case rel => exact ⟨k + 1, by omega, by omega, by go_num, by rw [← he.out, ltB_step hkb hkb', if_pos hcc'.out], hd.drewN _⟩
        case measure => simp [intOf]; omega
      · have hne : ((b1[k].toNat : Int) != (b2[k].toNat : Int)) = true := by
          simp only [bne_iff_ne, ne_eq, Int.natCast_inj]; exact fun e => hcc (UInt8.toNat_inj.1 e)
        have hcc' := Lib.hid hcc; clear hcc
        by_cases hll : (b1[k].toNat : Int) < (b2[k].toNat : Int)
        all_goals
          go_wp2
          go_quiet (fail)
          go_wp2
          go_quiet (fail)
          go_wp2
          go_ret
          exact ⟨ret_bool (by rw [← he.out, ltB_step hkb hkb', if_neg hcc'.out]; simp [hll]), (hd.drewN _).drewN _⟩
    · by_cases hlt1 : k < n1
      all_goals
        go_wp2
        go_ret
        refine ⟨ret_bool ?_, hd⟩
        have e9 : ltB b1 b2 = decide ((n1 : Int) < n2) := by rw [← he.out, ltB_end (by omega) (by omega) (by omega), l1, l2]
        rw [e9]
        first | done | (simp; done) | (simp; omega)
end Go.Proofs.YtmnlkedacnemcaaGreatDoor

namespace Go.Proofs.YtmnlkedacnemcaaGreatDoor
open Go.RowKit

abbrev BoxVV (w0 : World) (g1 : Nat) (a : Tr) (ea : El) (g2 : Nat) (b : Tr) (eb : El) (w' : World) : Prop := (BoxV w' g1 a ea ∧ BoxV w' g2 b eb) ∧ Below w0.heap.size w0 w'
theorem boxVV {w0 w' : World} {g1 g2 : Nat} {T1 T2 : TypeId} {a b : Tr} {ea eb : El} (h1 : Blk w0 g1 T1 (valCells a ea)) (h2 : Blk w0 g2 T2 (valCells b eb)) (hb : Below w0.heap.size w0 w') : BoxVV w0 g1 a ea g2 b eb w' :=
  ⟨⟨(h1.below hb h1.lt).boxV, (h2.below hb h2.lt).boxV⟩, hb⟩
set_option maxHeartbeats 1600000 in
theorem i_LessTight (a b : Tr) (ea eb : El) (w : World) (hwa : a.wf) (hwb : b.wf) (hla : LsAt w a.l ea) (hlb : LsAt w b.l eb) (hea : ea.lt w.heap.size) (heb : eb.lt w.heap.size) (hma : a.sz ≤ 1048576) (hmb : b.sz ≤ 1048576) :
    Calls Tryz.prog 11 #[trV a ea, trV b eb] w fun r w' => r = .returned (.bool (ltB (tightT false false a) (tightT false false b))) ∧ Below w.heap.size w w' := by
  have k2 := Below.two w (.cells (valCells a ea) 26) (.cells (valCells b eb) 26)
  have B1 : Blk ((w.alloc (.cells (valCells a ea) 26)).alloc (.cells (valCells b eb) 26)) w.heap.size 26 (valCells a ea) := (Blk.new w _ _).alloc _
  have B2 : Blk ((w.alloc (.cells (valCells a ea) 26)).alloc (.cells (valCells b eb) 26)) (w.heap.size + 1) 26 (valCells b eb) := by simpa using Blk.new (w.alloc (.cells (valCells a ea) 26)) 26 (valCells b eb)
  have hS0 := fun (w' : World) (hb : Below ((w.alloc (.cells (valCells a ea) 26)).alloc (.cells (valCells b eb) 26)).heap.size ((w.alloc (.cells (valCells a ea) 26)).alloc (.cells (valCells b eb) 26)) w') => boxVV B1 B2 hb
  have hS2 := fun (w' w'' : World) (h : BoxVV ((w.alloc (.cells (valCells a ea) 26)).alloc (.cells (valCells b eb) 26)) w.heap.size a ea (w.heap.size + 1) b eb w') (hb : Below w'.heap.size w' w'') => hS0 w'' (h.2.up hb)
  have hA := fun (w' : World) (h : BoxVV ((w.alloc (.cells (valCells a ea) 26)).alloc (.cells (valCells b eb) 26)) w.heap.size a ea (w.heap.size + 1) b eb w') => i_PackTight a ea w' hwa (hla.below hea (k2.trans (h.2.mono k2.size))) (hea.mono (Nat.le_trans k2.size h.2.size)) hma
  have hB := fun (w' : World) (h : BoxVV ((w.alloc (.cells (valCells a ea) 26)).alloc (.cells (valCells b eb) 26)) w.heap.size a ea (w.heap.size + 1) b eb w') => i_PackTight b eb w' hwb (hlb.below heb (k2.trans (h.2.mono k2.size))) (heb.mono (Nat.le_trans k2.size h.2.size)) hmb
  clear B1 B2
  go_enter Tryz.func11, Tryz.ntmps11
  go_wp2_with fail
  go_region_held3 (fun w' => BoxVV ((w.alloc (.cells (valCells a ea) 26)).alloc (.cells (valCells b eb) 26)) w.heap.size a ea (w.heap.size + 1) b eb w')
    (first | exact hS0 _ (Below.refl _ _).drew | (refine hS2 _ _ ?_ hbA; assumption) | (refine hS2 _ _ ?_ hbB; assumption) | (refine hS2 _ _ ?_ hbC; assumption))
    (first
      | (go_at_call 27; have hq := h6; clear hq; refine (hB _ (by assumption)).mono ?_; rintro r w8 ⟨A8, n8, c8, rfl, h8, hbB⟩; replace h6 := h6.below hbB)
      | (go_at_call 27; refine (hA _ (by assumption)).mono ?_; rintro r w6 ⟨A6, n6, c6, rfl, h6, hbA⟩)
      | (go_at_call 13; refine (i_LessBytes _ _ _ _ _ _ _ _ w8 w8.heap.size h6.sl h8.sl).mono ?_; rintro r w9 ⟨rfl, rfl⟩; have hbC := Below.refl w8.heap.size w8))
  rename_i hHeld
  have kb := k2.trans (hHeld.2.mono k2.size)
  clear hS0 hS2 hA hB hHeld
  go_wp2_with fail
  go_ret
  exact ⟨rfl, kb⟩
set_option maxHeartbeats 1600000 in
theorem s_LessTight (a b : Tr) (ea eb : El) (w : World) (hwa : a.wf) (hwb : b.wf) (hla : LsAt w a.l ea) (hlb : LsAt w b.l eb) (hea : ea.lt w.heap.size) (heb : eb.lt w.heap.size) (hma : a.sz ≤ 1048576) (hmb : b.sz ≤ 1048576) :
    Calls Tryz.prog 12 #[trV a ea, trV b eb] w fun r w' => r = .returned (.bool (ltB (tightT false false a) (tightT false false b))) ∧ Below w.heap.size w w' := by
  have k2 := Below.two w (.cells (valCells a ea) 26) (.cells (valCells b eb) 26)
  have B1 : Blk ((w.alloc (.cells (valCells a ea) 26)).alloc (.cells (valCells b eb) 26)) w.heap.size 26 (valCells a ea) := (Blk.new w _ _).alloc _
  have B2 : Blk ((w.alloc (.cells (valCells a ea) 26)).alloc (.cells (valCells b eb) 26)) (w.heap.size + 1) 26 (valCells b eb) := by simpa using Blk.new (w.alloc (.cells (valCells a ea) 26)) 26 (valCells b eb)
  have hS0 := fun (w' : World) (hb : Below ((w.alloc (.cells (valCells a ea) 26)).alloc (.cells (valCells b eb) 26)).heap.size ((w.alloc (.cells (valCells a ea) 26)).alloc (.cells (valCells b eb) 26)) w') => boxVV B1 B2 hb
  have hS2 := fun (w' w'' : World) (h : BoxVV ((w.alloc (.cells (valCells a ea) 26)).alloc (.cells (valCells b eb) 26)) w.heap.size a ea (w.heap.size + 1) b eb w') (hb : Below w'.heap.size w' w'') => hS0 w'' (h.2.up hb)
  have hA := fun (w' : World) (h : BoxVV ((w.alloc (.cells (valCells a ea) 26)).alloc (.cells (valCells b eb) 26)) w.heap.size a ea (w.heap.size + 1) b eb w') => s_PackTight a ea w' hwa (hla.below hea (k2.trans (h.2.mono k2.size))) (hea.mono (Nat.le_trans k2.size h.2.size)) hma
  have hB := fun (w' : World) (h : BoxVV ((w.alloc (.cells (valCells a ea) 26)).alloc (.cells (valCells b eb) 26)) w.heap.size a ea (w.heap.size + 1) b eb w') => s_PackTight b eb w' hwb (hlb.below heb (k2.trans (h.2.mono k2.size))) (heb.mono (Nat.le_trans k2.size h.2.size)) hmb
  clear B1 B2
  go_enter Tryz.func12, Tryz.ntmps12
  go_wp2_with fail
  go_region_held3 (fun w' => BoxVV ((w.alloc (.cells (valCells a ea) 26)).alloc (.cells (valCells b eb) 26)) w.heap.size a ea (w.heap.size + 1) b eb w')
    (first | exact hS0 _ (Below.refl _ _).drew | (refine hS2 _ _ ?_ hbA; assumption) | (refine hS2 _ _ ?_ hbB; assumption) | (refine hS2 _ _ ?_ hbC; assumption))
    (first
      | (go_at_call 28; have hq := h6; clear hq; refine (hB _ (by assumption)).mono ?_; rintro r w8 ⟨A8, n8, c8, rfl, h8, hbB⟩; replace h6 := h6.below hbB)
      | (go_at_call 28; refine (hA _ (by assumption)).mono ?_; rintro r w6 ⟨A6, n6, c6, rfl, h6, hbA⟩)
      | (go_at_call 14; refine (s_LessBytes _ _ _ _ _ _ _ _ w8 w8.heap.size h6.sl h8.sl).mono ?_; rintro r w9 ⟨rfl, hd9⟩; have hbC := hd9.below w8.heap.size))
  rename_i hHeld
  have kb := k2.trans (hHeld.2.mono k2.size)
  clear hS0 hS2 hA hB hHeld
  go_wp2_with fail
  go_ret
  exact ⟨rfl, kb⟩
end Go.Proofs.YtmnlkedacnemcaaGreatDoor
