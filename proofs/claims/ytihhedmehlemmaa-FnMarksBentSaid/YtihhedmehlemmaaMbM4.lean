/- FromRunes: the reference's. The laws' own helpers on []byte: copies, comparison. -/
import Derived.Test.YtihhedmehlemmaaMbRune
import Derived.Test.YtihhedmehlemmaaMbM1
import Derived.Test.YtihhedmehlemmaaMbM0
import Derived.BigQuiet
import Derived.Deep.QuietTactic
set_option linter.unusedVariables false
set_option maxRecDepth 100000
set_option linter.unusedSimpArgs false
namespace Go.Proofs.Ytihhedmehlemmaa
open Go.RowKit

theorem own_mono {w : World} {base base' : Nat} {e : TypeId} {m : Nat} {v : Value} {n : Nat} {xs : List Value} (h : w.ownsRow base e m v n xs) (hb : base' ≤ base) : w.ownsRow base' e m v n xs := by
  refine ⟨h.1, ?_⟩
  rcases h.2 with h1 | ⟨g, cap, cur, h1, h2, h3⟩
  · exact .inl h1
  · exact .inr ⟨g, cap, cur, h1, Nat.le_trans hb h2, h3⟩
def i64s (l : List Int) : List Value := l.map (Value.int .i64)
theorem i64s_get (l : List Int) (k : Nat) (h : k < l.length) : (i64s l)[k]? = some (.int .i64 l[k]) := by simp [i64s, h]
theorem Sl.int {w : World} {B n c : Nat} {A : Option Addr} {l : List Int} (h : Sl w B 1 A n c (i64s l)) {k : Nat} (hk : k < n) :
    ∃ g o, A = some ⟨g, o, none⟩ ∧ g < B ∧ ∃ hb : k < l.length, w.cell? ⟨g, o + k, none⟩ = some (.int .i64 l[k]) := by
  obtain ⟨g, o, e, hg, hc⟩ := h.at_ (by omega)
  have hl : k < l.length := by have := h.len; simp [i64s] at this; omega
  exact ⟨g, o, e, hg, hl, hc k _ (i64s_get l k hl)⟩
theorem Sl.ilen {w : World} {B n c : Nat} {A : Option Addr} {l : List Int} (h : Sl w B 1 A n c (i64s l)) : l.length = n := by have := h.len; simp [i64s] at this; omega
def encAll (l : List Int) : List UInt8 := l.flatMap encR
theorem encAll_snoc (l : List Int) (x : Int) : encAll (l ++ [x]) = encAll l ++ encR x := by simp [encAll, List.flatMap_append]
theorem encAll_len (l : List Int) : (encAll l).length ≤ 4 * l.length := by
  induction l with
  | nil => simp [encAll]
  | cons a l ih => have := encR_len a; simp only [encAll, List.flatMap_cons, List.length_append, List.length_cons] at ih ⊢; omega
set_option maxHeartbeats 800000 in
theorem s_FromRunes (A : Option Addr) (n c : Nat) (l : List Int) (w : World) (B : Nat) (h : Sl w B 1 A n c (i64s l)) (hB : B ≤ w.heap.size) (hn : n ≤ 200000000000) :
    Calls Try.prog 99 #[.slice A n c] w fun e w' => e = .returned (.string ⟨(encAll l).toArray⟩) ∧ Below w.heap.size w w' := by
  have hl := h.ilen
  go_enter Try.func99, Try.ntmps99
  go_wp2_with fail
  go_loopg [3, 4] n (fun k v i wr => ∃ (j m c : Nat) (A : Option Addr), j + k = n ∧ i = .int .i64 j ∧ v = .slice A m c ∧ m ≤ 4 * j ∧ wr.ownsRow w.heap.size 5 1 (.slice A m c) m (u8s (encAll (l.take j))) ∧ Below w.heap.size w wr)
  case atStart => exact ⟨0, 0, 0, some ⟨w.heap.size, 0, none⟩, by omega, rfl, rfl, by omega, World.ownsRow_lit w #[] 0 (Nat.le_refl _) (by decide) rfl, Below.one _ _⟩
  case round =>
    obtain ⟨j, m, c', A', hjk, rfl, rfl, hm, hown, hb⟩ := hrel
    by_cases hlt : j < n
    · obtain ⟨k, rfl⟩ : ∃ k, gk = k + 1 := ⟨gk - 1, by omega⟩
      have HJK : j + k + 1 = n := by omega
      have hjk' := Lib.hid HJK; clear hjk HJK
      obtain ⟨g, o, rfl, hg, hjl, hc⟩ := (h.below (hb.mono hB)).int hlt
      go_wp2_with (go_at_call 106; refine (s_PutRune _ _ _ (encAll (l.take j)) _ _ _ (Sl.of_own hown) (Nat.le_refl _) (by omega)).mono ?_; rintro e w2 ⟨A2, m2, c2, rfl, hm2, ho2, hb2⟩)
      go_roundg k
      case measure => omega
      case rel =>
        refine ⟨j + 1, m2, c2, A2, by have := hjk'.out; omega, by go_num, rfl, by omega, ?_, hb.up hb2⟩
        rw [List.take_succ_eq_append_getElem hjl, encAll_snoc]
        exact own_mono ho2 hb.size
    · have hj : j = n := by omega
      have Hj := Lib.hid hj
      clear hj hjk
      have hcv := run_str_sl (P := Try.prog) 22 5 Try.underlying22 Try.underlying5 (Sl.of_own hown) 9 Try.underlying9
      go_wp2
      go_ret
      refine ⟨ret_str ?_, hb⟩
      rw [List.take_of_length_le (by have := Hj.out; omega)]
end Go.Proofs.Ytihhedmehlemmaa

namespace Go.Proofs.Ytihhedmehlemmaa
open Go.RowKit

theorem info_u8 : (Try.prog.info? 5).map (fun i => (i.zero, i.size, i.bytes)) = some (some (.int .u8 0), 1, 1) := by kernel_rfl

end Go.Proofs.Ytihhedmehlemmaa
