/- Words for memory: a slice that holds given cells (nil let in). No function of the program in sight. -/
import Derived.Test.YtkkfgbbedpcnoaaRows
import Derived.WalkKit
import Derived.WalkSpells
import Derived.Lib.Hide
import Derived.Deep.Draws
set_option linter.unusedVariables false
set_option linter.unusedSimpArgs false
namespace Go.RowKit
theorem Below.up {w w1 w2 : World} (h : Below w.heap.size w w1) (k : Below w1.heap.size w1 w2) : Below w.heap.size w w2 := h.trans (k.mono h.size)
end Go.RowKit
namespace Go.Proofs.Ytkkfgbbedpcnoaa
open Go.RowKit

/-- The slice value '.slice A n c' holds the cells xs (m cells an element); its block lies below B. -/
structure Sl (w : World) (B m : Nat) (A : Option Addr) (n c : Nat) (xs : List Value) : Prop where
  len : xs.length = n * m
  cap : n ≤ c
  max : c ≤ maxLen
  at_ : 0 < n → ∃ g o, A = some ⟨g, o, none⟩ ∧ g < B ∧ ∀ j u, xs[j]? = some u → w.cell? ⟨g, o + j, none⟩ = some u

section
variable {w w' : World} {B B' m n c : Nat} {A : Option Addr} {xs : List Value}
theorem Sl.keep (h : Sl w B m A n c xs) (hk : ∀ p : Addr, p.block < B → w'.cell? p = w.cell? p) : Sl w' B m A n c xs :=
  ⟨h.len, h.cap, h.max, fun hn => by
    obtain ⟨g, o, e, hb, hc⟩ := h.at_ hn
    exact ⟨g, o, e, hb, fun j u hu => (hk _ hb).trans (hc j u hu)⟩⟩
theorem Sl.more (h : Sl w B m A n c xs) (hB : B ≤ B') : Sl w B' m A n c xs :=
  ⟨h.len, h.cap, h.max, fun hn => by
    obtain ⟨g, o, e, hb, hc⟩ := h.at_ hn
    exact ⟨g, o, e, by omega, hc⟩⟩
theorem Sl.below (h : Sl w B m A n c xs) (hb : Below B w w') : Sl w' B m A n c xs := h.keep fun _ hp => hb.cell hp
theorem Sl.drew (h : Sl w B m A n c xs) : Sl w.drew B m A n c xs := h.keep fun _ _ => rfl
theorem Sl.drewN (h : Sl w B m A n c xs) (k : Nat) : Sl (w.drewN k) B m A n c xs := h.keep fun _ _ => rfl
theorem Sl.alloc (h : Sl w B m A n c xs) (hB : B ≤ w.heap.size) (o : Obj) : Sl (w.alloc o) B m A n c xs := h.keep fun p hp => World.cell?_alloc_lt w o p (by omega)
theorem Sl.setCell (h : Sl w B m A n c xs) {p : Addr} (hB : B ≤ p.block) (u : Value) : Sl (w.setCell p u) B m A n c xs :=
  h.keep fun q hq => World.cell?_setCell_other w p q u (fun e => by subst e; omega)
theorem Sl.of_own {base : Nat} {e : TypeId} (h : w.ownsRow base e m (.slice A n c) n xs) : Sl w w.heap.size m A n c xs := by
  refine ⟨h.1, ?_, ?_, fun hn => ?_⟩
  · rcases h.2 with ⟨h1, _⟩ | ⟨g, cap, cur, h1, _, _, h2, _⟩ <;> (simp only [Value.slice.injEq] at h1; omega)
  · rcases h.2 with ⟨h1, _⟩ | ⟨g, cap, cur, h1, _, _, _, h2, _⟩
    · simp only [Value.slice.injEq] at h1; simp [h1.2.2]
    · simp only [Value.slice.injEq] at h1; rw [h1.2.2]; exact h2
  · obtain ⟨g, hv⟩ : ∃ g, A = some ⟨g, 0, none⟩ := by
      rcases h.2 with ⟨_, h2⟩ | ⟨g, cap, cur, h1, _⟩
      · omega
      · simp only [Value.slice.injEq] at h1; exact ⟨g, h1.1⟩
    refine ⟨g, 0, hv, (h.lt g (by rw [hv]; rfl)).2, fun j u hu => ?_⟩
    have hc := h.cells (g := g) (by rw [hv]; rfl) j u hu
    have e : (⟨g, 0, none⟩ : Addr).add j = ⟨g, 0 + j, none⟩ := by unfold Addr.add; split <;> simp_all
    rwa [e] at hc
theorem Sl.nil_ (w : World) (B m : Nat) : Sl w B m none 0 0 [] := ⟨by simp, Nat.le_refl _, by simp, fun h => absurd h (by omega)⟩
end

/-- Draws alone part w' from w. -/
def Drawn (w w' : World) : Prop := ∃ d, w' = w.drewN d
theorem Drawn.refl (w : World) : Drawn w w := ⟨0, rfl⟩
theorem Drawn.drewN {w w' : World} (h : Drawn w w') (n : Nat) : Drawn w (w'.drewN n) := by
  obtain ⟨d, rfl⟩ := h
  exact ⟨d + n, by rw [World.drewN_drewN]⟩
theorem Drawn.drew {w w' : World} (h : Drawn w w') : Drawn w w'.drew := h.drewN 1
theorem Drawn.trans {a b c : World} (h : Drawn a b) (k : Drawn b c) : Drawn a c := by
  obtain ⟨d, rfl⟩ := k
  exact h.drewN d
theorem Drawn.heap {w w' : World} (h : Drawn w w') : w'.heap = w.heap := by obtain ⟨d, rfl⟩ := h; rfl
theorem Drawn.cell {w w' : World} (h : Drawn w w') (p : Addr) : w'.cell? p = w.cell? p := by obtain ⟨d, rfl⟩ := h; rfl
theorem Drawn.below {w w' : World} (h : Drawn w w') (B : Nat) : Below B w w' := by
  obtain ⟨d, rfl⟩ := h
  exact ⟨rfl, rfl, rfl, Nat.le_refl _, fun _ _ => rfl⟩
theorem Drawn.size {w w' : World} (h : Drawn w w') : w.heap.size ≤ w'.heap.size := by rw [h.heap]; exact Nat.le_refl _
theorem Drawn.own {w w' : World} (h : Drawn w w') {base : Nat} {e : TypeId} {m : Nat} {v : Value} {n : Nat} {xs : List Value} (ho : w.ownsRow base e m v n xs) : w'.ownsRow base e m v n xs := by
  obtain ⟨d, rfl⟩ := h
  exact ho
theorem Drawn.sl {w w' : World} (h : Drawn w w') {B m n c : Nat} {A : Option Addr} {xs : List Value} (hs : Sl w B m A n c xs) : Sl w' B m A n c xs := hs.keep fun p _ => h.cell p

/-- Bytes as cells. -/
def u8s (b : List UInt8) : List Value := b.map fun c => .int .u8 (c.toNat : Int)
theorem u8s_len (b : List UInt8) : (u8s b).length = b.length := by simp [u8s]
theorem u8s_get (b : List UInt8) (k : Nat) (h : k < b.length) : (u8s b)[k]? = some (.int .u8 (b[k].toNat : Int)) := by simp [u8s, h]
theorem u8s_append (a b : List UInt8) : u8s (a ++ b) = u8s a ++ u8s b := by simp [u8s]
theorem u8s_one (b : List UInt8) : ∀ u ∈ u8s b, u.oneCell' = true := by
  intro u hu
  obtain ⟨_, _, rfl⟩ := List.mem_map.1 hu
  rfl
/-- The byte at k, in a form for the walk. -/
theorem Sl.byte {w : World} {B n c : Nat} {A : Option Addr} {b : List UInt8} (h : Sl w B 1 A n c (u8s b)) {k : Nat} (hk : k < n) :
    ∃ g o, A = some ⟨g, o, none⟩ ∧ g < B ∧ ∃ hb : k < b.length, w.cell? ⟨g, o + k, none⟩ = some (.int .u8 (b[k].toNat : Int)) := by
  obtain ⟨g, o, e, hg, hc⟩ := h.at_ (by omega)
  have hl : k < b.length := by have := h.len; rw [u8s_len] at this; omega
  exact ⟨g, o, e, hg, hl, hc k _ (u8s_get b k hl)⟩
theorem Sl.blen {w : World} {B n c : Nat} {A : Option Addr} {b : List UInt8} (h : Sl w B 1 A n c (u8s b)) : b.length = n := by have := h.len; rw [u8s_len] at this; omega
theorem take_set_step {α : Type} (l : List α) (z : α) (k n : Nat) (hn : l.length = n) (hk : k < n) (h : k < l.length) :
    (l.take k ++ List.replicate (n - k) z).set k l[k] = l.take (k + 1) ++ List.replicate (n - (k + 1)) z := by
  have hm : min k l.length = k := Nat.min_eq_left (by omega)
  rw [show n - k = (n - (k + 1)) + 1 by omega, List.replicate_succ, List.set_append_right _ _ (by simp; omega)]
  rw [List.length_take, hm, Nat.sub_self, List.set_cons_zero, List.take_succ_eq_append_getElem h, List.append_assoc]
  rfl
end Go.Proofs.Ytkkfgbbedpcnoaa
