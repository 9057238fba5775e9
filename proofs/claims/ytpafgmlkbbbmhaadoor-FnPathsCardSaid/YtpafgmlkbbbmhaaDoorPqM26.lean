/- DrawPutHead, DrawHeadFor; same. l1Bent: bytes, mostly with one turned, cut, or with more behind. -/
import Derived.Test.YtpafgmlkbbbmhaaDoorPqM25
import Derived.Deep.RegionLaw
set_option linter.unusedVariables false
set_option maxRecDepth 100000
set_option linter.unusedSimpArgs false
namespace Go.Proofs.YtpafgmlkbbbmhaaDoor
open Go.RowKit

theorem results_tmp_blk {P : Program} {fn : Func} {p u : Tmp} {ty : TypeId} {tmps : Array Value} {w : World} {g : Nat} {t : TypeId} {cs : Array Value} (h : fn.results = #[.tmp u, .cell p ty])
    (ha : ∀ w, (isAgg ty).run P w = .ok true w) (hs : ∀ w, (sizeOf ty).run P w = .ok cs.size w) (hp : tmps.getD p undef = .pointer (some ⟨g, 0, none⟩)) (hb : Blk w g t cs) :
    (results fn tmps).run P w = .ok (.tuple #[tmps.getD u undef, .agg cs]) w := by
  have hl := run_loadVar_blk ha hs hb
  have hp2 : tmps[p]?.getD undef = .pointer (some ⟨g, 0, none⟩) := by simpa using hp
  simp [results, h, hp2, asAddr, Sem.run_bind, hl, Result.andThen]
end Go.Proofs.YtpafgmlkbbbmhaaDoor

namespace Go.Proofs.YtpafgmlkbbbmhaaDoor
open Go.RowKit

/-- What a bending gives: bytes that can be read, at most one more. -/
def BentDrawn (w w' : World) (B g n c : Nat) (A : Option Addr) (b : List UInt8) (m : Nat) (r : Ending) : Prop :=
  ∃ (A' : Option Addr) (k c' : Nat) (l : List UInt8), r = .returned (.slice A' k c') ∧ Sl w' w'.heap.size 1 A' k c' (u8s l) ∧ (∀ x ∈ blkOf A', g < x) ∧ k ≤ m + 1 ∧ Cur w' B g A n c b ∧ Fr [g] w w'
theorem u8_of {x : Int} (h : 0 ≤ x ∧ x < 256) : ∃ y : UInt8, (.int .u8 x : Value) = .int .u8 (y.toNat : Int) := ⟨UInt8.ofNat x.toNat, by rw [UInt8.toNat_ofNat_of_lt' (by show x.toNat < 256; omega)]; congr 1; omega⟩
theorem u8s_set (b : List UInt8) (k : Nat) (y : UInt8) : (u8s b).set k (.int .u8 (y.toNat : Int)) = u8s (b.set k y) := by simp [u8s, List.map_set]
/-- A byte of an own row written. -/
theorem BS.store {w : World} {lo n c g k : Nat} {b : List UInt8} (h : BS w lo (some ⟨g, 0, none⟩) n c b) (hk : k < n) {x : Int} (hx : 0 ≤ x ∧ x < 256) :
    (∃ u, w.cell? ⟨g, k, none⟩ = some u) ∧ w.frozen? ⟨g, k, none⟩ = false ∧ ∃ b', BS (w.setCell ⟨g, k, none⟩ (.int .u8 x)) lo (some ⟨g, 0, none⟩) n c b' := by
  have h' : w.ownsRow lo 5 1 (.slice (some ⟨g, 0, none⟩) n c) n (u8s b) := h
  refine ⟨?_, h'.frozenAt k, ?_⟩
  · rw [h'.cellAt k (by omega)]
    exact ⟨_, List.getElem?_eq_getElem (by rw [h'.1]; omega)⟩
  · obtain ⟨y, hy⟩ := u8_of hx
    have hst := (h'.stored k (.int .u8 x)).1
    rw [hy, u8s_set] at hst
    rw [hy]
    exact ⟨_, hst⟩
theorem BS.at0 {w : World} {lo n c : Nat} {A : Option Addr} {b : List UInt8} (h : BS w lo A n c b) (hn : 0 < n) : ∃ g, A = some ⟨g, 0, none⟩ ∧ lo ≤ g := by
  have h' : w.ownsRow lo 5 1 (.slice A n c) n (u8s b) := h
  rcases h'.2 with ⟨e, _⟩ | ⟨g, cap, cur, e, hb, _⟩
  · simp only [Value.slice.injEq] at e; omega
  · simp only [Value.slice.injEq] at e; exact ⟨g, e.1, hb⟩
theorem Sl.head_ {w : World} {B n c k : Nat} {A : Option Addr} {b : List UInt8} (h : Sl w B 1 A n c (u8s b)) (hk : k ≤ n) : Sl w B 1 A k c (u8s (b.take k)) := by
  have hl := h.blen
  have hc := h.cap
  have hm := h.max
  refine ⟨by rw [u8s_len, List.length_take]; omega, by omega, hm, fun h0 => ?_⟩
  obtain ⟨g, o, e, hg, hk2⟩ := h.at_ (by omega)
  refine ⟨g, o, e, hg, fun j u hu => hk2 j u ?_⟩
  have hj : j < k := by have := (List.getElem?_eq_some_iff.1 hu).1; rw [u8s_len, List.length_take] at this; omega
  rw [← hu, ← u8s_take, List.getElem?_take, if_pos hj]
theorem xor_u8 (a b : Int) : 0 ≤ bits .xor .u8 a b ∧ bits .xor .u8 a b < 256 := by
  have h : ∃ x, bits .xor .u8 a b = IntKind.u8.wrap x := ⟨_, rfl⟩
  obtain ⟨x, hx⟩ := h
  rw [hx, IntKind.wrap_u8]
  omega
end Go.Proofs.YtpafgmlkbbbmhaaDoor
