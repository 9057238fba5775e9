/- HexText: impl and spec. (Written by wip/gen/hex.py.) -/
import Derived.Test.YtjjcdlghichmdaaAppend
import Derived.Deep.RegionLaw
import Derived.BigRegion
import Derived.Deep.LoopGhost
import Derived.Laws.BytesArg
set_option linter.unusedVariables false
set_option maxRecDepth 100000
set_option linter.unusedSimpArgs false
namespace Go.Proofs.Ytjjcdlghichmdaa
open Go.RowKit

theorem info_u8h : (Try.prog.info? 5).map (fun i => (i.zero, i.size, i.bytes)) = some (some (.int .u8 0), 1, 1) := by kernel_rfl
theorem and15 (c : UInt8) : bits BinOp.and IntKind.u8 (c.toNat : Int) 15 = (c.toNat : Int) % 16 :=
  u8_all (p := fun c => bits BinOp.and IntKind.u8 (c.toNat : Int) 15 = (c.toNat : Int) % 16) (by decide +kernel) c
def hexd (k : Nat) : UInt8 := if k < 10 then UInt8.ofNat (48 + k) else UInt8.ofNat (87 + k)
def hexOf (l : List UInt8) : List UInt8 := l.flatMap fun c => [hexd (c.toNat / 16), hexd (c.toNat % 16)]
theorem hexOf_len (l : List UInt8) : (hexOf l).length = 2 * l.length := by
  induction l with
  | nil => rfl
  | cons c l ih => simp only [hexOf, List.flatMap_cons, List.length_append, List.length_cons, List.length_nil] at ih ⊢; omega
theorem hexOf_snoc (l : List UInt8) (c : UInt8) : hexOf (l ++ [c]) = hexOf l ++ [hexd (c.toNat / 16), hexd (c.toNat % 16)] := by simp [hexOf, List.flatMap_append]
theorem hex_at (k : Nat) (h : k < 16) : ((⟨#[48, 49, 50, 51, 52, 53, 54, 55, 56, 57, 97, 98, 99, 100, 101, 102]⟩ : ByteArray)[k]'h) = hexd k := by
  have : ∀ k : Fin 16, ((⟨#[48, 49, 50, 51, 52, 53, 54, 55, 56, 57, 97, 98, 99, 100, 101, 102]⟩ : ByteArray)[k.val]'k.isLt) = hexd k.val := by decide +kernel
  exact this ⟨k, h⟩
theorem hex_news (c : UInt8) (h1 : ((c.toNat : Int) / 16).toNat < 16) (h2 : ((c.toNat : Int) % 16).toNat < 16) :
    [Value.int .u8 (((⟨#[48, 49, 50, 51, 52, 53, 54, 55, 56, 57, 97, 98, 99, 100, 101, 102]⟩ : ByteArray)[((c.toNat : Int) / 16).toNat]'h1).toNat : Int),
     Value.int .u8 (((⟨#[48, 49, 50, 51, 52, 53, 54, 55, 56, 57, 97, 98, 99, 100, 101, 102]⟩ : ByteArray)[((c.toNat : Int) % 16).toNat]'h2).toNat : Int)] = u8s [hexd (c.toNat / 16), hexd (c.toNat % 16)] := by
  rw [hex_at, hex_at]
  have e1 : ((c.toNat : Int) / 16).toNat = c.toNat / 16 := by omega
  have e2 : ((c.toNat : Int) % 16).toNat = c.toNat % 16 := by omega
  rw [e1, e2]; rfl
theorem Sl.congr {w : World} {B m n c : Nat} {A : Option Addr} {xs ys : List Value} (h : xs = ys) (hs : Sl w B m A n c xs) : Sl w B m A n c ys := h ▸ hs
theorem run_loadCells_sl {P : Program} {w : World} {B n c : Nat} {a : Addr} {xs : List Value} (h : Sl w B 1 (some a) n c xs) : (loadCells a n).run P w = .ok xs.toArray w := by
  have hl := h.len
  by_cases hn : 0 < n
  · obtain ⟨g, o, e, _, hc⟩ := h.at_ hn
    injection e with e
    subst e
    have := run_loadCells_list (P := P) w ⟨g, o, none⟩ xs (fun j v hj => by
      have hplain : (⟨g, o, none⟩ : Addr).add j = ⟨g, o + j, none⟩ := by unfold Addr.add; split <;> simp_all
      rw [hplain]; exact hc j v hj)
    rwa [show xs.length = n by omega] at this
  · have hn0 : n = 0 := by omega
    subst hn0
    have hx : xs = [] := List.eq_nil_of_length_eq_zero (by omega)
    subst hx
    exact run_loadCells_list (P := P) w a [] (fun j v hj => by simp at hj)
/-- string(b), b a []byte. -/
theorem run_str_sl {P : Program} {w : World} {B n c : Nat} {A : Option Addr} {b : List UInt8} (src e : TypeId) (hs : P.underlying src = some (.slice e)) (he : P.underlying e = some (.int .u8))
    (h : Sl w B 1 A n c (u8s b)) : ∀ dst, P.underlying dst = some .string → (convert src dst (.slice A n c)).run P w = .ok (.string ⟨b.toArray⟩) w := by
  intro dst hd
  cases A with
  | none =>
    rw [run_convert_bytes_nil w src e hs he n c dst hd]
    have hn : n = 0 := by
      rcases Nat.eq_zero_or_pos n with h0 | h0
      · exact h0
      · obtain ⟨g, o, e, _⟩ := h.at_ h0; cases e
    have hb : b = [] := List.eq_nil_of_length_eq_zero (by have := h.blen; omega)
    subst hb
    rfl
  | some a =>
    have hl := run_loadCells_sl (P := P) h
    have e1 : u8s b = (b.map fun x => (x.toNat : Int)).map (Value.int .u8) := by simp [u8s]
    rw [e1] at hl
    rw [run_convert_bytes_string w src dst e _ n c hs he hd, run_bytesToString w _ n c (b.map fun x => (x.toNat : Int)) hl, foldl_push_bytes]
    congr 2
    apply ByteArray.ext
    show (#[] : Array UInt8) ++ ((b.map fun x => (x.toNat : Int)).map fun n => UInt8.ofNat n.toNat).toArray = b.toArray
    simp [Function.comp_def]
end Go.Proofs.Ytjjcdlghichmdaa
