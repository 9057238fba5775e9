/- FromRunes (impl). -/
import Derived.Test.YtagplndffdgifaaDoorRunes
import Derived.Test.YtagplndffdgifaaDoorFour
import Derived.Test.YtagplndffdgifaaDoorShelf
import Derived.Test.YtagplndffdgifaaDoorGr
import Derived.Shelf.Utf8.AppendRunePlain
set_option linter.unusedVariables false
set_option maxRecDepth 100000
set_option linter.unusedSimpArgs false
namespace Go.Proofs.YtagplndffdgifaaDoor
open Go.RowKit

theorem runeCells_enc {n : Int} (h : runeOk n = true) : Lib.runeCells n = u8s (encL n.toNat) := by
  have ho := runeOk_iff.1 h
  obtain ⟨c, rfl⟩ : ∃ c : Nat, n = c := ⟨n.toNat, by omega⟩
  rw [Int.toNat_natCast]
  unfold Lib.runeCells Lib.encodeRuneZ encL u8s
  by_cases h1 : c < 128
  · rw [if_pos (by omega), if_pos h1]
    simp only [List.map_cons, List.map_nil, ofNat_toNat' (n := c) (by omega)]
  rw [if_neg (by omega), if_neg h1]
  by_cases h2 : c < 2048
  · rw [if_pos (by omega), if_pos h2]
    simp only [List.map_cons, List.map_nil, ofNat_toNat' (n := 192 + c / 64) (by omega), ofNat_toNat' (n := 128 + c % 64) (by omega)]
    rfl
  rw [if_neg (by omega), if_neg h2]
  by_cases h3 : c < 65536
  · rw [if_pos (by omega), if_pos h3]
    simp only [List.map_cons, List.map_nil, ofNat_toNat' (n := 224 + c / 4096) (by omega), ofNat_toNat' (n := 128 + c / 64 % 64) (by omega), ofNat_toNat' (n := 128 + c % 64) (by omega)]
    rfl
  rw [if_neg (by omega), if_neg h3, if_pos (by omega)]
  simp only [List.map_cons, List.map_nil, ofNat_toNat' (n := 240 + c / 262144) (by omega), ofNat_toNat' (n := 128 + c / 4096 % 64) (by omega), ofNat_toNat' (n := 128 + c / 64 % 64) (by omega), ofNat_toNat' (n := 128 + c % 64) (by omega)]
  rfl
theorem g_AppendRune (A : Option Addr) (m c lo : Nat) (b : List UInt8) (n : Int) (w : World) (hn : runeOk n = true) (h : BS w lo A m c b) (hm : m ≤ 70368744177664) (hlo : lo ≤ w.heap.size) :
    Calls Tryd.prog 62 #[.slice A m c, .int .i32 n] w fun e w' => ∃ A' c', e = .returned (.slice A' (m + (encL n.toNat).length) c') ∧ BS w' lo A' (m + (encL n.toNat).length) c' (b ++ encL n.toNat) ∧ ∃ o, (w.alloc o).grownBy w' (Value.slice A m c).ownBlock := by
  have ho := runeOk_iff.1 hn
  have hc : Calls Tryd.prog 62 #[.slice A m c, .int .i32 n] w fun e w' => ∃ v', e = .returned v' ∧ w'.ownsRow lo 5 1 v' (m + (Lib.runeCells n).length) (u8s b ++ Lib.runeCells n) ∧ ∃ o, (w.alloc o).grownBy w' (Value.slice A m c).ownBlock := Any.utf8_AppendRune_plain { Tryd.lays230 with } (by kernel_rfl) lo (.slice A m c) m (u8s b) n (by omega) (by omega) w h (by omega) hlo
  refine hc.mono ?_
  rintro e w' ⟨v', rfl, h1, h2⟩
  rw [runeCells_enc hn, ← u8s_append, u8s_len] at h1
  obtain ⟨A', c', rfl⟩ := own_shape h1
  exact ⟨A', c', rfl, h1, h2⟩
set_option maxHeartbeats 1000000 in
theorem i_FromRunes (A : Option Addr) (n c : Nat) (l : List Int) (w : World) (B : Nat) (h : Sl w B 1 A n c (i64s l)) (hB : B ≤ w.heap.size) (hn : n ≤ 1099511627776) :
    Calls Tryd.prog 18 #[.slice A n c] w fun e w' => e = .returned (.string ⟨(encAll l).toArray⟩) ∧ Below w.heap.size w w' := by
  have hl := h.ilen
  have hE : BS (w.alloc (.cells #[] 5)) w.heap.size (some ⟨w.heap.size, 0, none⟩) 0 0 (encAll (l.take 0)) := by rw [List.take_zero]; exact BS.new w
  go_enter Tryd.func18, Tryd.ntmps18
  go_wp2_with fail
  go_loopg [3, 5, 9] n (fun f v3 v5 v9 wr => ∃ (j m c' : Nat) (A' : Option Addr), j + f = n ∧ v9 = .int .i64 j ∧ v3 = .slice A' m c' ∧ m ≤ 4 * j ∧ BS wr w.heap.size A' m c' (encAll (l.take j)) ∧ w.heap.size ≤ wr.heap.size ∧ Below w.heap.size w wr)
  case atStart => exact ⟨0, 0, 0, _, by omega, rfl, rfl, by omega, hE, by simp, Below.one w _⟩
  case round =>
    obtain ⟨j, m, c', A', hjf, rfl, rfl, hm, hI, hz, hK⟩ := hrel
    clear hE
    by_cases hlt : j < n
    · obtain ⟨f, rfl⟩ : ∃ f, gk = f + 1 := ⟨gk - 1, by omega⟩
      obtain ⟨g, o, rfl, hg, hjl, hc⟩ := (h.below (hK.mono hB)).int hlt
      have hsn : encAll (l.take (j + 1)) = encAll (l.take j) ++ encR l[j] := by rw [List.take_succ_eq_append_getElem hjl, encAll_snoc]
      have hjf2 : j + 1 + f = n := by omega
      clear hjf
      generalize l[j] = z at hc hsn
      cases hr : runeOk z with
      | false =>
        have he : encR z = [] := by simp [encR, hr]
        rw [he, List.append_nil] at hsn
        go_wp2_with (go_at_call 16; refine (i_RuneOk _ _).mono ?_; rintro e w' ⟨rfl, rfl⟩)
        go_roundg f
        case measure => omega
        case rel => exact ⟨j + 1, m, c', A', hjf2, by go_num, rfl, by omega, by rw [hsn]; exact hI, hz, hK⟩
      | true =>
        have he : encR z = encL z.toNat := by simp [encR, hr]
        have hlz := encL_len z.toNat
        have ho := runeOk_iff.1 hr
        have hw32 : wrap32 z = z := by unfold wrap32; omega
        have hcall := g_AppendRune A' m c' w.heap.size (encAll (l.take j)) z wr hr hI (by omega) hz
        rw [← he, ← hsn, he] at hcall
        go_wp2_with (first
          | (go_at_call 16; refine (i_RuneOk _ _).mono ?_; rintro e w' ⟨rfl, rfl⟩)
          | (go_at_call 62; refine hcall.mono ?_; rintro e w2 ⟨A2, c2, rfl, h2, o2, hg2⟩))
        have hK2 : Below w.heap.size w w2 := Below.grown (hK.alloc hz o2) hg2 (by simp; omega) (fun k hk => (World.ownsRow.lt hI k (by rw [hk])).1)
        go_roundg f
        case measure => omega
        case rel => exact ⟨j + 1, _, c2, A2, hjf2, by go_num, rfl, by omega, h2, hK2.size, hK2⟩
    · have hj : l.take j = l := List.take_of_length_le (by omega)
      rw [hj] at hI
      have hcv := run_str_sl (P := Tryd.prog) 22 5 Tryd.underlying22 Tryd.underlying5 hI.sl 9 Tryd.underlying9
      clear hj
      go_wp2_with fail
      go_ret
      exact ⟨rfl, hK⟩
end Go.Proofs.YtagplndffdgifaaDoor
