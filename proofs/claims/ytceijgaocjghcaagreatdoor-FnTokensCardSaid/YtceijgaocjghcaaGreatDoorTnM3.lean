/- append onto a row of the call's own: the source nil, empty or not. No function of the program in sight. HexText: impl and spec. -/
import Derived.Test.YtceijgaocjghcaaGreatDoorTnM1
import Derived.Maps.AppendAt
import Derived.Deep.AppendLies
import Derived.RegionTactic
import Derived.OwnWalk
import Derived.Deep.RegionLaw
import Derived.BigRegion
import Derived.Deep.LoopGhost
import Derived.Laws.BytesArg
set_option linter.unusedVariables false
set_option maxRecDepth 100000
set_option linter.unusedSimpArgs false
namespace Go.Proofs.YtceijgaocjghcaaGreatDoor
open Go.RowKit

section
variable {P : Program} (w : World)
theorem own_shape {w : World} {base : Nat} {e : TypeId} {size : Nat} {v : Value} {n : Nat} {xs : List Value} (h : w.ownsRow base e size v n xs) : ∃ A c, v = .slice A n c := by
  rcases h.2 with ⟨h1, h2⟩ | ⟨g, cap, cur, h1, _⟩
  · exact ⟨none, 0, by rw [h1, h2]⟩
  · exact ⟨_, _, h1⟩
theorem run_append_sl (base : Nat) (t ty e : TypeId) (i : TypeInfo) (z : Value) (size bytes : Nat) (ht : P.underlying t = some (.slice e)) (hi : P.info? e = some i) (hz : i.zero = some z)
    (hsize : i.size = size) (hby : i.bytes = bytes) (hzs : z.cells.size = size) (hsz : 0 < size)
    (v : Value) (n : Nat) (xs : List Value) (hown : w.ownsRow base e size v n xs)
    (B : Nat) (A : Option Addr) (m c : Nat) (news : List Value) (hr : Sl w B size A m c news) (h1 : ∀ u ∈ news, u.oneCell' = true)
    (h63 : n + m ≤ maxLen) (hbytes : (n + m) * bytes ≤ 140737488355328) (hbase : base ≤ w.heap.size) :
    ∃ A' c' w', (Builtin.append_ #[t, t] ty #[v, .slice A m c]).run P w = .ok (.slice A' (n + m) c') w' ∧ w'.ownsRow base e size (.slice A' (n + m) c') (n + m) (xs ++ news) ∧ w.grownBy w' v.ownBlock ∧
      ((Value.slice A' (n + m) c').ownBlock = v.ownBlock ∨ (Value.slice A' (n + m) c').ownBlock = some w.heap.size) := by
  have key : ∃ v' w', (Builtin.append_ #[t, t] ty #[v, .slice A m c]).run P w = .ok v' w' ∧ w'.ownsRow base e size v' (n + m) (xs ++ news) ∧ w.grownBy w' v.ownBlock ∧
      (v'.ownBlock = v.ownBlock ∨ v'.ownBlock = some w.heap.size) := by
    rcases A with _ | ad
    · have hm : m = 0 := by
        rcases Nat.eq_zero_or_pos m with h0 | h0
        · exact h0
        · obtain ⟨g, o, h, _⟩ := hr.at_ h0
          cases h
      subst hm
      have hn : news = [] := List.eq_nil_of_length_eq_zero (by simpa using hr.len)
      subst hn
      refine ⟨v, w, ?_, by simpa using hown, World.grownBy.refl w _, .inl rfl⟩
      rcases hown.2 with ⟨rfl, rfl⟩ | ⟨g, cap, cur, rfl, _, _, hnc, _⟩
      · simp [Builtin.append_, run_underlying ht, sizeOf, typeInfo, hi, Builtin.lenOf, Builtin.firstCells]
      · simp [Builtin.append_, run_underlying ht, sizeOf, typeInfo, hi, Builtin.lenOf, Builtin.firstCells, hnc, storeCells]
    · have hcells : ∀ j u, news[j]? = some u → w.cell? (ad.add j) = some u := by
        intro j u hu
        rcases Nat.eq_zero_or_pos m with h0 | h0
        · subst h0
          have hn : news = [] := List.eq_nil_of_length_eq_zero (by simpa using hr.len)
          subst hn
          simp at hu
        · obtain ⟨g, o, h, _, hc⟩ := hr.at_ h0
          injection h with h
          subst h
          have e : (⟨g, o, none⟩ : Addr).add j = ⟨g, o + j, none⟩ := by unfold Addr.add; split <;> simp_all
          rw [e]
          exact hc j u hu
      obtain ⟨v', w', hrun, h2, h3, _, h5⟩ := run_append_own_at (P := P) w base t ty e i z size bytes ht hi hz hsize hby hzs hsz v n xs hown ad m c news hr.len hcells h1 h63 hbytes hbase
      exact ⟨v', w', hrun, h2, h3, h5⟩
  obtain ⟨v', w', hrun, h2, h3, h4⟩ := key
  obtain ⟨A', c', rfl⟩ := own_shape h2
  exact ⟨A', c', w', hrun, h2, h3, h4⟩
theorem wp_append_sl {o : Oper} {a : Act} {K : Act → World → Prop} {Q : Exit → Act → World → Prop} (s x : Operand) (t : TypeId)
    (ho : o.op = .call { callee := .builtin .append, args := #[s, x], argTypes := #[t, t] })
    (base : Nat) (e : TypeId) (i : TypeInfo) (z : Value) (size bytes : Nat) (ht : P.underlying t = some (.slice e)) (hi : P.info? e = some i) (hz : i.zero = some z)
    (hsize : i.size = size) (hby : i.bytes = bytes) (hzs : z.cells.size = size) (hsz : 0 < size)
    (v : Value) (n : Nat) (xs : List Value) (hs : a.eval s = v) (hown : w.ownsRow base e size v n xs)
    (B : Nat) (A : Option Addr) (m c : Nat) (news : List Value) (hx : a.eval x = .slice A m c) (hr : Sl w B size A m c news) (h1 : ∀ u ∈ news, u.oneCell' = true)
    (h63 : n + m ≤ maxLen) (hbytes : (n + m) * bytes ≤ 140737488355328) (hbase : base ≤ w.heap.size)
    (h : ∀ A' c' w', w'.ownsRow base e size (.slice A' (n + m) c') (n + m) (xs ++ news) → w.grownBy w' v.ownBlock → ((Value.slice A' (n + m) c').ownBlock = v.ownBlock ∨ (Value.slice A' (n + m) c').ownBlock = some w.heap.size) → K (a.put o.dst (.slice A' (n + m) c')) w') : o.wp P a w K Q := by
  obtain ⟨A', c', w', hrun, h2, h3, h4⟩ := run_append_sl (P := P) w base t o.type e i z size bytes ht hi hz hsize hby hzs hsz v n xs hown B A m c news hr h1 h63 hbytes hbase
  unfold Oper.wp execOp
  simp only [ho, resolve, invoke, builtin, Sem.run_bind, Sem.run_pure, Result.andThen_ok, List.map_toArray, List.map_cons, List.map_nil, hs, hx, hrun]
  exact h A' c' w' h2 h3 h4
theorem wpList_append_sl {ops : Array Oper} {rest : List Oper} {o : Oper} {a : Act} {Q : Exit → Act → World → Prop} (hgd : o.guard = none) (s x : Operand) (t : TypeId)
    (ho : o.op = .call { callee := .builtin .append, args := #[s, x], argTypes := #[t, t] })
    (base : Nat) (e : TypeId) (i : TypeInfo) (z : Value) (size bytes : Nat) (ht : P.underlying t = some (.slice e)) (hi : P.info? e = some i) (hz : i.zero = some z)
    (hsize : i.size = size) (hby : i.bytes = bytes) (hzs : z.cells.size = size) (hsz : 0 < size)
    (v : Value) (n : Nat) (xs : List Value) (hs : a.eval s = v) (hown : w.ownsRow base e size v n xs)
    (B : Nat) (A : Option Addr) (m c : Nat) (news : List Value) (hx : a.eval x = .slice A m c) (hr : Sl w B size A m c news) (h1 : ∀ u ∈ news, u.oneCell' = true)
    (h63 : n + m ≤ maxLen) (hbytes : (n + m) * bytes ≤ 140737488355328) (hbase : base ≤ w.heap.size)
    (h : ∀ A' c' w', w'.ownsRow base e size (.slice A' (n + m) c') (n + m) (xs ++ news) → w.grownBy w' v.ownBlock → ((Value.slice A' (n + m) c').ownBlock = v.ownBlock ∨ (Value.slice A' (n + m) c').ownBlock = some w.heap.size) → wpList P ops Q rest (a.put o.dst (.slice A' (n + m) c')) w') : wpList P ops Q (o :: rest) a w :=
  wpList_plain hgd fun _ hK => wp_append_sl w s x t ho base e i z size bytes ht hi hz hsize hby hzs hsz v n xs hs hown B A m c news hx hr h1 h63 hbytes hbase fun A' c' w' h2 h3 h4 => hK _ _ (h A' c' w' h2 h3 h4)
theorem step_append_sl {ops : Array Oper} {o : Oper} {a : Act} {K : Act → World → Prop} {Q : Exit → Act → World → Prop} {E : Prop} (hgd : o.guard = none) (s x : Operand) (t : TypeId)
    (ho : o.op = .call { callee := .builtin .append, args := #[s, x], argTypes := #[t, t] })
    (base : Nat) (e : TypeId) (i : TypeInfo) (z : Value) (size bytes : Nat) (ht : P.underlying t = some (.slice e)) (hi : P.info? e = some i) (hz : i.zero = some z)
    (hsize : i.size = size) (hby : i.bytes = bytes) (hzs : z.cells.size = size) (hsz : 0 < size)
    (v : Value) (n : Nat) (xs : List Value) (hs : a.eval s = v) (hown : w.ownsRow base e size v n xs)
    (B : Nat) (A : Option Addr) (m c : Nat) (news : List Value) (hx : a.eval x = .slice A m c) (hr : Sl w B size A m c news) (h1 : ∀ u ∈ news, u.oneCell' = true)
    (h63 : n + m ≤ maxLen) (hbytes : (n + m) * bytes ≤ 140737488355328) (hbase : base ≤ w.heap.size)
    (h : ∀ A' c' w', w'.ownsRow base e size (.slice A' (n + m) c') (n + m) (xs ++ news) → w.grownBy w' v.ownBlock → ((Value.slice A' (n + m) c').ownBlock = v.ownBlock ∨ (Value.slice A' (n + m) c').ownBlock = some w.heap.size) → K (a.put o.dst (.slice A' (n + m) c')) w') :
    if Region.wanted o (yielded ops a.tmps) = true then Oper.wp P o a w K Q else E := by
  have hw : Region.wanted o (yielded ops a.tmps) = true := by simp [Region.wanted, hgd]
  rw [if_pos hw]
  exact wp_append_sl w s x t ho base e i z size bytes ht hi hz hsize hby hzs hsz v n xs hs hown B A m c news hx hr h1 h63 hbytes hbase h
end
/-- The row that a literal of cells lays. -/
theorem Sl.lit (w : World) (e : TypeId) (cs : Array Value) (m n : Nat) (h : cs.size = n * m) (hn : n ≤ maxLen) (B : Nat) (hB : w.heap.size < B) : Sl (w.alloc (.cells cs e)) B m (some ⟨w.heap.size, 0, none⟩) n n cs.toList := by
  refine ⟨by simpa using h, Nat.le_refl _, hn, fun _ => ⟨w.heap.size, 0, rfl, hB, fun j u hu => ?_⟩⟩
  rw [Nat.zero_add, (Blk.new w e cs).cell]
  simpa using hu
theorem below_append {B : Nat} {a w w' : World} {base : Nat} {e : TypeId} {m : Nat} {v : Value} {n : Nat} {xs : List Value} (h : Below B a w) (ho : w.ownsRow base e m v n xs) (hB : B ≤ base) (hs : B ≤ w.heap.size) (hg : w.grownBy w' v.ownBlock) : Below B a w' :=
  h.grown hg hs fun k hk => Nat.le_trans hB (ho.lt k hk).1
end Go.Proofs.YtceijgaocjghcaaGreatDoor

namespace Go.Proofs.YtceijgaocjghcaaGreatDoor
open Go.RowKit

theorem info_u8h : (Tryz.prog.info? 5).map (fun i => (i.zero, i.size, i.bytes)) = some (some (.int .u8 0), 1, 1) := by kernel_rfl
theorem and15 (c : UInt8) : bits BinOp.and IntKind.u8 (c.toNat : Int) 15 = (c.toNat : Int) % 16 :=
  u8_all (p := fun c => bits BinOp.and IntKind.u8 (c.toNat : Int) 15 = (c.toNat : Int) % 16) (by decide +kernel) c
def hexd (k : Nat) : UInt8 := if k < 10 then UInt8.ofNat (48 + k) else UInt8.ofNat (87 + k)
def hexOf (l : List UInt8) : List UInt8 := l.flatMap fun c => [hexd (c.toNat / 16), hexd (c.toNat % 16)]
theorem hexOf_len (l : List UInt8) : (hexOf l).length = 2 * l.length := by
  induction l with
  | nil => rfl
  | cons c l ih => simp only [hexOf, List.flatMap_cons, List.length_append, List.length_cons, List.length_nil] at ih ⊢; omega
theorem hexOf_snoc (l : List UInt8) (c : UInt8) : hexOf (l ++ [c]) = hexOf l ++ [hexd (c.toNat / 16), hexd (c.toNat % 16)] := by simp [hexOf, List.flatMap_append]
theorem hex_at (k : Nat) (h : k < 16) : ((⟨#[48, 49, 50, 51, 52, 53, 54, 55, 56, 57, 97, 98, 99, 100, 101, 102]⟩ : ByteArray)[k]'h) = hexd k := by
  have : ∀ k : Fin 16, ((⟨#[48, 49, 50, 51, 52, 53, 54, 55, 56, 57, 97, 98, 99, 100, 101, 102]⟩ : ByteArray)[k.val]'k.isLt) = hexd k.val := by decide +kernel
  exact this ⟨k, h⟩
theorem hex_news (c : UInt8) (h1 : ((c.toNat : Int) / 16).toNat < 16) (h2 : ((c.toNat : Int) % 16).toNat < 16) :
    [Value.int .u8 (((⟨#[48, 49, 50, 51, 52, 53, 54, 55, 56, 57, 97, 98, 99, 100, 101, 102]⟩ : ByteArray)[((c.toNat : Int) / 16).toNat]'h1).toNat : Int),
     Value.int .u8 (((⟨#[48, 49, 50, 51, 52, 53, 54, 55, 56, 57, 97, 98, 99, 100, 101, 102]⟩ : ByteArray)[((c.toNat : Int) % 16).toNat]'h2).toNat : Int)] = u8s [hexd (c.toNat / 16), hexd (c.toNat % 16)] := by
  rw [hex_at, hex_at]
  have e1 : ((c.toNat : Int) / 16).toNat = c.toNat / 16 := by omega
  have e2 : ((c.toNat : Int) % 16).toNat = c.toNat % 16 := by omega
  rw [e1, e2]; rfl
theorem Sl.congr {w : World} {B m n c : Nat} {A : Option Addr} {xs ys : List Value} (h : xs = ys) (hs : Sl w B m A n c xs) : Sl w B m A n c ys := h ▸ hs
theorem run_loadCells_sl {P : Program} {w : World} {B n c : Nat} {a : Addr} {xs : List Value} (h : Sl w B 1 (some a) n c xs) : (loadCells a n).run P w = .ok xs.toArray w := by
  have hl := h.len
  by_cases hn : 0 < n
  · obtain ⟨g, o, e, _, hc⟩ := h.at_ hn
    injection e with e
    subst e
    have := run_loadCells_list (P := P) w ⟨g, o, none⟩ xs (fun j v hj => by
      have hplain : (⟨g, o, none⟩ : Addr).add j = ⟨g, o + j, none⟩ := by unfold Addr.add; split <;> simp_all
      rw [hplain]; exact hc j v hj)
    rwa [show xs.length = n by omega] at this
  · have hn0 : n = 0 := by omega
    subst hn0
    have hx : xs = [] := List.eq_nil_of_length_eq_zero (by omega)
    subst hx
    exact run_loadCells_list (P := P) w a [] (fun j v hj => by simp at hj)
/-- string(b), b a []byte. -/
theorem run_str_sl {P : Program} {w : World} {B n c : Nat} {A : Option Addr} {b : List UInt8} (src e : TypeId) (hs : P.underlying src = some (.slice e)) (he : P.underlying e = some (.int .u8))
    (h : Sl w B 1 A n c (u8s b)) : ∀ dst, P.underlying dst = some .string → (convert src dst (.slice A n c)).run P w = .ok (.string ⟨b.toArray⟩) w := by
  intro dst hd
  cases A with
  | none =>
    rw [run_convert_bytes_nil w src e hs he n c dst hd]
    have hn : n = 0 := by
      rcases Nat.eq_zero_or_pos n with h0 | h0
      · exact h0
      · obtain ⟨g, o, e, _⟩ := h.at_ h0; cases e
    have hb : b = [] := List.eq_nil_of_length_eq_zero (by have := h.blen; omega)
    subst hb
    rfl
  | some a =>
    have hl := run_loadCells_sl (P := P) h
    have e1 : u8s b = (b.map fun x => (x.toNat : Int)).map (Value.int .u8) := by simp [u8s]
    rw [e1] at hl
    rw [run_convert_bytes_string w src dst e _ n c hs he hd, run_bytesToString w _ n c (b.map fun x => (x.toNat : Int)) hl, foldl_push_bytes]
    congr 2
    apply ByteArray.ext
    show (#[] : Array UInt8) ++ ((b.map fun x => (x.toNat : Int)).map fun n => UInt8.ofNat n.toNat).toArray = b.toArray
    simp [Function.comp_def]
set_option maxHeartbeats 1600000 in
theorem s_HexText (s : ByteArray) (w : World) (hs : s.size ≤ 1000000000) :
    Calls Tryz.prog 156 #[.string s] w fun e w' => e = .returned (.string ⟨(hexOf s.data.toList).toArray⟩) ∧ Below w.heap.size w w' := by
  obtain ⟨i0, hi, hz0, hz1, hz2⟩ := info_parts info_u8h
  go_enter Tryz.func156, Tryz.ntmps156
  go_wp2_with fail
  go_loopg [3, 4] s.size (fun k v i wr => ∃ (j c : Nat) (A : Option Addr), j + k = s.size ∧ i = .int .i64 j ∧ v = .slice A (2 * j) c ∧ wr.ownsRow w.heap.size 5 1 (.slice A (2 * j) c) (2 * j) (u8s (hexOf (s.data.toList.take j))) ∧ Below w.heap.size w wr)
  case atStart => exact ⟨0, 0, some ⟨w.heap.size, 0, none⟩, by omega, rfl, rfl, World.ownsRow_lit w #[] 0 (Nat.le_refl _) (by decide) rfl, Below.one _ _⟩
  case round =>
    obtain ⟨j, c, A, hjk, rfl, rfl, hown, hb⟩ := hrel
    by_cases hlt : j < s.size
    · obtain ⟨k, rfl⟩ : ∃ k, gk = k + 1 := ⟨gk - 1, by omega⟩
      have hc := (s[j]).toNat_lt
      have hd0 : (0 : Int) ≤ (s[j].toNat : Int) / 16 := by omega
      have hd1 : (s[j].toNat : Int) / 16 < 16 := by omega
      have hd2 := and15 s[j]
      have hd3 : (0 : Int) ≤ (s[j].toNat : Int) % 16 := by omega
      have hd4 : (s[j].toNat : Int) % 16 < 16 := by omega
      have HJK : j + k + 1 = s.size := by omega
      have hjk' := Lib.hid HJK; clear hjk HJK
      go_wp2
      go_region_law ((refine step_append_sl _ rfl (.tmp 12) (.tmp 23) 22 rfl w.heap.size 5 i0 (.int .u8 0) 1 1 Tryz.underlying22 hi hz0 hz1 hz2 rfl (by decide) _ (2 * j) _ (by simp [Act.eval, Act.put]) (hown.alloc _).drew (wr.heap.size + 1) (some ⟨wr.heap.size, 0, none⟩) 2 2 (u8s [hexd (s[j].toNat / 16), hexd (s[j].toNat % 16)]) (by simp [Act.eval, Act.put]) (by exact (Sl.congr (hex_news _ (by omega) (by omega)) (Sl.lit wr 5 #[_, _] 1 2 rfl (by decide) _ (Nat.lt_succ_self _))).drew) (u8s_one _) (by unfold maxLen; omega) (by omega) (by have := hb.size; simp; omega) ?_); intro A' c' w2 ho2 hg2 _)
      all_goals
        rename_i A' c' w2 ho2 hg2 _
        have hb2 : Below w.heap.size w w2 := below_append ((hb.alloc hb.size _).drew) ((hown.alloc _).drew) (Nat.le_refl _) (by have := hb.size; simp; omega) hg2
        have hj2 : 2 * (j + 1) = 2 * j + 2 := by omega
        have ho3 : w2.ownsRow w.heap.size 5 1 (.slice A' (2 * (j + 1)) c') (2 * (j + 1)) (u8s (hexOf (s.data.toList.take (j + 1)))) := by
          have e : s.data.toList.take (j + 1) = s.data.toList.take j ++ [s[j]] := by rw [List.take_succ_eq_append_getElem (by simpa using hlt)]; rfl
          rw [e, hexOf_snoc, u8s_append, hj2]; exact ho2
        have HE : (Value.slice A' (2 * j + 2) c') = .slice A' (2 * (j + 1)) c' := by rw [hj2]
        have he := Lib.hid HE
        clear ho2 hg2 hb hown hj2 HE
        go_wp2
        go_roundg k
        case measure => omega
        case rel => exact ⟨j + 1, c', A', by have := hjk'.out; omega, by go_num, he.out, ho3, hb2⟩
    · have hj : j = s.size := by omega
      have Hj := Lib.hid hj
      clear hj hjk
      have hcv := run_str_sl (P := Tryz.prog) 22 5 Tryz.underlying22 Tryz.underlying5 (Sl.of_own hown) 9 Tryz.underlying9
      go_wp2
      go_ret
      refine ⟨ret_str ?_, hb⟩
      rw [List.take_of_length_le (by have := Hj.out; simp; omega)]
set_option maxHeartbeats 1600000 in
theorem i_HexText (s : ByteArray) (w : World) (hs : s.size ≤ 1000000000) :
    Calls Tryz.prog 153 #[.string s] w fun e w' => e = .returned (.string ⟨(hexOf s.data.toList).toArray⟩) ∧ Below w.heap.size w w' := by
  obtain ⟨i0, hi, hz0, hz1, hz2⟩ := info_parts info_u8h
  go_enter Tryz.func153, Tryz.ntmps153
  go_wp2_with (at_make; refine wpList_make_own _ rfl _ _ 22 rfl w.heap.size 5 i0 (.int .u8 0) 1 Tryz.underlying22 hi hz0 hz1 _ _ _ (2 * s.size) rfl rfl (by omega) (by rw [hz2]; omega) (by unfold maxLen; omega) (Nat.le_refl _) ?_; intro w1 hown1 hg1)
  go_loopg [3, 4, 11] s.size (fun k v _ i wr => ∃ (j c : Nat) (A : Option Addr), j + k = s.size ∧ i = .int .i64 j ∧ v = .slice A (2 * j) c ∧ wr.ownsRow w.heap.size 5 1 (.slice A (2 * j) c) (2 * j) (u8s (hexOf (s.data.toList.take j))) ∧ Below w.heap.size w wr)
  case atStart => exact ⟨0, 2 * s.size, some ⟨w.heap.size, 0, none⟩, by omega, rfl, rfl, hown1, (Below.refl _ _).grown hg1 (Nat.le_refl _) (fun k hk => by cases hk)⟩
  case round =>
    obtain ⟨j, c, A, hjk, rfl, rfl, hown, hb⟩ := hrel
    by_cases hlt : j < s.size
    · obtain ⟨k, rfl⟩ : ∃ k, gk = k + 1 := ⟨gk - 1, by omega⟩
      have hc := (s[j]).toNat_lt
      have hd0 : (0 : Int) ≤ (s[j].toNat : Int) / 16 := by omega
      have hd1 : (s[j].toNat : Int) / 16 < 16 := by omega
      have hd2 := and15 s[j]
      have hd3 : (0 : Int) ≤ (s[j].toNat : Int) % 16 := by omega
      have hd4 : (s[j].toNat : Int) % 16 < 16 := by omega
      have HJK : j + k + 1 = s.size := by omega
      have hjk' := Lib.hid HJK; clear hjk HJK
      go_wp2
      go_region_law ((refine step_append_sl _ rfl (.tmp 14) (.tmp 25) 22 rfl w.heap.size 5 i0 (.int .u8 0) 1 1 Tryz.underlying22 hi hz0 hz1 hz2 rfl (by decide) _ (2 * j) _ (by simp [Act.eval, Act.put]) (hown.alloc _).drew (wr.heap.size + 1) (some ⟨wr.heap.size, 0, none⟩) 2 2 (u8s [hexd (s[j].toNat / 16), hexd (s[j].toNat % 16)]) (by simp [Act.eval, Act.put]) (by exact (Sl.congr (hex_news _ (by omega) (by omega)) (Sl.lit wr 5 #[_, _] 1 2 rfl (by decide) _ (Nat.lt_succ_self _))).drew) (u8s_one _) (by unfold maxLen; omega) (by omega) (by have := hb.size; simp; omega) ?_); intro A' c' w2 ho2 hg2 _)
      all_goals
        rename_i A' c' w2 ho2 hg2 _
        have hb2 : Below w.heap.size w w2 := below_append ((hb.alloc hb.size _).drew) ((hown.alloc _).drew) (Nat.le_refl _) (by have := hb.size; simp; omega) hg2
        have hj2 : 2 * (j + 1) = 2 * j + 2 := by omega
        have ho3 : w2.ownsRow w.heap.size 5 1 (.slice A' (2 * (j + 1)) c') (2 * (j + 1)) (u8s (hexOf (s.data.toList.take (j + 1)))) := by
          have e : s.data.toList.take (j + 1) = s.data.toList.take j ++ [s[j]] := by rw [List.take_succ_eq_append_getElem (by simpa using hlt)]; rfl
          rw [e, hexOf_snoc, u8s_append, hj2]; exact ho2
        have HE : (Value.slice A' (2 * j + 2) c') = .slice A' (2 * (j + 1)) c' := by rw [hj2]
        have he := Lib.hid HE
        clear ho2 hg2 hb hown hj2 HE
        go_wp2
        go_roundg k
        case measure => omega
        case rel => exact ⟨j + 1, c', A', by have := hjk'.out; omega, by go_num, he.out, ho3, hb2⟩
    · have hj : j = s.size := by omega
      have Hj := Lib.hid hj
      clear hj hjk
      have hcv := run_str_sl (P := Tryz.prog) 22 5 Tryz.underlying22 Tryz.underlying5 (Sl.of_own hown) 9 Tryz.underlying9
      go_wp2
      go_ret
      refine ⟨ret_str ?_, hb⟩
      rw [List.take_of_length_le (by have := Hj.out; simp; omega)]
end Go.Proofs.YtceijgaocjghcaaGreatDoor
