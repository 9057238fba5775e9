/- JoinTokens: impl and spec. Tokens drawn. Written by gen/tokdraws.py. -/
import Derived.Test.YtceijgaocjghcaaGreatDoorTbM23
import Derived.Test.YtceijgaocjghcaaGreatDoorShelf
import Derived.Test.YtceijgaocjghcaaGreatDoorTbM41
import Derived.Test.YtceijgaocjghcaaGreatDoorTbTokRound
import Derived.Test.YtceijgaocjghcaaGreatDoorTbM26
import Derived.Test.YtceijgaocjghcaaGreatDoorTbM37
set_option linter.unusedVariables false
set_option maxRecDepth 100000
set_option linter.unusedSimpArgs false
namespace Go.Proofs.YtceijgaocjghcaaGreatDoor
open Go.RowKit

set_option maxHeartbeats 1000000 in
theorem s_JoinTokens (A : Option Addr) (n c : Nat) (l : List Tk) (w : World) (B : Nat) (h : Sl w B 4 A n c (tkC l)) (hB : B ≤ w.heap.size) (hw : ∀ t ∈ l, t.wf) (hz : szK l ≤ 16777216) :
    Calls Tryz.prog 35 #[.slice A n c] w fun e w' => e = .returned (.string ⟨(joinT l).toArray⟩) ∧ Below w.heap.size w w' := by
  have hl := h.tklen
  have hnz : n ≤ 16777216 := by
    have : ∀ l : List Tk, l.length ≤ szK l := by
      intro l
      induction l with
      | nil => exact Nat.zero_le _
      | cons t l ih => rw [szK_cons, List.length_cons]; omega
    have := this l
    omega
  go_enter Tryz.func35, Tryz.ntmps35
  go_wp2_with fail
  go_loopg [3, 4] n (fun f v3 v4 wr => ∃ j : Nat, j + f = n ∧ v4 = .int .i64 j ∧ v3 = .string ⟨(joinT (l.take j)).toArray⟩ ∧ Below w.heap.size w wr)
  case atStart => exact ⟨0, by omega, rfl, rfl, Below.refl _ _⟩
  case round =>
    obtain ⟨j, hjf, rfl, rfl, hK⟩ := hrel
    by_cases hlt : j < n
    · obtain ⟨f, rfl⟩ : ∃ f, gk = f + 1 := ⟨gk - 1, by omega⟩
      obtain ⟨g, o, hjl, rfl, hg, q0, q1, q2, q3⟩ := (h.below (hK.mono hB)).tok hlt
      have hwj := hw l[j] (List.getElem_mem _)
      have hsz := szK_mem (List.getElem_mem hjl)
      have htx := txt_len hwj
      have hjt := joinT_take_len l hw j (by omega)
      have hjz := szK_le l j
      have hcall := fun w1 => s_TokenText l[j].k l[j].s l[j].n l[j].x w1 (by omega) hwj.2.2.1 hwj.2.2.2
      have hsn : joinT (l.take (j + 1)) = if l.take j = [] then l[j].txt else joinT (l.take j) ++ ([32] ++ l[j].txt) := by rw [List.take_succ_eq_append_getElem hjl, joinT_snoc]
      have htxt : tokL l[j].k l[j].s.data.toList l[j].n l[j].x = l[j].txt := rfl
      rw [htxt] at hcall
      unfold tokV at hcall
      generalize l[j].txt = T at hcall hsn htx
      have hjf2 : j + 1 + f = n := by omega
      clear hjf htxt hwj
      by_cases h0 : j = 0
      · subst h0
        rw [List.take_zero, if_pos rfl] at hsn
        simp only [Nat.zero_mul, Nat.add_zero] at q0 q1 q2 q3
        rw [List.take_zero] at hjt ⊢
        have e0 : joinT [] = [] := rfl
        rw [e0] at hjt ⊢
        go_wp2_with (go_at_call 37; refine (hcall _).mono ?_; rintro e w2 ⟨rfl, hb2⟩)
        go_roundg f
        case measure => omega
        case rel => exact ⟨1, by omega, by go_num, by rw [hsn]; first | rfl | (rw [ba_add]; rfl) | simp, hK.up hb2⟩
      · have hne : l.take j ≠ [] := by intro e; have := congrArg List.length e; rw [List.length_take, List.length_nil] at this; omega
        rw [if_neg hne] at hsn
        generalize joinT (l.take j) = J at hsn hjt ⊢
        have hj0 : (0 : Int) < (j : Int) := by omega
        clear hne
        go_wp2_with (go_at_call 37; refine (hcall _).mono ?_; rintro e w2 ⟨rfl, hb2⟩)
        go_roundg f
        case measure => omega
        case rel => exact ⟨j + 1, hjf2, by go_num, by rw [hsn, ← List.append_assoc, ← ba_add, ← ba_add], hK.up hb2⟩
    · have hj : l.take j = l := List.take_of_length_le (by omega)
      rw [hj]
      clear hj
      go_wp2_with fail
      go_ret
      exact ⟨rfl, hK⟩
/-- A row of texts of the call's own. -/
def TS (w : World) (lo : Nat) (A : Option Addr) (n c : Nat) (b : List ByteArray) : Prop := w.ownsRow lo 9 1 (.slice A n c) n (b.map Value.string)
theorem TS.sl {w : World} {lo n c : Nat} {A : Option Addr} {b : List ByteArray} (h : TS w lo A n c b) : Sl w w.heap.size 1 A n c (b.map Value.string) := Sl.of_own h
theorem TS.len {w : World} {lo n c : Nat} {A : Option Addr} {b : List ByteArray} (h : TS w lo A n c b) : b.length = n := by have := h.sl.len; simp at this; omega
theorem TS.below {w w' : World} {lo n c : Nat} {A : Option Addr} {b : List ByteArray} (h : TS w lo A n c b) (hb : Below w.heap.size w w') : TS w' lo A n c b := by
  refine ⟨h.1, ?_⟩
  rcases h.2 with h1 | ⟨g, cap, cur, h1, h2, h3, h4⟩
  · exact .inl h1
  · simp only [Value.slice.injEq] at h1
    have hlt : g < w.heap.size := World.ownsRow.lt h g (by rw [h1.1]; rfl) |>.2
    exact .inr ⟨g, cap, cur, by rw [h1.1, h1.2.2], h2, (hb.block g hlt).trans h3, h4⟩
theorem TS.from_ {w : World} {lo n c : Nat} {A : Option Addr} {b : List ByteArray} (h : TS w lo A n c b) (g : Nat) (hg : g ∈ blkOf A) : lo ≤ g := by
  refine (World.ownsRow.lt h g ?_).1
  cases A with
  | none => simp [blkOf] at hg
  | some a => simp [blkOf] at hg; simp [hg, Value.ownBlock]
theorem info_str : (Tryz.prog.info? 9).map (fun i => (i.zero, i.size, i.bytes)) = some (some (.string ⟨#[]⟩), 1, 16) := by kernel_rfl
theorem strs_one (b : List ByteArray) : ∀ x ∈ b.map Value.string, x.oneCell' = true := fun x hx => by
  obtain ⟨r, _, rfl⟩ := List.mem_map.1 hx; rfl
theorem app_text {ops : Array Oper} {rest : List Oper} {o : Oper} {a : Act} {Q : Exit → Act → World → Prop} {w : World} (hgd : o.guard = none) (s x : Operand)
    (ho : o.op = .call { callee := .builtin .append, args := #[s, x], argTypes := #[64, 64] })
    {lo : Nat} {A : Option Addr} {n c : Nat} {b : List ByteArray} (hown : TS w lo A n c b) (hs : a.eval s = .slice A n c)
    {B : Nat} {A1 : Option Addr} {m c1 : Nat} {news : List ByteArray} (hr : Sl w B 1 A1 m c1 (news.map Value.string)) (hx : a.eval x = .slice A1 m c1)
    (hn : n + m ≤ 1099511627776) (hbase : lo ≤ w.heap.size)
    (h : ∀ A' c' w', TS w' lo A' (n + m) c' (b ++ news) → Gr A A' w w' → wpList Tryz.prog ops Q rest (a.put o.dst (.slice A' (n + m) c')) w') : wpList Tryz.prog ops Q (o :: rest) a w := by
  obtain ⟨i0, hi, hz0, hz1, hz2⟩ := info_parts info_str
  refine wpList_append_sl _ hgd s x 64 ho lo 9 i0 (.string ⟨#[]⟩) 1 16 Tryz.underlying64 hi hz0 hz1 hz2 rfl (by decide) (.slice A n c) n (b.map Value.string) hs hown B A1 m c1 (news.map Value.string) hx hr (strs_one _) (by unfold maxLen; omega) (by omega) hbase ?_
  intro A' c' w' h1 h2 h3
  rw [← List.map_append] at h1
  exact h A' c' w' h1 (gr_of h2 h3)
def txB (t : Tk) : ByteArray := ⟨t.txt.toArray⟩
theorem text1 (w : World) (x : ByteArray) : Sl (w.alloc (.cells #[.string x] 9)) (w.heap.size + 1) 1 (some ⟨w.heap.size, 0, none⟩) 1 1 ([x].map Value.string) :=
  Sl.lit w 9 #[_] 1 1 rfl (by decide) _ (Nat.lt_succ_self _)
set_option maxHeartbeats 1000000 in
theorem i_JoinTokens (A : Option Addr) (n c : Nat) (l : List Tk) (w : World) (B : Nat) (h : Sl w B 4 A n c (tkC l)) (hB : B ≤ w.heap.size) (hw : ∀ t ∈ l, t.wf) (hz : szK l ≤ 16777216) (hT : Lib.Utf8Tabs 1 2 w) (hP : PowT w) :
    Calls Tryz.prog 20 #[.slice A n c] w fun e w' => e = .returned (.string ⟨(joinT l).toArray⟩) ∧ Below w.heap.size w w' := by
  have hl := h.tklen
  have hnz : n ≤ 16777216 := by
    have : ∀ l : List Tk, l.length ≤ szK l := by
      intro l
      induction l with
      | nil => exact Nat.zero_le _
      | cons t l ih => rw [szK_cons, List.length_cons]; omega
    have := this l
    omega
  have hE : TS (w.alloc (.cells #[] 9)) w.heap.size (some ⟨w.heap.size, 0, none⟩) 0 0 [] := World.ownsRow_lit w #[] 0 (Nat.le_refl _) (by decide) rfl
  go_enter Tryz.func20, Tryz.ntmps20
  go_wp2_with fail
  go_loopg [3, 5, 9] n (fun f v3 v5 v9 wr => ∃ (j c' : Nat) (A' : Option Addr), j + f = n ∧ v9 = .int .i64 j ∧ v3 = .slice A' j c' ∧ TS wr w.heap.size A' j c' ((l.take j).map txB) ∧ w.heap.size ≤ wr.heap.size ∧ Below w.heap.size w wr)
  case atStart => exact ⟨0, 0, _, by omega, rfl, rfl, hE, by simp, Below.one w _⟩
  case round =>
    obtain ⟨j, c', A', hjf, rfl, rfl, hI, hzr, hK⟩ := hrel
    clear hE
    by_cases hlt : j < n
    · obtain ⟨f, rfl⟩ : ∃ f, gk = f + 1 := ⟨gk - 1, by omega⟩
      obtain ⟨g, o, hjl, rfl, hg, q0, q1, q2, q3⟩ := (h.below (hK.mono hB)).tok hlt
      have hwj := hw l[j] (List.getElem_mem _)
      have hsz := szK_mem (List.getElem_mem hjl)
      have hcall := fun w1 h1 h2 => i_TokenText l[j].k l[j].s l[j].n l[j].x w1 (by omega) hwj.2.2.1 hwj.2.2.2 h1 h2
      have hsn : (l.take (j + 1)).map txB = (l.take j).map txB ++ [⟨l[j].txt.toArray⟩] := by rw [List.take_succ_eq_append_getElem hjl, List.map_append]; rfl
      have htxt : tokL l[j].k l[j].s.data.toList l[j].n l[j].x = l[j].txt := rfl
      rw [htxt] at hcall
      unfold tokV at hcall
      generalize l[j].txt = T at hcall hsn
      have hjf2 : j + 1 + f = n := by omega
      clear hjf htxt hwj
      have kA := hK.alloc hzr (.cells #[.int .i64 l[j].k, .string l[j].s, .int .i64 l[j].n, .int .i64 l[j].x] 31)
      have hIA := hI.below (Below.one wr (.cells #[.int .i64 l[j].k, .string l[j].s, .int .i64 l[j].n, .int .i64 l[j].x] 31))
      have hzA : wr.heap.size < (wr.alloc (.cells #[.int .i64 l[j].k, .string l[j].s, .int .i64 l[j].n, .int .i64 l[j].x] 31)).heap.size := by simp
      have hc2 := hcall _ (Utf8Tabs_below hT kA) (hP.below kA)
      clear hcall hI
      go_wp2_with (first
        | (go_at_call 36; refine hc2.mono ?_; rintro e w2 ⟨rfl, hb2⟩)
        | (at_builtin; refine app_text rfl _ _ rfl ((hIA.below hb2).below (Below.one w2 _)) rfl (text1 w2 _) rfl (by omega) (by have := hb2.size; simp; omega) ?_; intro A6 c6 w6 h6 hg6))
      have hK6 := ((kA.up hb2).alloc (by have := hb2.size; omega) (.cells #[.string ⟨T.toArray⟩] 9)).trans (hg6.fr.below (B := w.heap.size) (fun g hg => TS.from_ (hIA.below hb2) g hg) (by have := hb2.size; simp; omega))
      rw [← hsn] at h6
      clear hg6 hIA hc2 hb2
      go_roundg f
      case measure => omega
      case rel => exact ⟨j + 1, c6, A6, hjf2, by go_num, by simp, h6, hK6.size, hK6⟩
    · have hj : l.take j = l := List.take_of_length_le (by omega)
      obtain rfl : j = n := by omega
      rw [hj] at hI
      have hjt := joinT_len l hw
      have hmap : (l.map txB).map (fun b => b.data.toList) = l.map Tk.txt := by rw [List.map_map]; rfl
      by_cases h0 : j = 0
      · subst h0
        obtain rfl : l = [] := List.eq_nil_of_length_eq_zero hl
        have hjn := Tryz.strings_Join_none A' c' ⟨#[32]⟩ wr
        go_wp2_with (go_at_call 54; refine hjn.mono ?_; rintro e w2 ⟨rfl, hw2⟩; subst hw2)
        go_ret
        exact ⟨rfl, hK⟩
      · obtain ⟨g, o, e, hg, hc⟩ := hI.sl.at_ (by omega)
        subst e
        have hlen := hI.len
        have hjn := Tryz.strings_Join g o c' (l.map txB) ⟨#[32]⟩ wr (fun k x hx => hc k _ (by rw [List.getElem?_map, hx]; rfl)) hg (by rw [List.length_map]; omega) (by have := hI.sl.cap; rw [hlen]; exact this) (by rw [hmap]; show (joinT l).length ≤ _; omega)
        rw [hmap, hlen] at hjn
        have hjj : Lib.join (l.map Tk.txt) (⟨#[32]⟩ : ByteArray).data.toList = joinT l := rfl
        rw [hjj] at hjn
        clear hjj hmap hjt hlen hc hI
        go_wp2_with (go_at_call 54; refine hjn.mono ?_; rintro e w2 ⟨rfl, hb2⟩)
        go_ret
        exact ⟨rfl, hK.up hb2⟩
end Go.Proofs.YtceijgaocjghcaaGreatDoor

namespace Go.Proofs.YtceijgaocjghcaaGreatDoor
open Go.RowKit

theorem decNew_bd {n x a b : Int} (h : decNew n x = some (a, b)) : (-100000000000000000 < a ∧ a < 100000000000000000) ∧ (-16 ≤ b ∧ b ≤ 0) := by
  unfold decNew at h
  split at h
  · cases h
  split at h
  · cases h; decide
  split at h
  · split at h
    · rename_i hok
      simp only [Option.some.injEq, Prod.mk.injEq] at h
      obtain ⟨rfl, rfl⟩ := h
      generalize (stripD (-x).toNat n).1 = a at hok ⊢
      generalize (stripD (-x).toNat n).2 = k at hok ⊢
      by_cases h0 : -(k : Int) = 0
      · rw [h0, decOk_zero] at hok
        have := inR_iff.1 hok
        omega
      · rw [decOk_nz h0, Bool.and_eq_true, Bool.and_eq_true] at hok
        have h1 := inR_iff.1 hok.1
        have h2 := digN_17.1 (of_decide_eq_true hok.2.1)
        omega
    · cases h
  split at h
  · simp only [Option.some.injEq, Prod.mk.injEq] at h
    omega
  · cases h
theorem cur_four {w' : World} {B g n c k : Nat} {A : Option Addr} {b : List UInt8} {x y z u : Value} (h : Cur w' B g A n c b) (hg : g < k) : Cur ((((w'.setCell ⟨k, 0, none⟩ x).setCell ⟨k, 1, none⟩ y).setCell ⟨k, 2, none⟩ z).setCell ⟨k, 3, none⟩ u) B g A n c b := (((h.set_ hg x).set_ hg y).set_ hg z).set_ hg u
theorem fr_four {w w' : World} {fp : List Nat} {k : Nat} {x y z u : Value} (h : Fr fp w w') (hk : w.heap.size ≤ k) : Fr fp w ((((w'.setCell ⟨k, 0, none⟩ x).setCell ⟨k, 1, none⟩ y).setCell ⟨k, 2, none⟩ z).setCell ⟨k, 3, none⟩ u) :=
  (((h.new_ (p := ⟨k, 0, none⟩) hk x).new_ (p := ⟨k, 1, none⟩) hk y).new_ (p := ⟨k, 2, none⟩) hk z).new_ (p := ⟨k, 3, none⟩) hk u
set_option maxHeartbeats 2000000 in
theorem s_l4Draw (B g n c : Nat) (A : Option Addr) (b : List UInt8) (w : World) (h : Cur w B g A n c b) :
    Calls Tryz.prog 106 #[.pointer (some ⟨g, 0, none⟩)] w fun r w' => ∃ x y : Int, r = .returned (.agg #[.int .i64 x, .int .i64 y]) ∧ (-100000000000000000 < x ∧ x < 100000000000000000) ∧ (-16 ≤ y ∧ y ≤ 0) ∧ Cur w' B g A n c b ∧ Fr [g] w w' := by
  have hgl := h.lt
  have hgn : w.heap.size ≠ g := by omega
  have h0 := h.below (Below.one w (.cells #[.int .i64 0, .int .i64 0] 122))
  have hF0 : Fr [g] w (w.alloc (.cells #[.int .i64 0, .int .i64 0] 122)) := Fr.of_below (Below.one _ _)
  have hB0 := Blk.new w 122 #[.int .i64 0, .int .i64 0]
  go_enter Tryz.func106, Tryz.ntmps106
  go_wp2_with fail
  go_loopg [3, 4, 5] 6 (fun f v3 v4 v5 wr => ∃ j : Nat, j + f = 6 ∧ v3 = .int .i64 j ∧ Blk wr w.heap.size 122 #[.int .i64 0, .int .i64 0] ∧ Cur wr B g A n c b ∧ Fr [g] w wr)
  case atStart => exact ⟨0, rfl, rfl, hB0, h0, hF0⟩
  case round =>
    obtain ⟨j, hjf, rfl, hB, hC, hF⟩ := hrel
    clear hB0 h0 hF0
    by_cases hj : j < 6
    · obtain ⟨f, rfl⟩ : ∃ f, gk = f + 1 := ⟨gk - 1, by omega⟩
      have hji : (j : Int) < 6 := by omega
      have hjf2 : j + 1 + f = 6 := by omega
      clear hjf
      go_wp2_with fail
      refine (s_l1SignedB B g n c A b _ hC).mono ?_; rintro r w1 ⟨z, rfl, hz, hC1, hf1⟩
      have hB1 := hB.fr_' hf1 (by simpa using hgn)
      have hF1 := hF.trans hf1
      go_wp2_with fail
      refine (s_l1Below B g n c A b 17 _ hC1 (by decide)).mono ?_; rintro r w2 ⟨y, rfl, hy, hC2, hf2⟩
      obtain ⟨hy0, hy1⟩ := hy.2 (by decide)
      have hB2 := hB1.fr_' hf2 (by simpa using hgn)
      have hF2 := hF1.trans hf2
      clear hB hB1 hF hF1 hf1 hf2 hC hC1 hy
      go_wp2_with fail
      refine (s_DecNew z (-y) _ hz (by omega)).mono ?_; rintro r w3 ⟨rfl, hb3⟩
      have hB3 := hB2.below hb3 hB2.lt
      have hC3 := hC2.below hb3
      have hF3 := hF2.onBelow (hb3.mono hF2.size)
      have hz3 := hF3.size
      have hl3 := hB3.lt
      clear hB2 hC2 hF2
      cases hd : decNew z (-y) with
      | none =>
        simp only [decV]
        go_wp2_with fail
        go_roundg f
        case measure => omega
        case rel => exact ⟨j + 1, hjf2, by go_num, hB3.alloc _, hC3.below (Below.one _ _), hF3.trans (Fr.of_below (Below.one _ _))⟩
      | some p =>
        obtain ⟨a1, a2⟩ := p
        obtain ⟨b1, b2⟩ := decNew_bd hd
        simp only [decV]
        have r0 := hB3.cell 0
        have r1 := hB3.cell 1
        have f0 := hB3.frozen 0
        have f1 := hB3.frozen 1
        clear hd hb3
        go_wp2_with fail
        exact bodyPost_ret (results_blk Tryz.results106 Tryz.isAgg122 (by exact Tryz.sizeOf122) rfl ((hB3.two _ _).alloc _)) rfl ⟨a1, a2, rfl, b1, b2, (cur_two hC3 hgn hgl).below (Below.one _ _), ((hF3.new_ (p := ⟨w.heap.size, 0, none⟩) (Nat.le_refl _) _).new_ (p := ⟨w.heap.size, 1, none⟩) (Nat.le_refl _) _).trans (Fr.of_below (Below.one _ _))⟩
    · obtain rfl : j = 6 := by omega
      have r0 := hB.cell 0
      have r1 := hB.cell 1
      have f0 := hB.frozen 0
      have f1 := hB.frozen 1
      go_wp2_with fail
      exact bodyPost_ret (results_blk Tryz.results106 Tryz.isAgg122 (by exact Tryz.sizeOf122) rfl (hB.two _ _)) rfl ⟨15, -1, rfl, by decide, by decide, cur_two hC hgn hgl, (hF.new_ (p := ⟨w.heap.size, 0, none⟩) (Nat.le_refl _) _).new_ (p := ⟨w.heap.size, 1, none⟩) (Nat.le_refl _) _⟩
theorem rd_text {s : ByteArray} (h : Lib.validD s.data.toList = true) : RdTk ⟨2, s, 0, 0⟩ := by
  have := RdTk.text s.data.toList h
  rwa [ba_str] at this
set_option maxHeartbeats 2000000 in
theorem s_l10Token (B g n c : Nat) (A : Option Addr) (b : List UInt8) (w : World) (h : Cur w B g A n c b) :
    Calls Tryz.prog 70 #[.pointer (some ⟨g, 0, none⟩)] w fun r w' => ∃ t : Tk, r = .returned (.agg #[.int .i64 t.k, .string t.s, .int .i64 t.n, .int .i64 t.x]) ∧ (GdTk t ∧ t.s.size ≤ 100) ∧ Cur w' B g A n c b ∧ Fr [g] w w' := by
  have hgl := h.lt
  have hgn : w.heap.size ≠ g := by omega
  have h0 := h.below (Below.one w (.cells #[.int .i64 0, .string ⟨#[]⟩, .int .i64 0, .int .i64 0] 31))
  have hF0 : Fr [g] w (w.alloc (.cells #[.int .i64 0, .string ⟨#[]⟩, .int .i64 0, .int .i64 0] 31)) := Fr.of_below (Below.one _ _)
  have hB0 := Blk.new w 31 #[.int .i64 0, .string ⟨#[]⟩, .int .i64 0, .int .i64 0]
  go_enter Tryz.func70, Tryz.ntmps70
  go_wp2_with fail
  refine (s_l1Below B g n c A b 4 _ h0 (by decide)).mono ?_; rintro r w1 ⟨x, rfl, hx, hC1, hf1⟩
  have hB1 := hB0.fr_' hf1 (by simpa using hgn)
  have hF1 := hF0.trans hf1
  have z1 := hF1.size
  clear hB0 h0 hF0 hf1 hx
  by_cases e0 : x = 0
  · subst e0
    go_wp2_with fail
    refine (s_l1Str _ _ n c A b (some ⟨w1.heap.size, 0, none⟩) 6 6 [⟨#[123]⟩, ⟨#[125]⟩, ⟨#[91]⟩, ⟨#[93]⟩, ⟨#[58]⟩, ⟨#[44]⟩] _ (hC1.below (Below.one _ _)) (by exact strs_lit _ 0 [⟨#[123]⟩, ⟨#[125]⟩, ⟨#[91]⟩, ⟨#[93]⟩, ⟨#[58]⟩, ⟨#[44]⟩] _ rfl (by exact Nat.le_of_ble_eq_true rfl)) (lit_ne hC1.lt) (by decide)).mono ?_; rintro r w2 ⟨s, rfl, hs, hC9, hf2⟩
    have hm : ∀ s ∈ ([⟨#[123]⟩, ⟨#[125]⟩, ⟨#[91]⟩, ⟨#[93]⟩, ⟨#[58]⟩, ⟨#[44]⟩] : List ByteArray), ∃ c, s = ⟨#[c]⟩ ∧ isSign c = true := by
      intro s hs
      simp only [List.mem_cons, List.mem_nil_iff, or_false] at hs
      rcases hs with rfl | rfl | rfl | rfl | rfl | rfl <;> exact ⟨_, rfl, by decide⟩
    obtain ⟨ch, rfl, hch⟩ := hm s hs
    have B9 := (hB1.alloc (.cells _ 9)).fr_' hf2 (by simpa using hgn)
    have hF9 := (hF1.trans (Fr.of_below (fp := [g]) (Below.one w1 (.cells _ 9)))).trans hf2
    clear hs hm hf2
    have r0 := B9.cell 0
    have f0 := B9.frozen 0
    have r1 := B9.cell 1
    have f1 := B9.frozen 1
    have r2 := B9.cell 2
    have f2 := B9.frozen 2
    have r3 := B9.cell 3
    have f3 := B9.frozen 3
    go_wp2_with fail
    exact bodyPost_ret (results_blk Tryz.results70 Tryz.isAgg31 (by exact Tryz.sizeOf31) rfl (B9.tokQ _ _ _ _)) rfl ⟨⟨1, ⟨#[ch]⟩, 0, 0⟩, rfl, ⟨⟨.sign ch hch, by show -999 ≤ (0 : Int); decide, by show (0 : Int) ≤ 999; decide⟩, by show 1 ≤ 100; decide⟩, cur_four hC9 hgl, fr_four hF9 (Nat.le_refl _)⟩
  have z0 : (x == 0) = false := by simp [e0]
  by_cases e1 : x = 1
  · subst e1
    go_wp2_with fail
    refine (s_l2TextV B g n c A b _ hC1).mono ?_; rintro r w2 ⟨s, rfl, hsz, hsv, hC9, hf2⟩
    have B9 := hB1.fr_' hf2 (by simpa using hgn)
    have hF9 := hF1.trans hf2
    clear hf2
    have r0 := B9.cell 0
    have f0 := B9.frozen 0
    have r1 := B9.cell 1
    have f1 := B9.frozen 1
    have r2 := B9.cell 2
    have f2 := B9.frozen 2
    have r3 := B9.cell 3
    have f3 := B9.frozen 3
    go_wp2_with fail
    exact bodyPost_ret (results_blk Tryz.results70 Tryz.isAgg31 (by exact Tryz.sizeOf31) rfl (B9.tokQ _ _ _ _)) rfl ⟨⟨2, s, 0, 0⟩, rfl, ⟨⟨rd_text hsv, by show -999 ≤ (0 : Int); decide, by show (0 : Int) ≤ 999; decide⟩, hsz⟩, cur_four hC9 hgl, fr_four hF9 (Nat.le_refl _)⟩
  have z2 : (x == 1) = false := by simp [e1]
  by_cases e2 : x = 2
  · subst e2
    go_wp2_with fail
    refine (s_l4Draw B g n c A b _ hC1).mono ?_; rintro r w2 ⟨d1, d2, rfl, hd1, hd2, hC2, hf2⟩
    have B9 := (hB1.fr_' hf2 (by simpa using hgn)).alloc (.cells #[.int .i64 d1, .int .i64 d2] 122)
    have hF9 := (hF1.trans hf2).trans (Fr.of_below (fp := [g]) (Below.one w2 (.cells #[.int .i64 d1, .int .i64 d2] 122)))
    have hC9 := hC2.below (Below.one w2 (.cells #[.int .i64 d1, .int .i64 d2] 122))
    clear hf2
    have r0 := B9.cell 0
    have f0 := B9.frozen 0
    have r1 := B9.cell 1
    have f1 := B9.frozen 1
    have r2 := B9.cell 2
    have f2 := B9.frozen 2
    have r3 := B9.cell 3
    have f3 := B9.frozen 3
    go_wp2_with fail
    exact bodyPost_ret (results_blk Tryz.results70 Tryz.isAgg31 (by exact Tryz.sizeOf31) rfl (B9.tokQ _ _ _ _)) rfl ⟨⟨3, ⟨#[]⟩, d1, d2⟩, rfl, ⟨⟨.num d1 d2 hd1, by show -999 ≤ d2; omega, by show d2 ≤ 999; omega⟩, by show 0 ≤ 100; decide⟩, cur_four hC9 hgl, fr_four hF9 (Nat.le_refl _)⟩
  have z3 : (x == 2) = false := by simp [e2]
  go_wp2_with fail
  refine (s_l1Str _ _ n c A b (some ⟨w1.heap.size, 0, none⟩) 3 3 [⟨#[110, 117, 108, 108]⟩, ⟨#[116, 114, 117, 101]⟩, ⟨#[102, 97, 108, 115, 101]⟩] _ (hC1.below (Below.one _ _)) (by exact strs_lit _ 0 [⟨#[110, 117, 108, 108]⟩, ⟨#[116, 114, 117, 101]⟩, ⟨#[102, 97, 108, 115, 101]⟩] _ rfl (by exact Nat.le_of_ble_eq_true rfl)) (lit_ne hC1.lt) (by decide)).mono ?_; rintro r w2 ⟨s, rfl, hs, hC9, hf2⟩
  have hm : ∀ s ∈ ([⟨#[110, 117, 108, 108]⟩, ⟨#[116, 114, 117, 101]⟩, ⟨#[102, 97, 108, 115, 101]⟩] : List ByteArray), ∃ v : List UInt8, s = ⟨v.toArray⟩ ∧ (v = wNull ∨ v = wTrue ∨ v = wFalse) ∧ s.size ≤ 100 := by
    intro s hs
    simp only [List.mem_cons, List.mem_nil_iff, or_false] at hs
    rcases hs with rfl | rfl | rfl
    · exact ⟨wNull, rfl, .inl rfl, by decide⟩
    · exact ⟨wTrue, rfl, .inr (.inl rfl), by decide⟩
    · exact ⟨wFalse, rfl, .inr (.inr rfl), by decide⟩
  obtain ⟨v, rfl, hvv, hsz⟩ := hm s hs
  have B9 := (hB1.alloc (.cells _ 9)).fr_' hf2 (by simpa using hgn)
  have hF9 := (hF1.trans (Fr.of_below (fp := [g]) (Below.one w1 (.cells _ 9)))).trans hf2
  clear hs hm hf2
  have r0 := B9.cell 0
  have f0 := B9.frozen 0
  have r1 := B9.cell 1
  have f1 := B9.frozen 1
  have r2 := B9.cell 2
  have f2 := B9.frozen 2
  have r3 := B9.cell 3
  have f3 := B9.frozen 3
  go_wp2_with fail
  exact bodyPost_ret (results_blk Tryz.results70 Tryz.isAgg31 (by exact Tryz.sizeOf31) rfl (B9.tokQ _ _ _ _)) rfl ⟨⟨4, ⟨v.toArray⟩, 0, 0⟩, rfl, ⟨⟨.word v hvv, by show -999 ≤ (0 : Int); decide, by show (0 : Int) ≤ 999; decide⟩, hsz⟩, cur_four hC9 hgl, fr_four hF9 (Nat.le_refl _)⟩
end Go.Proofs.YtceijgaocjghcaaGreatDoor
