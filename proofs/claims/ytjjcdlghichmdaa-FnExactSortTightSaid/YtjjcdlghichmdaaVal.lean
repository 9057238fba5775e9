/- The laws' helpers on trees: szVal, toVal, eqVal. -/
import Derived.Test.YtjjcdlghichmdaaTree
import Derived.Deep.LoopGhost
import Derived.Deep.RegionHeld3
set_option linter.unusedVariables false
set_option maxRecDepth 100000
set_option linter.unusedSimpArgs false
namespace Go.Proofs.Ytjjcdlghichmdaa
open Go.RowKit

noncomputable def Tr.wf : Tr → Prop := Tr.fold fun k n x s _ ih => (-9223372036854775808 ≤ k ∧ k ≤ 9223372036854775807) ∧ (-9223372036854775808 ≤ n ∧ n ≤ 9223372036854775807) ∧ (-9223372036854775808 ≤ x ∧ x ≤ 9223372036854775807) ∧ s.size ≤ maxLen ∧ ∀ P ∈ ih, P
theorem Tr.wf_iff (t : Tr) : t.wf ↔ (-9223372036854775808 ≤ t.k ∧ t.k ≤ 9223372036854775807) ∧ (-9223372036854775808 ≤ t.n ∧ t.n ≤ 9223372036854775807) ∧ (-9223372036854775808 ≤ t.x ∧ t.x ≤ 9223372036854775807) ∧ t.s.size ≤ maxLen ∧ ∀ u ∈ t.l, u.wf := by
  obtain ⟨k, n, x, s, l⟩ := t
  rw [show Tr.wf ⟨k, n, x, s, l⟩ = _ from Tr.fold_mk _ _ _ _ _ _]
  have h : (∀ P ∈ l.map Tr.wf, P) ↔ ∀ u ∈ l, u.wf := List.forall_mem_map
  exact and_congr Iff.rfl (and_congr Iff.rfl (and_congr Iff.rfl (and_congr Iff.rfl h)))
def szRes (left : Int) (m : Nat) : Int := if (m : Int) ≤ left then left - m else -1
abbrev trV (t : Tr) (e : El) : Value := .agg #[.int .i64 t.k, .int .i64 t.n, .int .i64 t.x, .string t.s, .slice e.A e.n e.c]
theorem info_val : (Try.prog.info? 28).map (fun i => (i.zero, i.size, i.bytes)) = some (some (.agg #[.int .i64 0, .int .i64 0, .int .i64 0, .string ByteArray.empty, .slice none 0 0]), 5, 64) := by kernel_rfl
def SzSays (t : Tr) : Prop := ∀ (e : El) (left : Int) (w : World), t.wf → LsAt w t.l e → e.lt w.heap.size → 0 ≤ left → left ≤ 1048576 →
  Calls Try.prog 4 #[trV t e, .int .i64 left] w fun r w' => r = .returned (.int .i64 (szRes left t.sz)) ∧ Below w.heap.size w w'
set_option maxHeartbeats 800000 in
theorem l_szValS (l : List Tr) (ih : ∀ u ∈ l, SzSays u) (hwf : ∀ u ∈ l, u.wf) (e : El) (left : Int) (w : World) (h : LsAt w l e) (hlt : e.lt w.heap.size) (h0 : 0 ≤ left) (h1 : left ≤ 1048576) :
    Calls Try.prog 11 #[.slice e.A e.n e.c, .int .i64 left] w fun r w' => r = .returned (.int .i64 (szRes left (szL l))) ∧ Below w.heap.size w w' := by
  obtain ⟨A, n, c, fp⟩ := e
  have hn : l.length = n := h.len
  have hc : n ≤ c ∧ c ≤ maxLen := ⟨((lsAt_iff _ _).1 h).2.1, ((lsAt_iff _ _).1 h).2.2.1⟩
  have hm : n ≤ 9223372036854775807 := by have := hc.1; have := hc.2; unfold maxLen at *; omega
  by_cases hle : (n : Int) ≤ left
  · go_enter Try.func11, Try.ntmps11
    go_wp2_with fail
    go_loopg [1, 5] n (fun k v i wr => ∃ j : Nat, j + k = n ∧ v = .int .i64 (left - n - szT l j) ∧ n + szT l j ≤ left ∧ i = .int .i64 j ∧ Below w.heap.size w wr)
    case atStart => exact ⟨0, by omega, by rw [szT_zero]; go_num, by rw [szT_zero]; omega, rfl, Below.refl _ _⟩
    case round =>
      obtain ⟨j, hjk, rfl, hs, rfl, hb⟩ := hrel
      by_cases hlt2 : j < n
      · obtain ⟨k, rfl⟩ : ∃ k, gk = k + 1 := ⟨gk - 1, by omega⟩
        obtain ⟨g, o, u, hl, hA, hg, ⟨c0, c1, c2, c3, c4⟩, hch, hsub⟩ := (h.below hlt hb).elem hlt2
        have hA2 : A = some ⟨g, o, none⟩ := hA
        subst hA2
        have ht := ih l[j] (List.getElem_mem hl) u (left - n - szT l j) wr (hwf _ (List.getElem_mem hl)) hch (fun g2 h2 => Nat.lt_of_lt_of_le (hlt g2 (hsub g2 h2)) hb.size) (by omega) (by omega)
        have hz1 := szT_succ hl
        have hz2 := szT_le l (j + 1)
        by_cases hr : (n : Int) + szT l (j + 1) ≤ left
        · have hres : szRes (left - n - szT l j) l[j].sz = left - n - szT l (j + 1) := by unfold szRes; rw [if_pos (by omega)]; omega
          rw [hres] at ht
          clear hwf ih
          go_wp2_with (go_at_call 4; refine ht.mono ?_; rintro e w2 ⟨rfl, hb2⟩)
          go_roundg k
          case measure => omega
          case rel => exact ⟨j + 1, by omega, by rw [hz1]; go_num, by omega, by go_num, hb.up hb2⟩
        · have hres : szRes (left - n - szT l j) l[j].sz = -1 := by unfold szRes; rw [if_neg (by omega)]
          rw [hres] at ht
          clear hwf ih
          go_wp2_with (go_at_call 4; refine ht.mono ?_; rintro e w2 ⟨rfl, hb2⟩)
          go_ret
          exact ⟨ret_int (by unfold szRes; rw [if_neg (by omega)]), hb.up hb2⟩
      · have hz := szT_all (l := l) (j := j) (by omega)
        go_wp2_with fail
        go_ret
        exact ⟨ret_int (by unfold szRes; rw [if_pos (by omega)]; omega), hb⟩
  · go_enter Try.func11, Try.ntmps11
    go_wp2_with fail
    go_ret
    exact ⟨ret_int (by unfold szRes szL; rw [if_neg (by omega)]), Below.refl _ _⟩
set_option maxHeartbeats 800000 in
theorem l_szVal (t : Tr) : SzSays t := by
  refine Tr.ind (P := SzSays) (fun t ih => ?_) t
  intro e left w hwf h hlt h0 h1
  have hw := (Tr.wf_iff t).1 hwf
  have hsz := t.sz_eq
  have hL := l_szValS t.l ih hw.2.2.2.2
  have hs9 : t.s.size ≤ 9223372036854775807 := hw.2.2.2.1
  by_cases hle : (t.s.size : Int) ≤ left
  · have hL2 := fun w2 (hb : Below w.heap.size w w2) => hL e (left - t.s.size) w2 (h.below hlt hb) (hlt.mono hb.size) (by omega) (by omega)
    clear hL ih hw hwf
    by_cases hle2 : (szL t.l : Int) ≤ left - t.s.size
    · have hres : szRes (left - t.s.size) (szL t.l) = left - t.s.size - szL t.l := by unfold szRes; rw [if_pos hle2]
      rw [hres] at hL2
      go_enter Try.func4, Try.ntmps4
      go_wp2_with (go_at_call 11; refine (hL2 _ (by exact Below.one _ _)).mono ?_; rintro e w2 ⟨rfl, hb2⟩)
      go_ret
      exact ⟨ret_int (by unfold szRes; rw [if_pos (by omega)]; omega), hb2.boxed⟩
    · have hres : szRes (left - t.s.size) (szL t.l) = -1 := by unfold szRes; rw [if_neg hle2]
      rw [hres] at hL2
      go_enter Try.func4, Try.ntmps4
      go_wp2_with (go_at_call 11; refine (hL2 _ (by exact Below.one _ _)).mono ?_; rintro e w2 ⟨rfl, hb2⟩)
      go_ret
      exact ⟨ret_int (by unfold szRes; rw [if_neg (by omega)]), hb2.boxed⟩
  · clear hL ih hw hwf
    go_enter Try.func4, Try.ntmps4
    go_wp2_with fail
    go_ret
    exact ⟨ret_int (by unfold szRes; rw [if_neg (by omega)]), Below.one _ _⟩
def ToSays (t : Tr) : Prop := ∀ (e : El) (w : World), LsAt w t.l e → e.lt w.heap.size → t.sz ≤ 1048576 →
  Calls Try.prog 6 #[trV t e] w fun r w' => ∃ u : El, r = .returned (trV t u) ∧ LsAt w' t.l u ∧ Own w' w.heap.size u.fp ∧ Below w.heap.size w w'
/-- The first trees lie copied in block g. -/
structure Copied (w : World) (g : Nat) (l : List Tr) (j : Nat) (es : List El) : Prop where
  len : es.length = j
  at_ : ∀ (i : Nat) (t : Tr) (u : El), l[i]? = some t → es[i]? = some u → Cells5 w g (0 + i * 5) t u ∧ TrAt w t u
  own : Own w (g + 1) (elFp es)
theorem Copied.step {w w2 : World} {g j : Nat} {l : List Tr} {es : List El} {u : El} {T : TypeId} {cs : Array Value} (h : Copied w g l j es) (hj : j < l.length) (hg : Blk w g T cs) (hs : j * 5 + 5 ≤ cs.size)
    (hu : LsAt w2 l[j].l u) (ho : Own w2 w.heap.size u.fp) (hb : Below w.heap.size w w2) : Copied (set5 w2 g (j * 5) l[j] u) g l (j + 1) (es ++ [u]) := by
  have hgl := hg.lt
  have hg2 := hg.below hb hgl
  have hlt : ∀ x ∈ elFp es, x < w.heap.size := fun x hx => h.own.lt hx
  have hgn : g ∉ elFp es := fun hx => by have := (h.own.2 g hx).1; omega
  have hgu : g ∉ u.fp := fun hx => by have := (ho.2 g hx).1; omega
  refine ⟨by simp [h.len], fun i t v hi hv => ?_, ?_⟩
  · rcases Nat.lt_or_ge i j with hij | hij
    · rw [List.getElem?_append_left (by have := h.len; omega)] at hv
      obtain ⟨hc, ht⟩ := h.at_ i t v hi hv
      have hvl : ∀ x ∈ v.fp, x ∈ elFp es := fun x hx => elFp_mem hv hx
      refine ⟨?_, ?_⟩
      · have hc2 : Cells5 w2 g (0 + i * 5) t v := by
          obtain ⟨c0, c1, c2, c3, c4⟩ := hc
          exact ⟨(hb.cell (p := ⟨g, _, none⟩) hgl).trans c0, (hb.cell (p := ⟨g, _, none⟩) hgl).trans c1, (hb.cell (p := ⟨g, _, none⟩) hgl).trans c2, (hb.cell (p := ⟨g, _, none⟩) hgl).trans c3, (hb.cell (p := ⟨g, _, none⟩) hgl).trans c4⟩
        exact hc2.set5_ (by omega)
      · refine TrAt.keep t v ht fun x hx o => ?_
        rw [set5_other _ _ _ _ _ _ _ (.inl (fun e => hgn (by rw [← e]; exact hvl x hx)))]
        exact hb.cell (p := ⟨x, o, none⟩) (hlt x (hvl x hx))
    · have hil : i < (es ++ [u]).length := (List.getElem?_eq_some_iff.1 hv).1
      have hij2 : i = j := by have := h.len; simp at hil; omega
      subst hij2
      rw [List.getElem?_append_right (by have := h.len; omega), show i - es.length = 0 from by have := h.len; omega] at hv
      simp only [List.getElem?_cons_zero, Option.some.injEq] at hv
      subst hv
      rw [List.getElem?_eq_getElem hj] at hi
      simp only [Option.some.injEq] at hi
      subst hi
      refine ⟨by rw [Nat.zero_add]; exact hg2.cells5 _ _ hs, (trAt_ls _ _).2 (hu.keep fun x hx o => ?_)⟩
      exact set5_other _ _ _ _ _ _ _ (.inl (fun e => hgu (by rw [← e]; exact hx)))
  · rw [elFp_snoc]
    refine Own.app ((h.own.below hlt hb).set5_ hgn) ((ho.mono (by omega)).set5_ hgu) fun x hx hx2 => ?_
    have := hlt x hx
    have := (ho.2 x hx2).1
    omega
theorem Copied.done {w : World} {g n c : Nat} {l : List Tr} {es : List El} (h : Copied w g l n es) (hn : l.length = n) (hc : n ≤ c) (hm : c ≤ maxLen) (hg : ∃ T cs, Blk w g T cs) :
    ∃ u : El, u.A = some ⟨g, 0, none⟩ ∧ u.n = n ∧ u.c = c ∧ LsAt w l u ∧ Own w g u.fp := by
  rcases Nat.eq_zero_or_pos n with h0 | h0
  · subst h0
    have : l = [] := List.eq_nil_of_length_eq_zero hn
    subst this
    refine ⟨⟨some ⟨g, 0, none⟩, 0, c, []⟩, rfl, rfl, rfl, (lsAt_iff _ _).2 ⟨rfl, hc, hm, [], rfl, fun _ => rfl, fun h => absurd h (Nat.lt_irrefl 0), fun j t u h => by simp at h⟩, Own.nil_ _ _⟩
  · refine ⟨⟨some ⟨g, 0, none⟩, n, c, g :: elFp es⟩, rfl, rfl, rfl, (lsAt_iff _ _).2 ⟨hn, hc, hm, es, h.len, fun h => absurd h (Nat.ne_of_gt h0), fun _ => ⟨g, 0, rfl, rfl, fun j t u hj hu => (h.at_ j t u hj hu).1⟩, fun j t u hj hu => (h.at_ j t u hj hu).2⟩, ?_⟩
    exact Own.cons (h.own.mono (by omega)) (fun hx => by have := (h.own.2 g hx).1; omega) (Nat.le_refl _) hg
set_option maxHeartbeats 800000 in
theorem l_toValS (l : List Tr) (ih : ∀ u ∈ l, ToSays u) (e : El) (w : World) (h : LsAt w l e) (hlt : e.lt w.heap.size) (hsz : szL l ≤ 1048576) :
    Calls Try.prog 15 #[.slice e.A e.n e.c] w fun r w' => ∃ u : El, r = .returned (.slice u.A u.n u.c) ∧ LsAt w' l u ∧ Own w' w.heap.size u.fp ∧ Below w.heap.size w w' := by
  obtain ⟨A, n, c, fp⟩ := e
  have hn : l.length = n := h.len
  have hn2 : n ≤ 1048576 := by have := szT_le l 0; omega
  obtain ⟨i0, hi, hz0, hz1, hz2⟩ := info_parts info_val
  go_enter Try.func15, Try.ntmps15
  go_wp2_with (at_make; refine wpList_make_full _ rfl _ _ 26 rfl 0 28 i0 (.agg #[.int .i64 0, .int .i64 0, .int .i64 0, .string ByteArray.empty, .slice none 0 0]) 5 Try.underlying26 hi hz0 hz1 _ _ _ _ n rfl rfl rfl rfl (by rw [hz2]; omega) (by unfold maxLen; omega) (Nat.zero_le _) ?_; intro w1 hown1 hg1)
  have hb1 : Below w.heap.size w w1 := (Below.refl _ _).grown hg1 (Nat.le_refl _) (fun k hk => by cases hk)
  obtain ⟨cs, hcs, hbk⟩ : ∃ cs : Array Value, cs.size = n * 5 ∧ Blk w1 w.heap.size 28 cs := by
    rcases hown1.2 with ⟨hv, _⟩ | ⟨g, cap, cur, hv, _, hh, _, _, hsz, _⟩
    · cases hv
    · simp only [Value.slice.injEq, Option.some.injEq, Addr.mk.injEq] at hv
      obtain ⟨⟨rfl, _⟩, _, rfl⟩ := hv
      exact ⟨cur, hsz, hh⟩
  clear hown1 hg1
  go_loopg [4] n (fun k i wr => ∃ (j : Nat) (es : List El) (cs : Array Value), j + k = n ∧ i = .int .i64 j ∧ Copied wr w.heap.size l j es ∧ cs.size = n * 5 ∧ Blk wr w.heap.size 28 cs ∧ Below w.heap.size w wr)
  case atStart => exact ⟨0, [], cs, by omega, rfl, ⟨rfl, fun i t u _ h => by simp at h, Own.nil_ _ _⟩, hcs, hbk, hb1⟩
  case round =>
    obtain ⟨j, es, cs2, hjk, rfl, hcp, hcs2, hbk2, hb⟩ := hrel
    clear hb1 hbk hcs
    by_cases hlt2 : j < n
    · obtain ⟨k, rfl⟩ : ∃ k, gk = k + 1 := ⟨gk - 1, by omega⟩
      obtain ⟨g, o, u, hl, hA, hg, ⟨c0, c1, c2, c3, c4⟩, hch, hsub⟩ := (h.below hlt hb).elem hlt2
      have hA2 : A = some ⟨g, o, none⟩ := hA
      subst hA2
      have ht := ih l[j] (List.getElem_mem hl) u wr hch (fun g2 h2 => Nat.lt_of_lt_of_le (hlt g2 (hsub g2 h2)) hb.size) (by have := szT_succ hl; have := szT_le l (j + 1); omega)
      clear ih
      go_wp2_with (go_at_call 6; refine ht.mono ?_; rintro e w2 ⟨v, rfl, hv1, hv2, hb2⟩; obtain ⟨x0, x1, x2, x3, x4, ⟨p0, q0⟩, ⟨p1, q1⟩, ⟨p2, q2⟩, ⟨p3, q3⟩, p4, q4⟩ := (hbk2.below hb2 hbk2.lt).five (o := j * 5) (by omega) (.int .i64 l[j].k) (.int .i64 l[j].n) (.int .i64 l[j].x) (.string l[j].s))
      have hst := hcp.step hl hbk2 (by omega) hv1 hv2 hb2
      obtain ⟨cs3, hcs3, hbk3⟩ := (hbk2.below hb2 hbk2.lt).set5_ (o := j * 5) l[j] v
      have hb3 := below_set5 (o := j * 5) (t := l[j]) (e := v) (hb.up hb2) (Nat.le_refl _)
      clear p0 q0 p1 q1 p2 q2 p3 q3 p4 q4
      go_roundg k
      case measure => omega
      case rel => exact ⟨j + 1, _, cs3, by omega, by go_num, hst, by omega, hbk3, hb3⟩
    · have hj : j = n := by omega
      subst hj
      go_wp2_with fail
      go_ret
      obtain ⟨u, e1, e2, e3, h1, h2⟩ := hcp.done hn (Nat.le_refl _) (by unfold maxLen; omega) ⟨_, _, hbk2⟩
      exact ⟨u, by rw [e1, e2, e3]; rfl, h1, h2, hb⟩
set_option maxHeartbeats 800000 in
theorem l_toVal (t : Tr) : ToSays t := by
  refine Tr.ind (P := ToSays) (fun t ih => ?_) t
  intro e w h hlt hsz
  have hL := l_toValS t.l ih e
  have hz := t.sz_eq
  go_enter Try.func6, Try.ntmps6
  clear ih
  go_wp2_with (go_at_call 15; refine (hL _ (by exact h.below hlt (Below.three w _ _ _)) (by exact hlt.mono (Below.three w _ _ _).size) (by omega)).mono ?_; rintro r w2 ⟨v, rfl, hv1, hv2, hb2⟩; obtain ⟨hc1, hf1⟩ := bcell hb2; have hz1 : w.heap.size + 1 + 1 < w2.heap.size := (by have := hb2.size; simp at this; omega))
  have hn1 : w.heap.size + 1 + 1 ∉ v.fp := fun hx => by have := (hv2.2 _ hx).1; simp at this; omega
  have hn2 : w.heap.size + 1 ∉ v.fp := fun hx => by have := (hv2.2 _ hx).1; simp at this; omega
  have hblk : Blk (set5 (w2.setCell ⟨w.heap.size + 1 + 1, 4, none⟩ (.slice v.A v.n v.c)) (w.heap.size + 1) 0 t v) (w.heap.size + 1) 28 _ :=
    Blk.five_ (Blk.far (Blk.below (Blk.alloc (by simpa using Blk.new (w.alloc (.cells #[.int .i64 t.k, .int .i64 t.n, .int .i64 t.x, .string t.s, .slice e.A e.n e.c] 24)) 28 #[.int .i64 0, .int .i64 0, .int .i64 0, .string ⟨#[]⟩, .slice none 0 0]) _) hb2 (by simp <;> omega)) (by simp <;> omega) _) t v
  refine bodyPost_ret (results_blk Try.results6 Try.isAgg28 (by exact Try.sizeOf28) rfl hblk) rfl ⟨v, rfl, ?_, ?_, ?_⟩
  · exact (hv1.far hn1 _).set5_ hn2
  · exact Own.mono ((hv2.far hn1 _).set5_ hn2) (by simp <;> omega)
  · exact below_set5 (((Below.three w _ _ _).up hb2).setCell (by simp <;> omega) _) (by omega)
def EqSays (t : Tr) : Prop := ∀ (e1 e2 : El) (w : World), LsAt w t.l e1 → LsAt w t.l e2 → e1.lt w.heap.size → e2.lt w.heap.size →
  Calls Try.prog 8 #[trV t e1, trV t e2] w fun r w' => r = .returned (.bool true) ∧ Below w.heap.size w w'
theorem Cells5.below {w w' : World} {g o B : Nat} {t : Tr} {e : El} (h : Cells5 w g o t e) (hb : Below B w w') (hg : g < B) : Cells5 w' g o t e := by
  obtain ⟨c0, c1, c2, c3, c4⟩ := h
  exact ⟨(hb.cell (p := ⟨g, _, none⟩) hg).trans c0, (hb.cell (p := ⟨g, _, none⟩) hg).trans c1, (hb.cell (p := ⟨g, _, none⟩) hg).trans c2, (hb.cell (p := ⟨g, _, none⟩) hg).trans c3, (hb.cell (p := ⟨g, _, none⟩) hg).trans c4⟩
theorem eq_next {w w1 w2 : World} {g1 o1 g2 o2 : Nat} {t : Tr} {u1 u2 : El} (h1 : g1 < w.heap.size) (h2 : g2 < w.heap.size) (hu1 : u1.lt w.heap.size) (hu2 : u2.lt w.heap.size) (hb : Below w1.heap.size w1 w2)
    (h : Cells5 w1 g1 o1 t u1 ∧ Cells5 w1 g2 o2 t u2 ∧ LsAt w1 t.l u1 ∧ LsAt w1 t.l u2 ∧ Below w.heap.size w w1) : Cells5 w2 g1 o1 t u1 ∧ Cells5 w2 g2 o2 t u2 ∧ LsAt w2 t.l u1 ∧ LsAt w2 t.l u2 ∧ Below w.heap.size w w2 := by
  obtain ⟨a, b, c, d, e⟩ := h
  have := e.size
  exact ⟨a.below hb (by omega), b.below hb (by omega), c.below (hu1.mono this) hb, d.below (hu2.mono this) hb, e.up hb⟩
set_option maxHeartbeats 1600000 in
theorem l_eqValS (l : List Tr) (ih : ∀ u ∈ l, EqSays u) (e1 e2 : El) (w : World) (h1 : LsAt w l e1) (h2 : LsAt w l e2) (hl1 : e1.lt w.heap.size) (hl2 : e2.lt w.heap.size) :
    Calls Try.prog 18 #[.slice e1.A e1.n e1.c, .slice e2.A e2.n e2.c] w fun r w' => r = .returned (.bool true) ∧ Below w.heap.size w w' := by
  obtain ⟨A1, n, c1, fp1⟩ := e1
  obtain ⟨A2, n2, c2, fp2⟩ := e2
  have hn : l.length = n := h1.len
  have hn2 : l.length = n2 := h2.len
  have hc : n ≤ 9223372036854775807 := by have := ((lsAt_iff _ _).1 h1).2.1; have := ((lsAt_iff _ _).1 h1).2.2.1; unfold maxLen at *; simp at *; omega
  obtain rfl : n = n2 := by omega
  go_enter Try.func18, Try.ntmps18
  go_wp2_with fail
  go_loopg [5] n (fun k i wr => ∃ j : Nat, j + k = n ∧ i = .int .i64 j ∧ Below w.heap.size w wr)
  case atStart => exact ⟨0, by omega, rfl, Below.refl _ _⟩
  case round =>
    obtain ⟨j, hjk, rfl, hb⟩ := hrel
    by_cases hlt2 : j < n
    · obtain ⟨k, rfl⟩ : ∃ k, gk = k + 1 := ⟨gk - 1, by omega⟩
      obtain ⟨g1, o1, u1, hl, hA1, hg1, hx1, hch1, hsub1⟩ := (h1.below hl1 hb).elem hlt2
      obtain ⟨g2, o2, u2, hl', hA2, hg2, hx2, hch2, hsub2⟩ := (h2.below hl2 hb).elem hlt2
      have hA12 : A1 = some ⟨g1, o1, none⟩ := hA1
      have hA22 : A2 = some ⟨g2, o2, none⟩ := hA2
      subst hA12 hA22
      have hG1 : g1 < w.heap.size := hl1 g1 hg1
      have hG2 : g2 < w.heap.size := hl2 g2 hg2
      have hU1 : u1.lt w.heap.size := fun x hx => hl1 x (hsub1 x hx)
      have hU2 : u2.lt w.heap.size := fun x hx => hl2 x (hsub2 x hx)
      have hS : (wr.cell? ⟨g1, o1 + j * 5, none⟩ = some (.int .i64 l[j].k) ∧ wr.cell? ⟨g1, o1 + j * 5 + 1, none⟩ = some (.int .i64 l[j].n) ∧ wr.cell? ⟨g1, o1 + j * 5 + 2, none⟩ = some (.int .i64 l[j].x) ∧ wr.cell? ⟨g1, o1 + j * 5 + 3, none⟩ = some (.string l[j].s) ∧ wr.cell? ⟨g1, o1 + j * 5 + 4, none⟩ = some (.slice u1.A u1.n u1.c)) ∧ (wr.cell? ⟨g2, o2 + j * 5, none⟩ = some (.int .i64 l[j].k) ∧ wr.cell? ⟨g2, o2 + j * 5 + 1, none⟩ = some (.int .i64 l[j].n) ∧ wr.cell? ⟨g2, o2 + j * 5 + 2, none⟩ = some (.int .i64 l[j].x) ∧ wr.cell? ⟨g2, o2 + j * 5 + 3, none⟩ = some (.string l[j].s) ∧ wr.cell? ⟨g2, o2 + j * 5 + 4, none⟩ = some (.slice u2.A u2.n u2.c)) ∧ LsAt wr l[j].l u1 ∧ LsAt wr l[j].l u2 ∧ Below w.heap.size w wr := ⟨hx1, hx2, hch1, hch2, hb⟩
      have hcall : ∀ w', ((w'.cell? ⟨g1, o1 + j * 5, none⟩ = some (.int .i64 l[j].k) ∧ w'.cell? ⟨g1, o1 + j * 5 + 1, none⟩ = some (.int .i64 l[j].n) ∧ w'.cell? ⟨g1, o1 + j * 5 + 2, none⟩ = some (.int .i64 l[j].x) ∧ w'.cell? ⟨g1, o1 + j * 5 + 3, none⟩ = some (.string l[j].s) ∧ w'.cell? ⟨g1, o1 + j * 5 + 4, none⟩ = some (.slice u1.A u1.n u1.c)) ∧ (w'.cell? ⟨g2, o2 + j * 5, none⟩ = some (.int .i64 l[j].k) ∧ w'.cell? ⟨g2, o2 + j * 5 + 1, none⟩ = some (.int .i64 l[j].n) ∧ w'.cell? ⟨g2, o2 + j * 5 + 2, none⟩ = some (.int .i64 l[j].x) ∧ w'.cell? ⟨g2, o2 + j * 5 + 3, none⟩ = some (.string l[j].s) ∧ w'.cell? ⟨g2, o2 + j * 5 + 4, none⟩ = some (.slice u2.A u2.n u2.c)) ∧ LsAt w' l[j].l u1 ∧ LsAt w' l[j].l u2 ∧ Below w.heap.size w w') → Calls Try.prog 8 #[.agg #[.int .i64 l[j].k, .int .i64 l[j].n, .int .i64 l[j].x, .string l[j].s, .slice u1.A u1.n u1.c], .agg #[.int .i64 l[j].k, .int .i64 l[j].n, .int .i64 l[j].x, .string l[j].s, .slice u2.A u2.n u2.c]] w' fun r w2 => r = .returned (.bool true) ∧ Below w'.heap.size w' w2 :=
        fun w' hs => ih l[j] (List.getElem_mem hl) u1 u2 w' hs.2.2.1 hs.2.2.2.1 (hU1.mono hs.2.2.2.2.size) (hU2.mono hs.2.2.2.2.size)
      have hnext : ∀ w1 w2, Below w1.heap.size w1 w2 → ((w1.cell? ⟨g1, o1 + j * 5, none⟩ = some (.int .i64 l[j].k) ∧ w1.cell? ⟨g1, o1 + j * 5 + 1, none⟩ = some (.int .i64 l[j].n) ∧ w1.cell? ⟨g1, o1 + j * 5 + 2, none⟩ = some (.int .i64 l[j].x) ∧ w1.cell? ⟨g1, o1 + j * 5 + 3, none⟩ = some (.string l[j].s) ∧ w1.cell? ⟨g1, o1 + j * 5 + 4, none⟩ = some (.slice u1.A u1.n u1.c)) ∧ (w1.cell? ⟨g2, o2 + j * 5, none⟩ = some (.int .i64 l[j].k) ∧ w1.cell? ⟨g2, o2 + j * 5 + 1, none⟩ = some (.int .i64 l[j].n) ∧ w1.cell? ⟨g2, o2 + j * 5 + 2, none⟩ = some (.int .i64 l[j].x) ∧ w1.cell? ⟨g2, o2 + j * 5 + 3, none⟩ = some (.string l[j].s) ∧ w1.cell? ⟨g2, o2 + j * 5 + 4, none⟩ = some (.slice u2.A u2.n u2.c)) ∧ LsAt w1 l[j].l u1 ∧ LsAt w1 l[j].l u2 ∧ Below w.heap.size w w1) → ((w2.cell? ⟨g1, o1 + j * 5, none⟩ = some (.int .i64 l[j].k) ∧ w2.cell? ⟨g1, o1 + j * 5 + 1, none⟩ = some (.int .i64 l[j].n) ∧ w2.cell? ⟨g1, o1 + j * 5 + 2, none⟩ = some (.int .i64 l[j].x) ∧ w2.cell? ⟨g1, o1 + j * 5 + 3, none⟩ = some (.string l[j].s) ∧ w2.cell? ⟨g1, o1 + j * 5 + 4, none⟩ = some (.slice u1.A u1.n u1.c)) ∧ (w2.cell? ⟨g2, o2 + j * 5, none⟩ = some (.int .i64 l[j].k) ∧ w2.cell? ⟨g2, o2 + j * 5 + 1, none⟩ = some (.int .i64 l[j].n) ∧ w2.cell? ⟨g2, o2 + j * 5 + 2, none⟩ = some (.int .i64 l[j].x) ∧ w2.cell? ⟨g2, o2 + j * 5 + 3, none⟩ = some (.string l[j].s) ∧ w2.cell? ⟨g2, o2 + j * 5 + 4, none⟩ = some (.slice u2.A u2.n u2.c)) ∧ LsAt w2 l[j].l u1 ∧ LsAt w2 l[j].l u2 ∧ Below w.heap.size w w2) := fun w1 w2 hb h => eq_next hG1 hG2 hU1 hU2 hb h
      have hdrew : ∀ w', ((w'.cell? ⟨g1, o1 + j * 5, none⟩ = some (.int .i64 l[j].k) ∧ w'.cell? ⟨g1, o1 + j * 5 + 1, none⟩ = some (.int .i64 l[j].n) ∧ w'.cell? ⟨g1, o1 + j * 5 + 2, none⟩ = some (.int .i64 l[j].x) ∧ w'.cell? ⟨g1, o1 + j * 5 + 3, none⟩ = some (.string l[j].s) ∧ w'.cell? ⟨g1, o1 + j * 5 + 4, none⟩ = some (.slice u1.A u1.n u1.c)) ∧ (w'.cell? ⟨g2, o2 + j * 5, none⟩ = some (.int .i64 l[j].k) ∧ w'.cell? ⟨g2, o2 + j * 5 + 1, none⟩ = some (.int .i64 l[j].n) ∧ w'.cell? ⟨g2, o2 + j * 5 + 2, none⟩ = some (.int .i64 l[j].x) ∧ w'.cell? ⟨g2, o2 + j * 5 + 3, none⟩ = some (.string l[j].s) ∧ w'.cell? ⟨g2, o2 + j * 5 + 4, none⟩ = some (.slice u2.A u2.n u2.c)) ∧ LsAt w' l[j].l u1 ∧ LsAt w' l[j].l u2 ∧ Below w.heap.size w w') → ((w'.drew.cell? ⟨g1, o1 + j * 5, none⟩ = some (.int .i64 l[j].k) ∧ w'.drew.cell? ⟨g1, o1 + j * 5 + 1, none⟩ = some (.int .i64 l[j].n) ∧ w'.drew.cell? ⟨g1, o1 + j * 5 + 2, none⟩ = some (.int .i64 l[j].x) ∧ w'.drew.cell? ⟨g1, o1 + j * 5 + 3, none⟩ = some (.string l[j].s) ∧ w'.drew.cell? ⟨g1, o1 + j * 5 + 4, none⟩ = some (.slice u1.A u1.n u1.c)) ∧ (w'.drew.cell? ⟨g2, o2 + j * 5, none⟩ = some (.int .i64 l[j].k) ∧ w'.drew.cell? ⟨g2, o2 + j * 5 + 1, none⟩ = some (.int .i64 l[j].n) ∧ w'.drew.cell? ⟨g2, o2 + j * 5 + 2, none⟩ = some (.int .i64 l[j].x) ∧ w'.drew.cell? ⟨g2, o2 + j * 5 + 3, none⟩ = some (.string l[j].s) ∧ w'.drew.cell? ⟨g2, o2 + j * 5 + 4, none⟩ = some (.slice u2.A u2.n u2.c)) ∧ LsAt w'.drew l[j].l u1 ∧ LsAt w'.drew l[j].l u2 ∧ Below w.heap.size w w'.drew) := fun w' h => ⟨h.1, h.2.1, h.2.2.1.keep (fun _ _ _ => rfl), h.2.2.2.1.keep (fun _ _ _ => rfl), h.2.2.2.2.drew⟩
      clear hx1 hx2 hch1 hch2 hb ih h1 h2
      have HK := Lib.hid hjk
      clear hjk
      go_wp2_with fail
      go_region_held3 (fun w' => (w'.cell? ⟨g1, o1 + j * 5, none⟩ = some (.int .i64 l[j].k) ∧ w'.cell? ⟨g1, o1 + j * 5 + 1, none⟩ = some (.int .i64 l[j].n) ∧ w'.cell? ⟨g1, o1 + j * 5 + 2, none⟩ = some (.int .i64 l[j].x) ∧ w'.cell? ⟨g1, o1 + j * 5 + 3, none⟩ = some (.string l[j].s) ∧ w'.cell? ⟨g1, o1 + j * 5 + 4, none⟩ = some (.slice u1.A u1.n u1.c)) ∧ (w'.cell? ⟨g2, o2 + j * 5, none⟩ = some (.int .i64 l[j].k) ∧ w'.cell? ⟨g2, o2 + j * 5 + 1, none⟩ = some (.int .i64 l[j].n) ∧ w'.cell? ⟨g2, o2 + j * 5 + 2, none⟩ = some (.int .i64 l[j].x) ∧ w'.cell? ⟨g2, o2 + j * 5 + 3, none⟩ = some (.string l[j].s) ∧ w'.cell? ⟨g2, o2 + j * 5 + 4, none⟩ = some (.slice u2.A u2.n u2.c)) ∧ LsAt w' l[j].l u1 ∧ LsAt w' l[j].l u2 ∧ Below w.heap.size w w') (first | exact hdrew _ hS | (refine hnext _ _ hb2 ?_; assumption)) (first | (go_at_call 8; refine (hcall _ (by assumption)).mono ?_; rintro e w2 ⟨rfl, hb2⟩))
      rename_i hHeld
      clear hcall hnext hdrew hS
      go_wp2
      go_roundg k
      case measure => omega
      case rel => exact ⟨j + 1, by have := HK.out; omega, by go_num, hHeld.2.2.2.2⟩
    · go_wp2_with fail
      go_ret
      exact ⟨rfl, hb⟩
set_option maxHeartbeats 800000 in
theorem l_eqVal (t : Tr) : EqSays t := by
  refine Tr.ind (P := EqSays) (fun t ih => ?_) t
  intro e1 e2 w h1 h2 hl1 hl2
  have hL := l_eqValS t.l ih e1 e2
  clear ih
  go_enter Try.func8, Try.ntmps8
  go_wp2_with (go_at_call 18; refine (hL _ (by exact h1.below hl1 (Below.two w _ _)) (by exact h2.below hl2 (Below.two w _ _)) (by exact hl1.mono (Below.two w _ _).size) (by exact hl2.mono (Below.two w _ _).size)).mono ?_; rintro r w2 ⟨rfl, hb2⟩)
  go_ret
  exact ⟨rfl, (Below.two w _ _).up hb2⟩
end Go.Proofs.Ytjjcdlghichmdaa
