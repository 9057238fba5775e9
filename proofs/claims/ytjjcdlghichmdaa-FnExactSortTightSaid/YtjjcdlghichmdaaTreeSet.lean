/- A list of trees, opened; one tree of it replaced. No function of the program in sight. -/
import Derived.Test.YtjjcdlghichmdaaTree
import Derived.Test.YtjjcdlghichmdaaBs
set_option linter.unusedVariables false
set_option maxRecDepth 100000
set_option linter.unusedSimpArgs false
namespace Go.Proofs.Ytjjcdlghichmdaa
open Go.RowKit

/-- The list l lies in block g from o on, its trees' lists at es. -/
structure LsV (w : World) (l : List Tr) (e : El) (g o : Nat) (es : List El) : Prop where
  len : l.length = e.n
  cap : e.n ≤ e.c
  max : e.c ≤ maxLen
  eslen : es.length = e.n
  adr : e.A = some ⟨g, o, none⟩
  fp : e.fp = g :: elFp es
  cells : ∀ (j : Nat) (t : Tr) (u : El), l[j]? = some t → es[j]? = some u → Cells5 w g (o + j * 5) t u
  kids : ∀ (j : Nat) (t : Tr) (u : El), l[j]? = some t → es[j]? = some u → LsAt w t.l u
theorem LsAt.open_ {w : World} {l : List Tr} {e : El} (h : LsAt w l e) (hn : 0 < e.n) : ∃ g o es, LsV w l e g o es := by
  obtain ⟨h1, h2, h3, es, h4, h5, h6, h7⟩ := (lsAt_iff l e).1 h
  obtain ⟨g, o, hA, hf, hc⟩ := h6 hn
  exact ⟨g, o, es, h1, h2, h3, h4, hA, hf, hc, fun j t u a b => (trAt_ls _ _).1 (h7 j t u a b)⟩
theorem LsV.close {w : World} {l : List Tr} {e : El} {g o : Nat} {es : List El} (h : LsV w l e g o es) (hn : 0 < e.n) : LsAt w l e :=
  (lsAt_iff l e).2 ⟨h.len, h.cap, h.max, es, h.eslen, fun h0 => absurd h0 (by omega), fun _ => ⟨g, o, h.adr, h.fp, h.cells⟩, fun j t u a b => (trAt_ls _ _).2 (h.kids j t u a b)⟩
theorem LsV.keep {w w' : World} {l : List Tr} {e : El} {g o : Nat} {es : List El} (h : LsV w l e g o es) (hk : ∀ g2 ∈ e.fp, ∀ o2, w'.cell? ⟨g2, o2, none⟩ = w.cell? ⟨g2, o2, none⟩) : LsV w' l e g o es :=
  ⟨h.len, h.cap, h.max, h.eslen, h.adr, h.fp, fun j t u a b => by
    obtain ⟨c0, c1, c2, c3, c4⟩ := h.cells j t u a b
    have hg := hk g (by rw [h.fp]; exact List.mem_cons_self)
    exact ⟨(hg _).trans c0, (hg _).trans c1, (hg _).trans c2, (hg _).trans c3, (hg _).trans c4⟩,
   fun j t u a b => (h.kids j t u a b).keep fun g2 hg2 => hk g2 (by rw [h.fp]; exact List.mem_cons_of_mem _ (elFp_mem b hg2))⟩
theorem LsV.below {w w' : World} {l : List Tr} {e : El} {g o B : Nat} {es : List El} (h : LsV w l e g o es) (hl : e.lt B) (hb : Below B w w') : LsV w' l e g o es := h.keep fun g2 hg2 o2 => hb.cell (p := ⟨g2, o2, none⟩) (hl g2 hg2)
theorem LsV.drew {w : World} {l : List Tr} {e : El} {g o : Nat} {es : List El} (h : LsV w l e g o es) : LsV w.drew l e g o es := h.keep fun _ _ _ => rfl
theorem LsV.drewN {w : World} {l : List Tr} {e : El} {g o : Nat} {es : List El} (h : LsV w l e g o es) (k : Nat) : LsV (w.drewN k) l e g o es := h.keep fun _ _ _ => rfl
theorem elFp_set {es : List El} {j : Nat} {u u' : El} (h : es[j]? = some u) (hf : u'.fp = u.fp) : elFp (es.set j u') = elFp es := by
  unfold elFp
  congr 1
  refine List.ext_getElem? fun i => ?_
  rw [List.getElem?_map, List.getElem?_map, List.getElem?_set]
  split
  · rename_i e; subst e
    rw [h]
    split
    · simp [hf]
    · rename_i e2; exact absurd (List.getElem?_eq_some_iff.1 h).1 e2
  · rfl
/-- The tree at j replaced; all else as it was. -/
theorem LsV.put {w w' : World} {l : List Tr} {e : El} {g o : Nat} {es : List El} (h : LsV w l e g o es) {j : Nat} (hj : j < e.n) {t' : Tr} {u' : El} (hc : Cells5 w' g (o + j * 5) t' u') (hl : LsAt w' t'.l u')
    (hg : ∀ o2, o2 < o + j * 5 ∨ o + j * 5 + 5 ≤ o2 → w'.cell? ⟨g, o2, none⟩ = w.cell? ⟨g, o2, none⟩)
    (hk : ∀ i u, i ≠ j → es[i]? = some u → ∀ g2 ∈ u.fp, ∀ o2, w'.cell? ⟨g2, o2, none⟩ = w.cell? ⟨g2, o2, none⟩) :
    LsV w' (l.set j t') ⟨e.A, e.n, e.c, g :: elFp (es.set j u')⟩ g o (es.set j u') := by
  refine ⟨by rw [List.length_set]; exact h.len, h.cap, h.max, by rw [List.length_set]; exact h.eslen, h.adr, rfl, fun i t u a b => ?_, fun i t u a b => ?_⟩
  · rw [List.getElem?_set] at a b
    by_cases e : j = i
    · subst e
      have := h.len; have := h.eslen
      rw [if_pos rfl, if_pos (by omega)] at a b
      obtain rfl := Option.some.inj a
      obtain rfl := Option.some.inj b
      exact hc
    · rw [if_neg e] at a b
      obtain ⟨c0, c1, c2, c3, c4⟩ := h.cells i t u a b
      exact ⟨(hg _ (by omega)).trans c0, (hg _ (by omega)).trans c1, (hg _ (by omega)).trans c2, (hg _ (by omega)).trans c3, (hg _ (by omega)).trans c4⟩
  · rw [List.getElem?_set] at a b
    by_cases e : j = i
    · subst e
      have := h.len; have := h.eslen
      rw [if_pos rfl, if_pos (by omega)] at a b
      obtain rfl := Option.some.inj a
      obtain rfl := Option.some.inj b
      exact hl
    · rw [if_neg e] at a b
      exact (h.kids i t u a b).keep (hk i u (fun e2 => e e2.symm) b)
/-- Two trees' blocks in a list are apart, and apart from the list's own. -/
theorem LsV.apart {w : World} {l : List Tr} {e : El} {g o : Nat} {es : List El} (h : LsV w l e g o es) (hn : e.fp.Nodup) : g ∉ elFp es ∧ (∀ (i : Nat) (u : El), es[i]? = some u → g ∉ u.fp ∧ u.fp.Nodup) ∧
    ∀ (i j : Nat) (u v : El), i ≠ j → es[i]? = some u → es[j]? = some v → ∀ x ∈ u.fp, x ∉ v.fp := by
  rw [h.fp, List.nodup_cons] at hn
  have hpf := List.pairwise_flatten.1 (show List.Pairwise (· ≠ ·) (es.map El.fp).flatten from hn.2)
  refine ⟨hn.1, fun i u hu => ⟨fun hg => hn.1 (elFp_mem hu hg), hpf.1 _ (List.mem_map.2 ⟨u, List.mem_of_getElem? hu, rfl⟩)⟩, fun i j u v hij hu hv x hx hx2 => ?_⟩
  have hu2 : (es.map El.fp)[i]? = some u.fp := by rw [List.getElem?_map, hu]; rfl
  have hv2 : (es.map El.fp)[j]? = some v.fp := by rw [List.getElem?_map, hv]; rfl
  obtain ⟨hi, hi2⟩ := List.getElem?_eq_some_iff.1 hu2
  obtain ⟨hj, hj2⟩ := List.getElem?_eq_some_iff.1 hv2
  have hd := List.pairwise_iff_getElem.1 hpf.2
  rcases Nat.lt_or_gt_of_ne hij with hlt | hlt
  · have := hd i j hi hj hlt
    rw [hi2, hj2] at this
    exact this x hx x hx2 rfl
  · have := hd j i hj hi hlt
    rw [hi2, hj2] at this
    exact this x hx2 x hx rfl
theorem LsAt.fr {w w' : World} {l : List Tr} {e : El} {fp : List Nat} (h : LsAt w l e) (hf : Fr fp w w') (hl : e.lt w.heap.size) (hd : ∀ g ∈ e.fp, g ∉ fp) : LsAt w' l e :=
  h.keep fun g hg o => World.cell?_of_block (w := w) (w' := w') (a := ⟨g, o, none⟩) (hf.block g (hl g hg) (hd g hg))
theorem Own.fr {w w' : World} {lo : Nat} {a fp : List Nat} (h : Own w lo a) (hf : Fr fp w w') (hd : ∀ g ∈ a, g ∉ fp) : Own w' lo a :=
  ⟨h.1, fun g hg => by
    obtain ⟨h1, T, cs, h2⟩ := h.2 g hg
    exact ⟨h1, T, cs, (hf.block g h2.lt (hd g hg)).trans h2⟩⟩
theorem Own.sub {w : World} {lo : Nat} {a b : List Nat} (h : Own w lo a) (hb : b.Nodup) (hs : ∀ g ∈ b, g ∈ a) : Own w lo b := ⟨hb, fun g hg => h.2 g (hs g hg)⟩
theorem fr_set5 {fp : List Nat} {w w' : World} {g o : Nat} {t : Tr} {e : El} (h : Fr fp w w') (hg : g ∈ fp) : Fr fp w (set5 w' g o t e) :=
  ((((h.setCell (p := ⟨g, o, none⟩) hg _).setCell (p := ⟨g, o + 1, none⟩) hg _).setCell (p := ⟨g, o + 2, none⟩) hg _).setCell (p := ⟨g, o + 3, none⟩) hg _).setCell (p := ⟨g, o + 4, none⟩) hg _
end Go.Proofs.Ytjjcdlghichmdaa
