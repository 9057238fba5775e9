/- AtPath and what it calls. -/
import Derived.Test.YtiapkpelgbpfmaaDoorAtPath
import Derived.Deep.RegionLaw
set_option linter.unusedVariables false
set_option maxRecDepth 100000
set_option linter.unusedSimpArgs false
namespace Go.Proofs.YtiapkpelgbpfmaaDoor
open Go.RowKit

def stepT (t : Tr) (p : Int × Bool) : Option Tr := if place t.k t.l.length p.1 p.2 < 0 then none else t.l[(place t.k t.l.length p.1 p.2).toNat]?
def atPath : Tr → List (Int × Bool) → Option Tr
  | t, [] => some t
  | t, p :: ps => match stepT t p with
    | none => none
    | some u => atPath u ps
def zT : Tr := ⟨0, 0, 0, ⟨#[]⟩, []⟩
theorem stepT_no {t : Tr} {p : Int × Bool} {R : Int} (h : place t.k t.l.length p.1 p.2 = R) (hR : R < 0) : stepT t p = none := by unfold stepT; rw [h, if_pos hR]
theorem stepT_yes {t : Tr} {p : Int × Bool} {j : Nat} (h : place t.k t.l.length p.1 p.2 = j) (hj : j < t.l.length) : stepT t p = some t.l[j] := by
  unfold stepT; rw [h, if_neg (by omega), Int.toNat_natCast, List.getElem?_eq_getElem hj]
theorem child_sz {t : Tr} {j : Nat} (hj : j < t.l.length) : t.l[j].sz ≤ t.sz := by
  have h1 := szT_succ hj
  have h2 := szT_le t.l (j + 1)
  have h3 := t.sz_eq
  omega
/-- What the reading of a tree at a path says: the tree lies in new memory, or there is none. -/
def AtOf (w w' : World) (r : Ending) (o : Option Tr) : Prop := ∃ u : El, r = .returned (.tuple #[trV (o.getD zT) u, .bool o.isSome]) ∧ LsAt w' (o.getD zT).l u ∧ Own w' w.heap.size u.fp ∧ Below w.heap.size w w'
def zE : El := ⟨none, 0, 0, []⟩
set_option maxHeartbeats 1600000 in
theorem s_StepVal (t : Tr) (e : El) (p : Int × Bool) (w : World) (hl : LsAt w t.l e) (hel : e.lt w.heap.size) (hm : t.sz ≤ 1099511627776) (hp : -9223372036854775808 ≤ p.1 ∧ p.1 ≤ 9223372036854775807) :
    Calls Tryd.prog 58 #[trV t e, .agg #[.int .i64 p.1, .bool p.2]] w fun r w' => AtOf w w' r (stepT t p) := by
  have hsz := t.sz_eq
  have hszl := szT_le t.l 0
  have hen := hl.len
  have hcs := fun j (hj : j < t.l.length) => child_sz hj
  have hpl := place_lt t.k t.l.length p.1 p.2
  obtain ⟨R, hR⟩ : ∃ R, place t.k t.l.length p.1 p.2 = R := ⟨_, rfl⟩
  have hno := stepT_no hR
  have hyes := fun (j : Nat) (h : R = j) (hj : j < t.l.length) => stepT_yes (t := t) (p := p) (j := j) (hR.trans h) hj
  have hP := fun w1 => s_l8Place p.1 p.2 t e w1 (by omega) hp
  rw [← hen, hR] at hP
  rw [hR] at hpl
  obtain ⟨O, hO⟩ : ∃ O, stepT t p = O := ⟨_, rfl⟩
  rw [hO] at hno hyes ⊢
  obtain ⟨pa, pb⟩ := p
  clear hR hO
  obtain ⟨k, n, x, s, l⟩ := t
  obtain ⟨eA, en, ec, efp⟩ := e
  simp only at hP hl hen hsz hszl hcs hyes hpl ⊢
  subst hen
  have hec : l.length ≤ ec ∧ ec ≤ maxLen := ⟨((lsAt_iff _ _).1 hl).2.1, ((lsAt_iff _ _).1 hl).2.2.1⟩
  have k3 := Below.three w (.cells #[.int .i64 k, .int .i64 n, .int .i64 x, .string s, .slice eA l.length ec] 36) (.cells #[.int .i64 pa, .bool pb] 79) (.cells #[.int .i64 0, .int .i64 0, .int .i64 0, .string ⟨#[]⟩, .slice none 0 0] 36)
  have hZ : Blk (((w.alloc (.cells #[.int .i64 k, .int .i64 n, .int .i64 x, .string s, .slice eA l.length ec] 36)).alloc (.cells #[.int .i64 pa, .bool pb] 79)).alloc (.cells #[.int .i64 0, .int .i64 0, .int .i64 0, .string ⟨#[]⟩, .slice none 0 0] 36)) (w.heap.size + 2) 36 #[.int .i64 0, .int .i64 0, .int .i64 0, .string ⟨#[]⟩, .slice none 0 0] := by
    simpa using Blk.new ((w.alloc (.cells #[.int .i64 k, .int .i64 n, .int .i64 x, .string s, .slice eA l.length ec] 36)).alloc (.cells #[.int .i64 pa, .bool pb] 79)) 36 #[.int .i64 0, .int .i64 0, .int .i64 0, .string ⟨#[]⟩, .slice none 0 0]
  rcases hpl with hlt | ⟨hge, hlt⟩
  · have hO := hno (by omega)
    subst hO
    have hneg : R < 0 := by omega
    clear hno hyes
    go_enter Tryd.func58, Tryd.ntmps58
    go_wp2_with (go_at_call 105; refine (hP _).mono ?_; rintro r w3 ⟨rfl, hb3⟩; obtain ⟨hc3, hf3⟩ := bcell hb3)
    have hblk : Blk (set5 w3 (w.heap.size + 2) 0 zT zE) (w.heap.size + 2) 36 _ := Blk.five_ (hZ.below hb3 hZ.lt) zT zE
    have r3 : Below w.heap.size w (set5 w3 (w.heap.size + 2) 0 zT zE) := below_set5 (k3.up hb3) (by omega)
    exact bodyPost_ret (results_blk2 Tryd.results58 Tryd.isAgg36 (by exact Tryd.sizeOf36) rfl hblk) rfl ⟨zE, rfl, LsAt.nil_ _ _, Own.nil_ _ _, r3⟩
  · obtain ⟨j, rfl⟩ := Int.eq_ofNat_of_zero_le hge
    have hj : j < l.length := by omega
    have hO := hyes j rfl hj
    subst hO
    have hL := fun w1 (hb : Below w.heap.size w w1) => (hl.below hel hb).elem (j := j) hj
    have hcp := fun w1 u (h1 : LsAt w1 l[j].l u) (h2 : u.lt w1.heap.size) => s_l6Copy l[j] u w1 h1 h2 (Nat.le_trans (hcs j hj) hm)
    clear hno hyes hcs
    go_enter Tryd.func58, Tryd.ntmps58
    go_wp2_with (first
      | (go_at_call 105; refine (hP _).mono ?_; rintro r w3 ⟨rfl, hb3⟩; obtain ⟨hc3, hf3⟩ := bcell hb3; have kk := k3.up hb3; obtain ⟨g, o, u, hj2, hAe, hgm, ⟨c0, c1, c2, c3, c4⟩, hch, hsub⟩ := hL w3 kk; replace hAe : eA = some ⟨g, o, none⟩ := hAe; subst hAe)
      | (go_at_call 57; refine (hcp _ u hch (fun x hx => Nat.lt_of_lt_of_le (hel x (hsub x hx)) kk.size)).mono ?_; rintro r w5 ⟨v, rfl, hv1, hv2, hb5⟩; obtain ⟨hc5, hf5⟩ := bcell (hb3.up hb5)))
    have hz3 := hb3.size
    have hn2 : w.heap.size + 2 ∉ v.fp := fun hx => by have := (hv2.2 _ hx).1; simp at hz3; omega
    have hblk : Blk (set5 w5 (w.heap.size + 2) 0 l[j] v) (w.heap.size + 2) 36 _ := Blk.five_ (hZ.below (hb3.up hb5) hZ.lt) l[j] v
    have r1 : LsAt (set5 w5 (w.heap.size + 2) 0 l[j] v) l[j].l v := hv1.set5_ hn2
    have r2 : Own (set5 w5 (w.heap.size + 2) 0 l[j] v) w.heap.size v.fp := Own.mono (hv2.set5_ hn2) kk.size
    have r3 : Below w.heap.size w (set5 w5 (w.heap.size + 2) 0 l[j] v) := below_set5 (kk.up hb5) (by omega)
    exact bodyPost_ret (results_blk2 Tryd.results58 Tryd.isAgg36 (by exact Tryd.sizeOf36) rfl hblk) rfl ⟨v, rfl, r1, r2, r3⟩
end Go.Proofs.YtiapkpelgbpfmaaDoor
