/- Tokens, joined, read back: plain. -/
import Derived.Test.YtceijgaocjghcaaGreatDoorTnTokP
import Derived.Test.YtceijgaocjghcaaGreatDoorTnM28
import Derived.Test.YtceijgaocjghcaaGreatDoorTnDecNew
set_option linter.unusedVariables false
set_option maxRecDepth 100000
set_option linter.unusedSimpArgs false
namespace Go.Proofs.YtceijgaocjghcaaGreatDoor
open Go.RowKit

/-! Digits of a number. -/
theorem dg_of (d : Nat) (h : d < 10) : isDg (UInt8.ofNat (48 + d)) = true := by
  rw [isDg_iff, UInt8.toNat_ofNat_of_lt' (by show 48 + d < 256; omega)]; omega
theorem dec_step {u : Nat} (h : ¬ u < 10) : Lib.decDigits u = Lib.decDigits (u / 10) ++ [UInt8.ofNat (48 + u % 10)] := by rw [Lib.decDigits, dif_neg h]
theorem dec_all (u : Nat) : ∀ c ∈ Lib.decDigits u, isDg c = true := by
  induction u using Nat.strongRecOn with
  | ind u ih =>
    intro c hc
    by_cases h : u < 10
    · rw [Lib.decDigits_one h, List.mem_singleton] at hc
      subst hc
      exact dg_of u h
    · rw [dec_step h] at hc
      rcases List.mem_append.1 hc with hc | hc
      · exact ih (u / 10) (by omega) c hc
      · rw [List.mem_singleton] at hc
        subst hc
        exact dg_of _ (Nat.mod_lt _ (by decide))
theorem dec_val (u : Nat) : valD (Lib.decDigits u) = u := by
  induction u using Nat.strongRecOn with
  | ind u ih =>
    have hd : ∀ d, d < 10 → (UInt8.ofNat (48 + d)).toNat = 48 + d := fun d hd => UInt8.toNat_ofNat_of_lt' (by show 48 + d < 256; omega)
    by_cases h : u < 10
    · rw [Lib.decDigits_one h]
      show 10 * 0 + ((UInt8.ofNat (48 + u)).toNat - 48) = u
      rw [hd u h]; omega
    · rw [dec_step h, valD_snoc, ih (u / 10) (by omega), hd _ (Nat.mod_lt _ (by decide))]
      omega
theorem dec_ne (u : Nat) : Lib.decDigits u ≠ [] := by
  intro e
  have := decDigits_len_pos u
  rw [e] at this
  simp at this
theorem dec_head0 (u : Nat) : (Lib.decDigits u).getD 0 0 = 48 → u = 0 := by
  induction u using Nat.strongRecOn with
  | ind u ih =>
    intro hh
    by_cases h : u < 10
    · rw [Lib.decDigits_one h] at hh
      have h2 : (UInt8.ofNat (48 + u)).toNat = 48 := by
        have : (UInt8.ofNat (48 + u)) = 48 := hh
        rw [this]; rfl
      rw [UInt8.toNat_ofNat_of_lt' (by show 48 + u < 256; omega)] at h2
      omega
    · rw [dec_step h] at hh
      have hp := decDigits_len_pos (u / 10)
      have e : (Lib.decDigits (u / 10) ++ [UInt8.ofNat (48 + u % 10)]).getD 0 0 = (Lib.decDigits (u / 10)).getD 0 0 := by
        simp only [List.getD]
        rw [List.getElem?_append_left (by omega)]
      rw [e] at hh
      have := ih (u / 10) (by omega) hh
      omega
/-- What follows is no more of a number: it is empty, or a blank begins it. -/
def Sep (r : List UInt8) : Prop := r = [] ∨ ∃ m, r = 32 :: m
theorem takeWhile_all {α : Type} (f : α → Bool) : ∀ (a b : List α), (∀ c ∈ a, f c = true) → (b.takeWhile f = []) → (a ++ b).takeWhile f = a
  | [], b, _, h => h
  | x :: a, b, h1, h2 => by
    rw [List.cons_append, List.takeWhile_cons, if_pos (h1 x (by simp)), takeWhile_all f a b (fun c hc => h1 c (List.mem_cons_of_mem _ hc)) h2]
theorem dgl_at {l D r : List UInt8} {p : Nat} (h : l.drop p = D ++ r) (hD : ∀ c ∈ D, isDg c = true) (hr : r.takeWhile isDg = []) : dgl l p = D := by
  unfold dgl; rw [h]; exact takeWhile_all isDg D r hD hr
theorem sep_dg {r : List UInt8} (h : Sep r) : r.takeWhile isDg = [] := by
  rcases h with rfl | ⟨m, rfl⟩
  · rfl
  · rw [List.takeWhile_cons, if_neg (by decide)]
theorem sep_get {r : List UInt8} (h : Sep r) : r.getD 0 0 = 0 ∨ r.getD 0 0 = 32 := by
  rcases h with rfl | ⟨m, rfl⟩
  · exact .inl rfl
  · exact .inr rfl
theorem drop_get0 {l m : List UInt8} {p : Nat} (h : l.drop p = m) : l.getD p 0 = m.getD 0 0 := by have := drop_getD h 0; rwa [Nat.add_zero] at this
theorem drop_get1 {l m : List UInt8} {p : Nat} {x : UInt8} (h : l.drop p = x :: m) : l.drop (p + 1) = m := drop_drop' (a := [x]) h
theorem getD_app_left {a b : List UInt8} (h : a ≠ []) : (a ++ b).getD 0 0 = a.getD 0 0 := by
  cases a with
  | nil => exact absurd rfl h
  | cons x a => rfl
/-- The whole part of a number. -/
theorem numW_at {l r : List UInt8} {p u : Nat} {neg : Bool} (h : l.drop p = Lib.decDigits u ++ r) (hr : r.takeWhile isDg = []) (h46 : ¬ r.getD 0 0 = 46) : numW l neg p = numE l neg (Lib.decDigits u) 0 (p + (Lib.decDigits u).length) := by
  have hd := dgl_at h (dec_all u) hr
  have hne := dec_ne u
  have hg : l.getD p 0 = (Lib.decDigits u).getD 0 0 := by rw [drop_get0 h, getD_app_left hne]
  have hq := drop_drop' h
  have h462 : ¬ l.getD (p + (Lib.decDigits u).length) 0 = 46 := by rw [drop_get0 hq]; exact h46
  have key : numW l neg p = numF l neg (Lib.decDigits u) (p + (Lib.decDigits u).length) := by
    unfold numW
    rw [if_neg (by rw [hd]; exact hne)]
    by_cases h48 : l.getD p 0 = 48
    · rw [if_pos h48]
      rw [hg] at h48
      have h0 := dec_head0 u h48
      subst h0
      rw [Lib.decDigits_one (by decide : 0 < 10)]
      rfl
    · rw [if_neg h48, hd]
      have : dgEnd l p = p + (Lib.decDigits u).length := by unfold dgEnd dgn; rw [hd]
      rw [this]
  rw [key]
  unfold numF
  rw [if_neg h462]
theorem sig_dec {u : Nat} (h : u < 100000000000000000) : ¬ 17 < sigN (Lib.decDigits u) := by
  have h1 := (decDigits_le 17 u (by decide)).2 h
  have h2 := sigN_len (Lib.decDigits u)
  omega
theorem numE_none {l r : List UInt8} {q u : Nat} {neg : Bool} (h : l.drop q = r) (hr : Sep r) (hu : u < 100000000000000000) : numE l neg (Lib.decDigits u) 0 q = (sgn neg u, 0, (q : Int), 0) := by
  have hg := drop_get0 h
  have hn : ¬ (l.getD q 0 = 101 ∨ l.getD q 0 = 69) := by
    rw [hg]
    rcases sep_get hr with e | e <;> rw [e] <;> decide
  unfold numE numZ
  rw [if_neg hn, if_neg (by have := sig_dec hu; simp; omega), dec_val]
  rfl
theorem numE_some {l r : List UInt8} {q u : Nat} {x : Int} {neg : Bool} (h : l.drop q = 101 :: (numL x ++ r)) (hr : Sep r) (hu : u < 100000000000000000) (hx : -999 ≤ x ∧ x ≤ 999) : numE l neg (Lib.decDigits u) 0 q = (sgn neg u, x, ((q + 1 + (numL x).length : Nat) : Int), 0) := by
  have hg := drop_get0 h
  have h1 := drop_get1 h
  have hxl : (Lib.decDigits x.natAbs).length ≤ 3 := (decDigits_le 3 x.natAbs (by decide)).2 (by have : (10 : Nat) ^ 3 = 1000 := rfl; omega)
  have hsd := sep_dg hr
  have hz : ∀ (down : Bool) (q' : Nat), numZ neg (Lib.decDigits u) 0 down (Lib.decDigits x.natAbs) q' = (sgn neg u, sgn down x.natAbs, (q' : Int), 0) := by
    intro down q'
    unfold numZ
    rw [if_neg (by have := sig_dec hu; omega), dec_val, dec_val]
    simp
  unfold numE
  rw [if_pos (.inl hg)]
  by_cases h0 : x < 0
  · rw [numL_neg h0] at h1 ⊢
    have hy : l.getD (q + 1) 0 = 45 := drop_get0 h1
    have hat : expAt l q = q + 2 := by unfold expAt; rw [if_pos (.inr hy)]
    have h2 : l.drop (q + 2) = Lib.decDigits x.natAbs ++ r := drop_get1 (p := q + 1) h1
    have hd := dgl_at h2 (dec_all _) hsd
    have he : dgEnd l (q + 2) = q + 2 + (Lib.decDigits x.natAbs).length := by unfold dgEnd dgn; rw [hd]
    rw [hat, hd, if_neg (dec_ne _), hy, he, hz]
    have e1 : sgn ((45 : UInt8) == 45) x.natAbs = x := by show -((x.natAbs : Nat) : Int) = x; omega
    rw [e1, List.length_cons]
    simp only [Prod.mk.injEq, true_and, and_true]
    omega
  · rw [numL_pos (by omega)] at h1 ⊢
    have hh := decDigits_head x.natAbs
    have hy : l.getD (q + 1) 0 = (Lib.decDigits x.natAbs).getD 0 0 := by rw [drop_get0 h1, getD_app_left (dec_ne _)]
    have hyd : isDg (l.getD (q + 1) 0) = true := by
      rw [hy]
      cases hc : Lib.decDigits x.natAbs with
      | nil => exact absurd hc (dec_ne _)
      | cons a m => exact dec_all x.natAbs a (by rw [hc]; simp)
    have hn : ¬ (l.getD (q + 1) 0 = 43 ∨ l.getD (q + 1) 0 = 45) := by
      intro e
      rcases e with e | e <;> rw [e] at hyd <;> exact absurd hyd (by decide)
    have hat : expAt l q = q + 1 := by unfold expAt; rw [if_neg hn]
    have hd := dgl_at h1 (dec_all _) hsd
    have he : dgEnd l (q + 1) = q + 1 + (Lib.decDigits x.natAbs).length := by unfold dgEnd dgn; rw [hd]
    have hb : (l.getD (q + 1) 0 == 45) = false := by
      cases hc : (l.getD (q + 1) 0 == 45) with
      | false => rfl
      | true => exact absurd (.inr (by simpa using hc)) hn
    rw [hat, hd, if_neg (dec_ne _), hb, he, hz]
    have e1 : sgn false x.natAbs = x := by show ((x.natAbs : Nat) : Int) = x; omega
    rw [e1]
/-- A number's text. -/
def nTxt (n x : Int) : List UInt8 := if x = 0 then numL n else numL n ++ (101 :: numL x)
theorem numb_at {l r : List UInt8} {p : Nat} {n x : Int} (h : l.drop p = nTxt n x ++ r) (hr : Sep r) (hn : -100000000000000000 < n ∧ n < 100000000000000000) (hx : -999 ≤ x ∧ x ≤ 999) : numbP l p = (n, x, ((p + (nTxt n x).length : Nat) : Int), 0) := by
  obtain ⟨r2, hr2, hlen, hfin⟩ : ∃ r2, nTxt n x ++ r = numL n ++ r2 ∧ (r2.takeWhile isDg = [] ∧ ¬ r2.getD 0 0 = 46) ∧ ∀ (q : Nat) (neg : Bool) (u : Nat), l.drop q = r2 → u < 100000000000000000 → numE l neg (Lib.decDigits u) 0 q = (sgn neg u, x, ((q + (nTxt n x).length - (numL n).length : Nat) : Int), 0) := by
    unfold nTxt
    by_cases h0 : x = 0
    · rw [if_pos h0]
      refine ⟨r, rfl, ⟨sep_dg hr, by rcases sep_get hr with e | e <;> rw [e] <;> decide⟩, fun q neg u hq hu => ?_⟩
      rw [numE_none hq hr hu, h0]
      simp only [Prod.mk.injEq, true_and, and_true]
      omega
    · rw [if_neg h0]
      refine ⟨101 :: (numL x ++ r), by simp, ⟨by rw [List.takeWhile_cons, if_neg (by decide)], by show ¬ (101 : UInt8) = 46; decide⟩, fun q neg u hq hu => ?_⟩
      rw [numE_some hq hr hu hx]
      simp only [Prod.mk.injEq, true_and, and_true, List.length_append, List.length_cons]
      omega
  rw [hr2] at h
  have hle : (numL n).length ≤ (nTxt n x).length := by unfold nTxt; split <;> simp
  unfold numbP
  by_cases h0 : n < 0
  · rw [numL_neg h0] at h hfin hle
    have hy : l.getD p 0 = 45 := drop_get0 h
    have h1 := drop_get1 (p := p) h
    rw [if_pos hy, numW_at h1 hlen.1 hlen.2, hfin _ _ _ (drop_drop' h1) (by omega)]
    have e1 : sgn true n.natAbs = n := by show -((n.natAbs : Nat) : Int) = n; omega
    rw [e1]
    simp only [Prod.mk.injEq, true_and, and_true, List.length_cons] at hle ⊢
    omega
  · rw [numL_pos (by omega)] at h hfin hle
    have hy : l.getD p 0 = (Lib.decDigits n.natAbs).getD 0 0 := by rw [drop_get0 h, getD_app_left (dec_ne _)]
    have hyd : isDg (l.getD p 0) = true := by
      rw [hy]
      cases hc : Lib.decDigits n.natAbs with
      | nil => exact absurd hc (dec_ne _)
      | cons a m => exact dec_all n.natAbs a (by rw [hc]; simp)
    have hn45 : ¬ l.getD p 0 = 45 := by intro e; rw [e] at hyd; exact absurd hyd (by decide)
    rw [if_neg hn45, numW_at h hlen.1 hlen.2, hfin _ _ _ (drop_drop' h) (by omega)]
    have e1 : sgn false n.natAbs = n := by show ((n.natAbs : Nat) : Int) = n; omega
    rw [e1]
    simp only [Prod.mk.injEq, true_and, and_true]
    omega
theorem escs_ge : ∀ ns : List Int, (∀ n ∈ ns, runeOk n = true) → ns.length ≤ (escs ns).length := by
  intro ns
  induction ns with
  | nil => intro _; exact Nat.zero_le _
  | cons n ns ih =>
    intro hn
    have e : escs (n :: ns) = escL n ++ escs ns := rfl
    have h1 := ih fun x hx => hn x (List.mem_cons_of_mem _ hx)
    have h2 : 1 ≤ (escL n).length := by
      rcases Nat.eq_zero_or_pos (escL n).length with h0 | h0
      · have h4 : escL n = [] := List.eq_nil_of_length_eq_zero h0
        exfalso
        revert h4
        unfold escL
        rw [if_pos (hn n List.mem_cons_self)]
        (repeat' split) <;> first | exact fun h => encL_ne _ h | (intro h; cases h)
      · exact h0
    rw [e, List.length_append, List.length_cons]
    omega
theorem quoted_at {l s m : List UInt8} {p : Nat} (h : Lib.validD s = true) (hd : l.drop p = quoteL s ++ m) : quotedL l p = (s, ((p + (quoteL s).length : Nat) : Int), 0) := by
  rw [quoteL_yes h] at hd ⊢
  have hd2 : l.drop p = 34 :: (escs (runesL s) ++ 34 :: m) := by rw [hd]; simp
  have h1 := drop_get1 hd2
  have hg : l.getD p 0 = 34 := drop_get0 hd2
  have hp := drop_lt hd2
  have hro : ∀ n ∈ runesL s, runeOk n = true := fun x hx => runesG_ok _ _ x hx
  have hge := escs_ge _ hro
  have hl := congrArg List.length h1
  rw [List.length_drop, List.length_append, List.length_cons] at hl
  have e : quotedL l p = quotedG l l.length (p + 1) [] := by
    unfold quotedL
    rw [if_neg (by
      intro h
      rcases h with h | h | h
      · omega
      · omega
      · exact h hg)]
    rfl
  rw [e, quoted_all (runesL s) l m (p + 1) l.length [] hro h1 (by omega), List.nil_append, encAll_runes s.length s (Nat.le_refl _) h]
  simp only [Prod.mk.injEq, true_and, and_true, List.length_cons, List.length_append, List.length_nil]
  omega
/-- A token as it is read: no more is said of a number's power. -/
inductive RdTk : Tk → Prop
  | sign (c : UInt8) (h : isSign c = true) : RdTk ⟨1, ⟨#[c]⟩, 0, 0⟩
  | text (s : List UInt8) (h : Lib.validD s = true) : RdTk ⟨2, ⟨s.toArray⟩, 0, 0⟩
  | num (n x : Int) (h : -100000000000000000 < n ∧ n < 100000000000000000) : RdTk ⟨3, ⟨#[]⟩, n, x⟩
  | word (w : List UInt8) (h : w = wNull ∨ w = wTrue ∨ w = wFalse) : RdTk ⟨4, ⟨w.toArray⟩, 0, 0⟩
def GdTk (t : Tk) : Prop := RdTk t ∧ -999 ≤ t.x ∧ t.x ≤ 999
theorem RdTk.kind {t : Tk} (h : RdTk t) : ¬ t.k = 0 := by
  cases h with
  | sign c h => show ¬ (1 : Int) = 0; decide
  | text s h => show ¬ (2 : Int) = 0; decide
  | num n x h => show ¬ (3 : Int) = 0; decide
  | word w h => show ¬ (4 : Int) = 0; decide
theorem ba_dataR (W : List UInt8) : (⟨W.toArray⟩ : ByteArray).data.toList = W := by simp
theorem pre_self (w r : List UInt8) : Lib.hasPrefix (w ++ r) w = true := by
  show w.isPrefixOf (w ++ r) = true
  rw [List.isPrefixOf_iff_prefix]
  exact List.prefix_append _ _
theorem tokQ_signP {l : List UInt8} {p : Nat} (h : p < l.length) (h2 : isSign (l.getD p 0) = true) : tokQ l p = (⟨1, ⟨#[l.getD p 0]⟩, 0, 0⟩, (p : Int) + 1, 0) := by
  unfold tokQ; rw [if_neg (by omega), if_pos h2]
/-- A good token's text, whatever separates it from what follows. -/
theorem tokQ_good {l r : List UInt8} {p : Nat} {t : Tk} (ht : GdTk t) (hd : l.drop p = t.txt ++ r) (hr : Sep r) : tokQ l p = (t, ((p + t.txt.length : Nat) : Int), 0) ∧ isBlank (l.getD p 0) = false ∧ p < l.length := by
  obtain ⟨h, hx⟩ := ht
  cases h with
  | sign c hc =>
    have e : Tk.txt ⟨1, ⟨#[c]⟩, 0, 0⟩ = [c] := rfl
    rw [e] at hd ⊢
    have hd2 : l.drop p = c :: r := hd
    have hg : l.getD p 0 = c := drop_get0 hd2
    refine ⟨by rw [tokQ_signP (drop_lt hd2) (by rw [hg]; exact hc), hg]; rfl, ?_, drop_lt hd2⟩
    rw [hg]
    exact u8_all (p := fun c => isSign c = true → isBlank c = false) (by decide +kernel) c hc
  | text s hs =>
    have e : Tk.txt ⟨2, ⟨s.toArray⟩, 0, 0⟩ = quoteL s := by
      show tokL 2 (⟨s.toArray⟩ : ByteArray).data.toList 0 0 = _
      rw [ba_dataR]; rfl
    rw [e] at hd ⊢
    have hq := quoted_at hs hd
    rw [quoteL_yes hs] at hd
    have hd2 : l.drop p = 34 :: (escs (runesL s) ++ [34] ++ r) := hd
    have hg : l.getD p 0 = 34 := drop_get0 hd2
    refine ⟨?_, by rw [hg]; rfl, drop_lt hd2⟩
    unfold tokQ
    rw [if_neg (by have := drop_lt hd2; omega), if_neg (by rw [hg]; decide), if_pos hg, hq]
    rfl
  | num n x hn =>
    have e : Tk.txt ⟨3, ⟨#[]⟩, n, x⟩ = nTxt n x := rfl
    rw [e] at hd ⊢
    have hq := numb_at hd hr hn hx
    have hfirst : l.getD p 0 = 45 ∨ isDg (l.getD p 0) = true := by
      have hg : l.getD p 0 = (numL n).getD 0 0 := by
        rw [drop_get0 hd]
        have hne : numL n ≠ [] := by unfold numL Lib.itoa; split <;> simp [dec_ne]
        unfold nTxt
        split
        · exact getD_app_left hne
        · rw [List.append_assoc]; exact getD_app_left hne
      rw [hg]
      by_cases h0 : n < 0
      · rw [numL_neg h0]; exact .inl rfl
      · right
        rw [numL_pos (by omega)]
        cases hc : Lib.decDigits n.natAbs with
        | nil => exact absurd hc (dec_ne _)
        | cons a m => exact dec_all n.natAbs a (by rw [hc]; simp)
    have hlt : p < l.length := by
      rcases Nat.lt_or_ge p l.length with h | h
      · exact h
      · rw [show l.getD p 0 = 0 by simp [List.getD, List.getElem?_eq_none h]] at hfirst
        rcases hfirst with h2 | h2 <;> exact absurd h2 (by decide)
    have hs : isSign (l.getD p 0) = false ∧ ¬ l.getD p 0 = 34 ∧ isBlank (l.getD p 0) = false :=
      u8_all (p := fun c => (c = 45 ∨ isDg c = true) → isSign c = false ∧ ¬ c = 34 ∧ isBlank c = false) (by decide +kernel) (l.getD p 0) hfirst
    refine ⟨?_, hs.2.2, hlt⟩
    unfold tokQ
    rw [if_neg (by omega), if_neg (by rw [hs.1]; decide), if_neg hs.2.1, if_pos hfirst, hq]
    rfl
  | word w hw =>
    have e : Tk.txt ⟨4, ⟨w.toArray⟩, 0, 0⟩ = w := by
      show tokL 4 (⟨w.toArray⟩ : ByteArray).data.toList 0 0 = _
      rw [ba_dataR]; rfl
    rw [e] at hd ⊢
    have hps := pre_self w r
    rw [← hd] at hps
    have hg := drop_get0 hd
    have hlt : p < l.length := by
      have := congrArg List.length hd
      rw [List.length_drop, List.length_append] at this
      rcases hw with rfl | rfl | rfl <;> (simp only [wNull, wTrue, wFalse, List.length_cons, List.length_nil] at this; omega)
    have hs : isSign (l.getD p 0) = false ∧ ¬ l.getD p 0 = 34 ∧ ¬ (l.getD p 0 = 45 ∨ isDg (l.getD p 0) = true) ∧ isBlank (l.getD p 0) = false := by
      rw [hg]
      rcases hw with rfl | rfl | rfl
      · show isSign 110 = false ∧ ¬ (110 : UInt8) = 34 ∧ ¬ ((110 : UInt8) = 45 ∨ isDg 110 = true) ∧ isBlank 110 = false; decide
      · show isSign 116 = false ∧ ¬ (116 : UInt8) = 34 ∧ ¬ ((116 : UInt8) = 45 ∨ isDg 116 = true) ∧ isBlank 116 = false; decide
      · show isSign 102 = false ∧ ¬ (102 : UInt8) = 34 ∧ ¬ ((102 : UInt8) = 45 ∨ isDg 102 = true) ∧ isBlank 102 = false; decide
    refine ⟨?_, hs.2.2.2, hlt⟩
    unfold tokQ
    rw [if_neg (by omega), if_neg (by rw [hs.1]; decide), if_neg hs.2.1, if_neg hs.2.2.1]
    unfold wordP
    rcases hw with rfl | rfl | rfl
    · rw [if_pos hps]; rfl
    · rw [if_neg (by rw [hd]; intro h; cases h), if_pos hps]; rfl
    · rw [if_neg (by rw [hd]; intro h; cases h), if_neg (by rw [hd]; intro h; cases h), if_pos hps]; rfl
theorem lead_app : ∀ (b m : List UInt8), (∀ c ∈ b, isBlank c = true) → lead (b ++ m) = b.length + lead m
  | [], m, _ => by simp
  | c :: b, m, h => by
    rw [List.cons_append, lead, if_pos (h c (by simp)), lead_app b m (fun c hc => h c (List.mem_cons_of_mem _ hc)), List.length_cons]
    omega
theorem skip_bl {l b m : List UInt8} {p : Nat} (h : l.drop p = b ++ m) (hb : ∀ c ∈ b, isBlank c = true) (hm : lead m = 0) : skipN l p = p + b.length := by
  unfold skipN; rw [h, lead_app b m hb, hm]; rfl
theorem lead_no {l : List UInt8} (h : isBlank (l.getD 0 0) = false) : lead l = 0 := by
  cases l with
  | nil => rfl
  | cons c l => rw [lead, if_neg (by rw [show isBlank c = false from h]; decide)]
/-- What stands between the tokens' texts and the end. -/
def restT (ts : List Tk) (post : List UInt8) : List UInt8 := if ts = [] then post else 32 :: (joinT ts ++ post)
theorem joinT_cons (t : Tk) (ts : List Tk) (post : List UInt8) : joinT (t :: ts) ++ post = t.txt ++ restT ts post := by
  unfold restT joinT
  cases ts with
  | nil => rw [if_pos rfl, List.map_cons, List.map_nil, Lib.join_one]
  | cons u ts =>
    rw [if_neg (by simp), List.map_cons, List.map_cons, Lib.join_cons, Lib.join_cons]
    unfold Lib.joinTail
    simp
/-- Good tokens, joined, with blanks ahead and behind, read back. -/
theorem toks_back {l : List UInt8} : ∀ (ts : List Tk) (f p : Nat) (acc : List Tk) (bl post : List UInt8), (∀ t ∈ ts, GdTk t) → (∀ c ∈ bl, isBlank c = true) → (∀ c ∈ post, isBlank c = true) → Sep post → p ≤ l.length → ts.length < f →
    l.drop p = bl ++ (joinT ts ++ post) → toksG l f p acc = (acc ++ ts, 0)
  | [], f, p, acc, bl, post, _, hbl, hpo, _, hp, hf, hd => by
    obtain ⟨f, rfl⟩ : ∃ g, f = g + 1 := ⟨f - 1, by simp at hf; omega⟩
    have hd2 : l.drop p = bl ++ post := hd
    have hall : ∀ c ∈ bl ++ post, isBlank c = true := fun c hc => by
      rcases List.mem_append.1 hc with hc | hc
      · exact hbl c hc
      · exact hpo c hc
    have hsk : skipN l p = p + (bl ++ post).length := skip_bl (m := []) (by rw [hd2, List.append_nil]) hall rfl
    have hlen : p + (bl ++ post).length = l.length := by rw [← hd2, List.length_drop]; omega
    have ht : tokP l (p : Int) = (noTk, ((l.length : Nat) : Int), 0) := by
      unfold tokP
      rw [if_neg (by omega), Int.toNat_natCast, hsk, hlen]
      unfold tokQ
      rw [if_pos (Nat.le_refl _)]
    rw [toksG_end ht rfl, List.append_nil]
  | t :: ts, f, p, acc, bl, post, hg, hbl, hpo, hse, hp, hf, hd => by
    obtain ⟨f, rfl⟩ : ∃ g, f = g + 1 := ⟨f - 1, by simp at hf; omega⟩
    rw [joinT_cons] at hd
    have hgt := hg t (by simp)
    have hd1 := drop_drop' hd
    have hse2 : Sep (restT ts post) := by
      unfold restT
      split
      · exact hse
      · exact .inr ⟨_, rfl⟩
    obtain ⟨h1, h2, h3⟩ := tokQ_good hgt hd1 hse2
    have hsk := skip_bl hd hbl (lead_no (by rw [← drop_get0 hd1]; exact h2))
    have ht : tokP l (p : Int) = (t, ((p + bl.length + t.txt.length : Nat) : Int), 0) := by
      unfold tokP
      rw [if_neg (by omega), Int.toNat_natCast, hsk, h1]
    rw [toksG_step ht hgt.1.kind, Int.toNat_natCast]
    have hd3 := drop_drop' hd1
    have hp3 : p + bl.length + t.txt.length ≤ l.length := by
      have := congrArg List.length hd1
      rw [List.length_drop, List.length_append] at this
      omega
    have hd4 : l.drop (p + bl.length + t.txt.length) = (if ts = [] then [] else [32]) ++ (joinT ts ++ post) := by
      rw [hd3]
      unfold restT
      split
      · rename_i h; subst h; rfl
      · rfl
    rw [toks_back ts f _ (acc ++ [t]) _ post (fun u hu => hg u (List.mem_cons_of_mem _ hu)) (fun c hc => by
      split at hc
      · cases hc
      · rw [List.mem_singleton] at hc; subst hc; rfl) hpo hse hp3 (by simp at hf; omega) hd4, List.append_assoc]
    rfl
theorem txt_pos {t : Tk} (h : GdTk t) : 1 ≤ t.txt.length := by
  obtain ⟨_, _, h3⟩ := tokQ_good (l := t.txt) (r := []) (p := 0) h (by simp) (.inl rfl)
  omega
theorem joinT_ge : ∀ ts : List Tk, (∀ t ∈ ts, GdTk t) → ts.length ≤ (joinT ts).length
  | [], _ => Nat.zero_le _
  | t :: ts, h => by
    have h1 := joinT_ge ts (fun u hu => h u (List.mem_cons_of_mem _ hu))
    have h2 := txt_pos (h t (by simp))
    have e := joinT_cons t ts []
    rw [List.append_nil] at e
    rw [e, List.length_append, List.length_cons]
    unfold restT
    split
    · rename_i h5; subst h5; simp only [List.length_nil]; omega
    · simp only [List.length_cons, List.length_append]; omega
theorem toksL_back {ts : List Tk} (h : ∀ t ∈ ts, GdTk t) : toksL (joinT ts) = (ts, 0) := by
  unfold toksL
  have := joinT_ge ts h
  exact toks_back ts _ 0 [] [] [] h (fun c hc => by cases hc) (fun c hc => by cases hc) (.inl rfl) (Nat.zero_le _) (by omega) (by simp)
theorem toksL_back2 {ts : List Tk} (h : ∀ t ∈ ts, GdTk t) : toksL ([9] ++ joinT ts ++ [32, 10]) = (ts, 0) := by
  unfold toksL
  have := joinT_ge ts h
  exact toks_back ts _ 0 [] [9] [32, 10] h (fun c hc => by (rw [List.mem_singleton] at hc; subst hc; rfl)) (fun c hc => by
    simp only [List.mem_cons, List.not_mem_nil, or_false] at hc
    rcases hc with rfl | rfl <;> rfl) (.inr ⟨_, rfl⟩) (Nat.zero_le _) (by simp; omega) (by simp)
end Go.Proofs.YtceijgaocjghcaaGreatDoor
