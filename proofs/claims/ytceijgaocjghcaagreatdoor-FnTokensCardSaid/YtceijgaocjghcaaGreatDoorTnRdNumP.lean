/- Numbers read from text: plain. -/
import Derived.Test.YtceijgaocjghcaaGreatDoorTnM1
import Derived.Lib.Atoi
import Derived.Lib.TrimByte
set_option linter.unusedVariables false
set_option maxRecDepth 100000
set_option linter.unusedSimpArgs false
namespace Go.Proofs.YtceijgaocjghcaaGreatDoor
open Go.RowKit

/-- A digit. -/
def isDg (c : UInt8) : Bool := decide (48 ≤ c.toNat) && decide (c.toNat ≤ 57)
theorem isDg_iff (c : UInt8) : isDg c = true ↔ 48 ≤ c.toNat ∧ c.toNat ≤ 57 := by simp [isDg]
theorem isDg_no {c : UInt8} (h : isDg c = false) : (c.toNat : Int) < 48 ∨ 57 < (c.toNat : Int) := by
  by_cases h2 : 48 ≤ c.toNat ∧ c.toNat ≤ 57
  · rw [(isDg_iff c).2 h2] at h; cases h
  · omega
theorem isDg_in {c : UInt8} (h : isDg c = true) : (48 : Int) ≤ (c.toNat : Int) ∧ (c.toNat : Int) ≤ 57 := by have := (isDg_iff c).1 h; omega
/-- The digits at an offset. -/
def dgl (l : List UInt8) (p : Nat) : List UInt8 := (l.drop p).takeWhile isDg
def dgn (l : List UInt8) (p : Nat) : Nat := (dgl l p).length
def dgEnd (l : List UInt8) (p : Nat) : Nat := p + dgn l p
theorem dgl_out {l : List UInt8} {p : Nat} (h : l.length ≤ p) : dgl l p = [] := by unfold dgl; rw [List.drop_eq_nil_of_le h]; rfl
theorem dgl_yes {l : List UInt8} {p : Nat} (h : p < l.length) (h2 : isDg l[p] = true) : dgl l p = l[p] :: dgl l (p + 1) := by
  unfold dgl
  rw [List.drop_eq_getElem_cons h, List.takeWhile_cons, if_pos h2]
theorem dgl_no {l : List UInt8} {p : Nat} (h : p < l.length) (h2 : isDg l[p] = false) : dgl l p = [] := by
  unfold dgl
  rw [List.drop_eq_getElem_cons h, List.takeWhile_cons, if_neg (by rw [h2]; decide)]
theorem getD_in {l : List UInt8} {p : Nat} (h : p < l.length) : l.getD p 0 = l[p] := by simp [List.getD, h]
theorem dgl_no' {l : List UInt8} {p : Nat} (h2 : isDg (l.getD p 0) = false) : dgl l p = [] := by
  rcases Nat.lt_or_ge p l.length with h | h
  · rw [getD_in h] at h2; exact dgl_no h h2
  · exact dgl_out h
theorem lt_of_dg {l : List UInt8} {p : Nat} (h2 : isDg (l.getD p 0) = true) : p < l.length := by
  rcases Nat.lt_or_ge p l.length with h | h
  · exact h
  · rw [show l.getD p 0 = 0 by simp [List.getD, List.getElem?_eq_none h]] at h2; exact absurd h2 (by decide)
theorem dgl_yes' {l : List UInt8} {p : Nat} (h2 : isDg (l.getD p 0) = true) : dgl l p = l.getD p 0 :: dgl l (p + 1) := by
  have h := lt_of_dg h2
  rw [getD_in h] at h2 ⊢
  exact dgl_yes h h2
theorem dgEnd_yes {l : List UInt8} {p : Nat} (h2 : isDg (l.getD p 0) = true) : dgEnd l p = dgEnd l (p + 1) := by
  unfold dgEnd dgn; rw [dgl_yes' h2, List.length_cons]; omega
theorem dgEnd_no {l : List UInt8} {p : Nat} (h2 : isDg (l.getD p 0) = false) : dgEnd l p = p := by unfold dgEnd dgn; rw [dgl_no' h2]; rfl
theorem takeWhile_len_le {α : Type} (f : α → Bool) : ∀ l : List α, (l.takeWhile f).length ≤ l.length
  | [] => Nat.le_refl _
  | a :: l => by
    have := takeWhile_len_le f l
    rw [List.takeWhile_cons]
    split <;> simp <;> omega
theorem dgn_le (l : List UInt8) (p : Nat) : dgn l p ≤ l.length - p := by
  unfold dgn dgl
  have := takeWhile_len_le isDg (l.drop p)
  rw [List.length_drop] at this
  exact this
theorem dgEnd_le {l : List UInt8} {p : Nat} (h : p ≤ l.length) : dgEnd l p ≤ l.length := by have := dgn_le l p; unfold dgEnd; omega
theorem takeWhile_take {α : Type} (f : α → Bool) : ∀ l : List α, l.take (l.takeWhile f).length = l.takeWhile f
  | [] => rfl
  | a :: l => by
    rw [List.takeWhile_cons]
    split
    · rw [List.length_cons, List.take_succ_cons, takeWhile_take f l]
    · rfl
theorem dgl_take (l : List UInt8) (p : Nat) : (l.drop p).take (dgn l p) = dgl l p := takeWhile_take isDg (l.drop p)
theorem dgl_all {l : List UInt8} {p : Nat} : ∀ c ∈ dgl l p, isDg c = true := by
  intro c hc
  have h : ∀ (m : List UInt8), ∀ c ∈ m.takeWhile isDg, isDg c = true := by
    intro m
    induction m with
    | nil => intro c hc; cases hc
    | cons a m ih =>
      intro c hc
      rw [List.takeWhile_cons] at hc
      split at hc
      · rename_i h
        rcases List.mem_cons.1 hc with rfl | hc
        · exact h
        · exact ih c hc
      · cases hc
  exact h _ c hc
theorem extractL (s : ByteArray) (a b : Nat) : (s.extract a b) = ⟨((s.data.toList.drop a).take (b - a)).toArray⟩ := by
  apply ByteArray.ext
  rw [ByteArray.data_extract]
  apply Array.toList_inj.1
  simp [List.extract_eq_take_drop]
theorem dgl_extract (s : ByteArray) (p : Nat) : s.extract p (dgEnd s.data.toList p) = ⟨(dgl s.data.toList p).toArray⟩ := by
  rw [extractL, show dgEnd s.data.toList p - p = dgn s.data.toList p by unfold dgEnd; omega, dgl_take]
/-- The number that digits make. -/
def valD (D : List UInt8) : Nat := D.foldl (fun n c => 10 * n + (c.toNat - 48)) 0
theorem valD_snoc (D : List UInt8) (c : UInt8) : valD (D ++ [c]) = 10 * valD D + (c.toNat - 48) := by unfold valD; rw [List.foldl_append]; rfl
theorem valD_nil : valD [] = 0 := rfl
/-- How many digits count: those behind the noughts at the head. -/
def sigN (D : List UInt8) : Nat := (D.dropWhile (· == 48)).length
theorem sigN_nil : sigN [] = 0 := rfl
theorem dropWhile_snoc (c : UInt8) : ∀ D : List UInt8, (D ++ [c]).dropWhile (· == 48) = if (D.dropWhile (· == 48)) = [] then (if (c == 48) = true then [] else [c]) else D.dropWhile (· == 48) ++ [c]
  | [] => by
    rw [List.nil_append, List.dropWhile_nil, if_pos rfl, List.dropWhile_cons]
    rfl
  | a :: D => by
    rw [List.cons_append, List.dropWhile_cons, List.dropWhile_cons]
    by_cases h : (a == 48) = true
    · rw [if_pos h, if_pos h, dropWhile_snoc c D]
    · rw [if_neg h, if_neg h, if_neg (by simp)]; rfl
theorem sigN_snoc (D : List UInt8) (c : UInt8) : sigN (D ++ [c]) = if c ≠ 48 ∨ 0 < sigN D then sigN D + 1 else sigN D := by
  unfold sigN
  rw [dropWhile_snoc]
  by_cases h : (D.dropWhile (· == 48)) = []
  · rw [if_pos h, h]
    by_cases h2 : c = 48
    · subst h2; rw [if_pos (by decide), if_neg (by simp)]
    · rw [if_neg (by simpa using h2), if_pos (.inl h2)]; rfl
  · rw [if_neg h]
    have : 0 < (D.dropWhile (· == 48)).length := List.length_pos_iff.2 h
    rw [if_pos (.inr this), List.length_append]; rfl
theorem sigN_le_snoc (D : List UInt8) (c : UInt8) : sigN D ≤ sigN (D ++ [c]) := by rw [sigN_snoc]; split <;> omega
theorem sigN_app (D : List UInt8) : ∀ E : List UInt8, sigN D ≤ sigN (D ++ E) := by
  intro E
  induction E generalizing D with
  | nil => rw [List.append_nil]; exact Nat.le_refl _
  | cons c E ih =>
    have h1 := sigN_le_snoc D c
    have h2 := ih (D ++ [c])
    rw [List.append_assoc, List.singleton_append] at h2
    omega
theorem sigN_take (D : List UInt8) (k : Nat) : sigN (D.take k) ≤ sigN D := by
  have := sigN_app (D.take k) (D.drop k)
  rwa [List.take_append_drop] at this
theorem list_snoc {α : Type} (l : List α) (h : l ≠ []) : ∃ m a, l = m ++ [a] := ⟨l.dropLast, l.getLast h, (List.dropLast_concat_getLast h).symm⟩
theorem snoc_ind {α : Type} {P : List α → Prop} (h0 : P []) (h1 : ∀ l a, P l → P (l ++ [a])) : ∀ l, P l := by
  have h : ∀ (n : Nat) (l : List α), l.length = n → P l := by
    intro n
    induction n with
    | zero => intro l hl; obtain rfl := List.eq_nil_of_length_eq_zero hl; exact h0
    | succ n ih =>
      intro l hl
      obtain ⟨m, a, rfl⟩ := list_snoc l (by intro e; subst e; simp at hl)
      exact h1 m a (ih m (by simpa using hl))
  exact fun l => h l.length l rfl
/-- A number is less than ten to the count of its digits. -/
theorem valD_lt (D : List UInt8) (h : ∀ c ∈ D, isDg c = true) : valD D < 10 ^ sigN D := by
  induction D using snoc_ind with
  | h0 => decide
  | h1 D c ih =>
    have ih := ih (fun c hc => h c (List.mem_append_left _ hc))
    have hc := (isDg_iff c).1 (h c (by simp))
    rw [valD_snoc, sigN_snoc]
    by_cases h2 : c ≠ 48 ∨ 0 < sigN D
    · rw [if_pos h2, Nat.pow_succ]; omega
    · rw [if_neg h2]
      have e0 : sigN D = 0 := by omega
      have ec : c = 48 := by
        cases hd : decide (c = 48) with
        | true => exact of_decide_eq_true hd
        | false => exact absurd (.inl (of_decide_eq_false hd)) h2
      rw [e0] at ih ⊢
      subst ec
      have : (48 : UInt8).toNat = 48 := rfl
      omega
theorem valD_big {D : List UInt8} (h : ∀ c ∈ D, isDg c = true) (hs : sigN D ≤ 17) : valD D < 100000000000000000 :=
  Nat.lt_of_lt_of_le (valD_lt D h) (Nat.pow_le_pow_right (by decide) hs)
theorem valD_small {D : List UInt8} (h : ∀ c ∈ D, isDg c = true) (hs : sigN D ≤ 3) : valD D < 1000 :=
  Nat.lt_of_lt_of_le (valD_lt D h) (Nat.pow_le_pow_right (by decide) hs)
theorem sigN_len (D : List UInt8) : sigN D ≤ D.length := by unfold sigN; exact (List.dropWhile_sublist _).length_le
theorem decFrom_val : ∀ (D : List UInt8) (a : Nat), (∀ c ∈ D, isDg c = true) → Lib.decFrom a D = some (D.foldl (fun n c => 10 * n + (c.toNat - 48)) a)
  | [], a, _ => rfl
  | c :: D, a, h => by
    have hc := (isDg_iff c).1 (h c (by simp))
    unfold Lib.decFrom Lib.digitVal
    rw [if_pos hc]
    simp only []
    rw [decFrom_val D _ (fun c hc => h c (List.mem_cons_of_mem _ hc)), List.foldl_cons]
    congr 2
    omega
theorem foldl_skip : ∀ (D : List UInt8), (D.dropWhile (· == 48)).foldl (fun n c => 10 * n + (c.toNat - 48)) 0 = D.foldl (fun n c => 10 * n + (c.toNat - 48)) 0
  | [] => rfl
  | c :: D => by
    rw [List.dropWhile_cons]
    by_cases h : (c == 48) = true
    · rw [if_pos h, foldl_skip D, List.foldl_cons]
      have : c = 48 := by simpa using h
      subst this
      rfl
    · rw [if_neg h]
theorem valD_skip (D : List UInt8) : valD (D.dropWhile (· == 48)) = valD D := foldl_skip D
theorem atoi_digits {D : List UInt8} (h : ∀ c ∈ D, isDg c = true) (hne : D ≠ []) : Lib.atoi D = some (valD D : Int) := by
  match D, hne with
  | c :: D, _ =>
    have hc := (isDg_iff c).1 (h c (by simp))
    unfold Lib.atoi
    have e1 : (c == 45) = false := by
      cases hd : (c == 45) with
      | false => rfl
      | true => have : c = 45 := by simpa using hd
                subst this; exact absurd hc.1 (by decide)
    have e2 : (c == 43) = false := by
      cases hd : (c == 43) with
      | false => rfl
      | true => have : c = 43 := by simpa using hd
                subst this; exact absurd hc.1 (by decide)
    show (if (c == 45) = true then _ else if (c == 43) = true then _ else Option.map (fun (m : Nat) => (m : Int)) (Lib.decNat (c :: D))) = _
    rw [if_neg (by rw [e1]; decide), if_neg (by rw [e2]; decide)]
    unfold Lib.decNat
    rw [if_neg (by simp), decFrom_val _ _ h]
    rfl
abbrev NumR := Int × Int × Int × Int
def badN (p : Nat) : NumR := (0, 0, (p : Int), 1)
def sgn (neg : Bool) (n : Nat) : Int := if neg = true then -(n : Int) else (n : Int)
/-- What digits D, a fraction of f digits, an exponent's digits E make; q: the end. -/
def numZ (neg : Bool) (D : List UInt8) (f : Nat) (down : Bool) (E : List UInt8) (q : Nat) : NumR :=
  if 17 < sigN D ∨ 3 < E.length then (0, 0, (q : Int), 2) else (sgn neg (valD D), sgn down (valD E) - (f : Int), (q : Int), 0)
/-- Where the exponent's digits begin. -/
def expAt (l : List UInt8) (q : Nat) : Nat := if l.getD (q + 1) 0 = 43 ∨ l.getD (q + 1) 0 = 45 then q + 2 else q + 1
def numE (l : List UInt8) (neg : Bool) (D : List UInt8) (f : Nat) (q : Nat) : NumR :=
  if l.getD q 0 = 101 ∨ l.getD q 0 = 69 then
    (if dgl l (expAt l q) = [] then badN (expAt l q) else numZ neg D f (l.getD (q + 1) 0 == 45) (dgl l (expAt l q)) (dgEnd l (expAt l q)))
  else numZ neg D f false [] q
def numF (l : List UInt8) (neg : Bool) (W : List UInt8) (q : Nat) : NumR :=
  if l.getD q 0 = 46 then (if dgl l (q + 1) = [] then badN (q + 1) else numE l neg (W ++ dgl l (q + 1)) (dgn l (q + 1)) (dgEnd l (q + 1)))
  else numE l neg W 0 q
def numW (l : List UInt8) (neg : Bool) (p : Nat) : NumR :=
  if dgl l p = [] then badN p else if l.getD p 0 = 48 then numF l neg [48] (p + 1) else numF l neg (dgl l p) (dgEnd l p)
def numbP (l : List UInt8) (p : Nat) : NumR := if l.getD p 0 = 45 then numW l true (p + 1) else numW l false p
def retN (r : NumR) : Ending := .returned (.tuple #[.int .i64 r.1, .int .i64 r.2.1, .int .i64 r.2.2.1, .int .i64 r.2.2.2])
theorem retN_eq {a b c d a' b' c' d' : Int} (h1 : a = a') (h2 : b = b') (h3 : c = c') (h4 : d = d') : Ending.returned (.tuple #[.int .i64 a, .int .i64 b, .int .i64 c, .int .i64 d]) = retN (a', b', c', d') := by rw [h1, h2, h3, h4]; rfl
theorem dgl_ne {l : List UInt8} {p : Nat} (h : dgl l p ≠ []) : isDg (l.getD p 0) = true := by
  cases hd : isDg (l.getD p 0) with
  | true => rfl
  | false => exact absurd (dgl_no' hd) h
theorem dgn_pos {l : List UInt8} {p : Nat} (h : dgl l p ≠ []) : p < dgEnd l p := by
  have : 0 < (dgl l p).length := List.length_pos_iff.2 h
  unfold dgEnd dgn; omega
theorem numZ_ok (neg : Bool) (D : List UInt8) (f : Nat) (down : Bool) (E : List UInt8) (q : Nat) (hD : ∀ c ∈ D, isDg c = true) (hE : ∀ c ∈ E, isDg c = true) (N : Nat) (hf : f ≤ N) (hN : N ≤ 1073741824) (hq : q ≤ N) :
    (numZ neg D f down E q).2.2.1 = (q : Int) ∧ (-100000000000000000 < (numZ neg D f down E q).1 ∧ (numZ neg D f down E q).1 < 100000000000000000) ∧ (-2000000000 < (numZ neg D f down E q).2.1 ∧ (numZ neg D f down E q).2.1 < 2000000000) := by
  unfold numZ
  by_cases h : 17 < sigN D ∨ 3 < E.length
  · rw [if_pos h]; simp
  · rw [if_neg h]
    have h1 := valD_big hD (by omega)
    have h2 := valD_small hE (by have := sigN_len E; omega)
    unfold sgn
    refine ⟨rfl, ⟨?_, ?_⟩, ?_, ?_⟩ <;> (simp only []; split <;> omega)
end Go.Proofs.YtceijgaocjghcaaGreatDoor
