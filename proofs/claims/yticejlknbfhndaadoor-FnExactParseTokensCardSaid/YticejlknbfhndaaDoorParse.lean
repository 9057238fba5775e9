/- ParseTokens: what is read of tokens, plain; the small contracts. -/
import Derived.Test.YticejlknbfhndaaDoorDecNew
import Derived.Test.YticejlknbfhndaaDoorToks
import Derived.Test.YticejlknbfhndaaDoorCopy
import Derived.Test.YticejlknbfhndaaDoorEvery
set_option linter.unusedVariables false
set_option maxRecDepth 100000
set_option linter.unusedSimpArgs false
namespace Go.Proofs.YticejlknbfhndaaDoor
open Go.RowKit

/-- A value without elements. -/
def leafTr (k n x : Int) (s : ByteArray) : Tr := ⟨k, n, x, s, []⟩
def signAt (l : List Tk) (p : Nat) (c : ByteArray) : Prop := ∃ t, l[p]? = some t ∧ t.k = 1 ∧ t.s = c
noncomputable def signB (l : List Tk) (p : Nat) (c : ByteArray) : Bool := @decide (signAt l p c) (Classical.propDecidable _)
/-- What is read: a tree and the place behind it, or a code. -/
inductive Rd where
  | good (t : Tr) (at_ : Nat)
  | bad (c : Int)
inductive RdL where
  | good (l : List Tr) (at_ : Nat)
  | bad (c : Int)
def numT (n x : Int) : Tr := if x = 0 then leafTr 3 n 0 ⟨#[]⟩ else leafTr 6 n x ⟨#[]⟩
def numTr (n x : Int) : Option Tr := match decNew n x with
  | none => none
  | some p => some (numT p.1 p.2)
def nullS : ByteArray := ⟨#[110, 117, 108, 108]⟩
def trueS : ByteArray := ⟨#[116, 114, 117, 101]⟩
def falseS : ByteArray := ⟨#[102, 97, 108, 115, 101]⟩
/-- A value that is one token. -/
def leafRd (t : Tk) (p : Nat) : Rd :=
  if t.k = 2 then .good (leafTr 7 0 0 t.s) (p + 1)
  else if t.k = 3 then (match numTr t.n t.x with | none => .bad 2 | some u => .good u (p + 1))
  else if t.k = 4 ∧ t.s = nullS then .good (leafTr 1 0 0 ⟨#[]⟩) (p + 1)
  else if t.k = 4 ∧ t.s = trueS then .good (leafTr 2 1 0 ⟨#[]⟩) (p + 1)
  else if t.k = 4 ∧ t.s = falseS then .good (leafTr 2 0 0 ⟨#[]⟩) (p + 1)
  else .bad 1
/-- A name and a colon. -/
noncomputable def nameRd (l : List Tk) (p : Nat) : Option Tr := match l[p]? with
  | none => none
  | some t => if t.k = 2 ∧ signB l (p + 1) ⟨#[58]⟩ = true then some (leafTr 7 0 0 t.s) else none
mutual
noncomputable def pV (l : List Tk) : Nat → Int → Nat → Rd
  | 0, _, _ => .bad 1
  | f + 1, d, p =>
    if d < 1 then .bad 2
    else match l[p]? with
      | none => .bad 1
      | some t =>
        if signB l p ⟨#[91]⟩ = true then
          (if signB l (p + 1) ⟨#[93]⟩ = true then .good (leafTr 9 0 0 ⟨#[]⟩) (p + 2)
           else match pM l f 9 ⟨#[93]⟩ d (p + 1) [] with | .bad c => .bad c | .good m q => .good ⟨9, 0, 0, ⟨#[]⟩, m⟩ q)
        else if signB l p ⟨#[123]⟩ = true then
          (if signB l (p + 1) ⟨#[125]⟩ = true then .good (leafTr 10 0 0 ⟨#[]⟩) (p + 2)
           else match pM l f 10 ⟨#[125]⟩ d (p + 1) [] with | .bad c => .bad c | .good m q => .good ⟨10, 0, 0, ⟨#[]⟩, m⟩ q)
        else leafRd t p
noncomputable def pM (l : List Tk) : Nat → Int → ByteArray → Int → Nat → List Tr → RdL
  | 0, _, _, _, _, _ => .bad 1
  | f + 1, k, sh, d, p, acc =>
    if k = 10 then
      (match nameRd l p with
       | none => .bad 1
       | some nm => match pV l f (d - 1) (p + 2) with
         | .bad c => .bad c
         | .good v q => if signB l q ⟨#[44]⟩ = true then pM l f k sh d (q + 1) (acc ++ [nm, v]) else if signB l q sh = true then .good (acc ++ [nm, v]) (q + 1) else .bad 1)
    else
      (match pV l f (d - 1) p with
       | .bad c => .bad c
       | .good v q => if signB l q ⟨#[44]⟩ = true then pM l f k sh d (q + 1) (acc ++ [v]) else if signB l q sh = true then .good (acc ++ [v]) (q + 1) else .bad 1)
end
/-- All tokens as one tree. -/
noncomputable def parseT (l : List Tk) (d : Int) : Rd := match pV l (2 * l.length + 1) d 0 with
  | .bad c => .bad c
  | .good t q => if q = l.length then .good t q else .bad 1
theorem i_IntVal (n : Int) (w : World) : Calls Tryd.prog 132 #[.int .i64 n] w fun r w' => r = .returned (trV (leafTr 3 n 0 ⟨#[]⟩) ⟨none, 0, 0, []⟩) ∧ Below w.heap.size w w' := by
  go_enter Tryd.func132, Tryd.ntmps132
  go_wp2_with fail
  exact bodyPost_ret (results_blk Tryd.results132 Tryd.isAgg29 (by exact Tryd.sizeOf29) rfl (Blk.new w _ _)) rfl ⟨rfl, Below.one _ _⟩
theorem s_IntVal (n : Int) (w : World) : Calls Tryd.prog 124 #[.int .i64 n] w fun r w' => r = .returned (trV (leafTr 3 n 0 ⟨#[]⟩) ⟨none, 0, 0, []⟩) ∧ Below w.heap.size w w' := by
  go_enter Tryd.func124, Tryd.ntmps124
  go_wp2_with fail
  exact bodyPost_ret (results_blk Tryd.results124 Tryd.isAgg29 (by exact Tryd.sizeOf29) rfl (Blk.new w _ _)) rfl ⟨rfl, Below.one _ _⟩
theorem i_TextVal (s : ByteArray) (w : World) : Calls Tryd.prog 130 #[.string s] w fun r w' => r = .returned (trV (leafTr 7 0 0 s) ⟨none, 0, 0, []⟩) ∧ Below w.heap.size w w' := by
  go_enter Tryd.func130, Tryd.ntmps130
  go_wp2_with fail
  exact bodyPost_ret (results_blk Tryd.results130 Tryd.isAgg29 (by exact Tryd.sizeOf29) rfl (Blk.new w _ _)) rfl ⟨rfl, Below.one _ _⟩
theorem s_TextVal (s : ByteArray) (w : World) : Calls Tryd.prog 85 #[.string s] w fun r w' => r = .returned (trV (leafTr 7 0 0 s) ⟨none, 0, 0, []⟩) ∧ Below w.heap.size w w' := by
  go_enter Tryd.func85, Tryd.ntmps85
  go_wp2_with fail
  exact bodyPost_ret (results_blk Tryd.results85 Tryd.isAgg29 (by exact Tryd.sizeOf29) rfl (Blk.new w _ _)) rfl ⟨rfl, Below.one _ _⟩
set_option maxHeartbeats 1000000 in
theorem i_NumberVal (n x : Int) (w : World) : Calls Tryd.prog 91 #[.agg #[.int .i64 n, .int .i64 x]] w fun r w' => r = .returned (trV (numT n x) ⟨none, 0, 0, []⟩) ∧ Below w.heap.size w w' := by
  have k2 := Below.two w (.cells #[.int .i64 n, .int .i64 x] 79) (.cells #[.int .i64 0, .int .i64 0, .int .i64 0, .string ⟨#[]⟩, .slice none 0 0] 29)
  have hZ : Blk ((w.alloc (.cells #[.int .i64 n, .int .i64 x] 79)).alloc (.cells #[.int .i64 0, .int .i64 0, .int .i64 0, .string ⟨#[]⟩, .slice none 0 0] 29)) (w.heap.size + 1) 29 #[.int .i64 0, .int .i64 0, .int .i64 0, .string ⟨#[]⟩, .slice none 0 0] := by
    simpa using Blk.new (w.alloc (.cells #[.int .i64 n, .int .i64 x] 79)) 29 #[.int .i64 0, .int .i64 0, .int .i64 0, .string ⟨#[]⟩, .slice none 0 0]
  by_cases hx : x = 0
  · subst hx
    have e : numT n 0 = leafTr 3 n 0 ⟨#[]⟩ := by unfold numT; rw [if_pos rfl]
    rw [e]
    clear e
    have hiv := fun w1 => i_IntVal n w1
    generalize leafTr 3 n 0 ⟨#[]⟩ = u at hiv ⊢
    go_enter Tryd.func91, Tryd.ntmps91
    go_wp2_with (go_at_call 132; refine (hiv _).mono ?_; rintro r w1 ⟨rfl, hb1⟩; have BZ := hZ.below hb1 hZ.lt; obtain ⟨x0, x1, x2, x3, x4, ⟨s0, t0⟩, ⟨s1, t1⟩, ⟨s2, t2⟩, ⟨s3, t3⟩, s4, t4⟩ := BZ.five (o := 0) (by simp) (.int .i64 u.k) (.int .i64 u.n) (.int .i64 u.x) (.string u.s))
    have hblk : Blk (set5 w1 (w.heap.size + 1) 0 u ⟨none, 0, 0, []⟩) (w.heap.size + 1) 29 _ := Blk.five_ BZ u ⟨none, 0, 0, []⟩
    have r3 : Below w.heap.size w (set5 w1 (w.heap.size + 1) 0 u ⟨none, 0, 0, []⟩) := below_set5 (k2.up hb1) (by omega)
    exact bodyPost_ret (results_blk Tryd.results91 Tryd.isAgg29 (by exact Tryd.sizeOf29) rfl hblk) rfl ⟨rfl, r3⟩
  · have hz : (x == 0) = false := by simpa using hx
    have e : numT n x = leafTr 6 n x ⟨#[]⟩ := by unfold numT; rw [if_neg hx]
    rw [e]
    clear e hx
    have hZ2 : Blk ((w.alloc (.cells #[.int .i64 n, .int .i64 x] 79)).alloc (.cells #[.int .i64 6, .int .i64 n, .int .i64 x, .string ⟨#[]⟩, .slice none 0 0] 29)) (w.heap.size + 1) 29 #[.int .i64 6, .int .i64 n, .int .i64 x, .string ⟨#[]⟩, .slice none 0 0] := by
      simpa using Blk.new (w.alloc (.cells #[.int .i64 n, .int .i64 x] 79)) 29 #[.int .i64 6, .int .i64 n, .int .i64 x, .string ⟨#[]⟩, .slice none 0 0]
    go_enter Tryd.func91, Tryd.ntmps91
    go_wp2_with fail
    exact bodyPost_ret (results_blk Tryd.results91 Tryd.isAgg29 (by exact Tryd.sizeOf29) rfl hZ2) rfl ⟨rfl, Below.two _ _ _⟩
set_option maxHeartbeats 1000000 in
theorem s_NumberVal (n x : Int) (w : World) : Calls Tryd.prog 87 #[.agg #[.int .i64 n, .int .i64 x]] w fun r w' => r = .returned (trV (numT n x) ⟨none, 0, 0, []⟩) ∧ Below w.heap.size w w' := by
  have k2 := Below.two w (.cells #[.int .i64 n, .int .i64 x] 79) (.cells #[.int .i64 0, .int .i64 0, .int .i64 0, .string ⟨#[]⟩, .slice none 0 0] 29)
  have hZ : Blk ((w.alloc (.cells #[.int .i64 n, .int .i64 x] 79)).alloc (.cells #[.int .i64 0, .int .i64 0, .int .i64 0, .string ⟨#[]⟩, .slice none 0 0] 29)) (w.heap.size + 1) 29 #[.int .i64 0, .int .i64 0, .int .i64 0, .string ⟨#[]⟩, .slice none 0 0] := by
    simpa using Blk.new (w.alloc (.cells #[.int .i64 n, .int .i64 x] 79)) 29 #[.int .i64 0, .int .i64 0, .int .i64 0, .string ⟨#[]⟩, .slice none 0 0]
  by_cases hx : x = 0
  · subst hx
    have e : numT n 0 = leafTr 3 n 0 ⟨#[]⟩ := by unfold numT; rw [if_pos rfl]
    rw [e]
    clear e
    have hiv := fun w1 => s_IntVal n w1
    generalize leafTr 3 n 0 ⟨#[]⟩ = u at hiv ⊢
    go_enter Tryd.func87, Tryd.ntmps87
    go_wp2_with (go_at_call 124; refine (hiv _).mono ?_; rintro r w1 ⟨rfl, hb1⟩; have BZ := hZ.below hb1 hZ.lt; obtain ⟨x0, x1, x2, x3, x4, ⟨s0, t0⟩, ⟨s1, t1⟩, ⟨s2, t2⟩, ⟨s3, t3⟩, s4, t4⟩ := BZ.five (o := 0) (by simp) (.int .i64 u.k) (.int .i64 u.n) (.int .i64 u.x) (.string u.s))
    have hblk : Blk (set5 w1 (w.heap.size + 1) 0 u ⟨none, 0, 0, []⟩) (w.heap.size + 1) 29 _ := Blk.five_ BZ u ⟨none, 0, 0, []⟩
    have r3 : Below w.heap.size w (set5 w1 (w.heap.size + 1) 0 u ⟨none, 0, 0, []⟩) := below_set5 (k2.up hb1) (by omega)
    exact bodyPost_ret (results_blk Tryd.results87 Tryd.isAgg29 (by exact Tryd.sizeOf29) rfl hblk) rfl ⟨rfl, r3⟩
  · have hz : (x == 0) = false := by simpa using hx
    have e : numT n x = leafTr 6 n x ⟨#[]⟩ := by unfold numT; rw [if_neg hx]
    rw [e]
    clear e hx
    have hZ2 : Blk ((w.alloc (.cells #[.int .i64 n, .int .i64 x] 79)).alloc (.cells #[.int .i64 6, .int .i64 n, .int .i64 x, .string ⟨#[]⟩, .slice none 0 0] 29)) (w.heap.size + 1) 29 #[.int .i64 6, .int .i64 n, .int .i64 x, .string ⟨#[]⟩, .slice none 0 0] := by
      simpa using Blk.new (w.alloc (.cells #[.int .i64 n, .int .i64 x] 79)) 29 #[.int .i64 6, .int .i64 n, .int .i64 x, .string ⟨#[]⟩, .slice none 0 0]
    go_enter Tryd.func87, Tryd.ntmps87
    go_wp2_with fail
    exact bodyPost_ret (results_blk Tryd.results87 Tryd.isAgg29 (by exact Tryd.sizeOf29) rfl hZ2) rfl ⟨rfl, Below.two _ _ _⟩
theorem enters_decimal : EntersF 52 := enters_of Tryd.func52 (by kernel_rfl) rfl
def decOf (n x : Int) : Tr × Bool := match decNew n x with
  | none => (leafTr 3 0 0 ⟨#[]⟩, false)
  | some p => (numT p.1 p.2, true)
set_option maxHeartbeats 1000000 in
theorem i_decimal (n x : Int) (w : World) (hnb : -9223372036854775808 ≤ n ∧ n ≤ 9223372036854775807) (hxb : -9223372036854775808 ≤ x ∧ x ≤ 9223372036854775807) (hP : PowT w) :
    Calls Tryd.prog 52 #[.int .i64 n, .int .i64 x] w fun r w' => r = .returned (.tuple #[trV (decOf n x).1 ⟨none, 0, 0, []⟩, .bool (decOf n x).2]) ∧ Below w.heap.size w w' := by
  have K := Below.one w (.cells #[.int .i64 0, .int .i64 0, .int .i64 0, .string ⟨#[]⟩, .slice none 0 0] 29)
  have hR := Blk.new w 29 #[.int .i64 0, .int .i64 0, .int .i64 0, .string ⟨#[]⟩, .slice none 0 0]
  have hdn := fun w1 (hb : Below w.heap.size w w1) => i_DecNew n x w1 hnb hxb (hP.below hb)
  obtain ⟨a, b, ok, hv⟩ : ∃ a b ok, decV (decNew n x) = .tuple #[.agg #[.int .i64 a, .int .i64 b], .bool ok] ∧ (numT a b, ok) = decOf n x := by
    unfold decOf decV
    cases decNew n x with
    | none => exact ⟨0, 0, false, rfl, rfl⟩
    | some p => exact ⟨p.1, p.2, true, rfl, rfl⟩
  rw [← hv.2]
  unfold DecNewAt at hdn
  rw [hv.1] at hdn
  clear hv
  simp only
  obtain ⟨u, hu⟩ : ∃ u, numT a b = u := ⟨_, rfl⟩
  have hnv := fun w1 => i_NumberVal a b w1
  rw [hu] at hnv ⊢
  clear hu
  go_enter Tryd.func52, Tryd.ntmps52
  go_wp2_with (first
    | (go_at_call 90; refine (hdn _ K).mono ?_; rintro r w1 ⟨rfl, hb1⟩; replace hR := hR.below hb1 hR.lt; replace K := K.up hb1; have z1 := hR.lt)
    | (go_at_call 91; refine (hnv _).mono ?_; rintro r w2 ⟨rfl, hb2⟩; have BZ := (hR.alloc (.cells #[.int .i64 a, .int .i64 b] 79)).below hb2 (by simp; omega); obtain ⟨x0, x1, x2, x3, x4, ⟨s0, t0⟩, ⟨s1, t1⟩, ⟨s2, t2⟩, ⟨s3, t3⟩, s4, t4⟩ := BZ.five (o := 0) (by simp) (.int .i64 u.k) (.int .i64 u.n) (.int .i64 u.x) (.string u.s)))
  have hblk : Blk (set5 w2 w.heap.size 0 u ⟨none, 0, 0, []⟩) w.heap.size 29 _ := Blk.five_ BZ u ⟨none, 0, 0, []⟩
  have hfin : Below w.heap.size w (set5 w2 w.heap.size 0 u ⟨none, 0, 0, []⟩) := below_set5 ((K.up (Below.one _ _)).up hb2) (Nat.le_refl _)
  have hres := fun (tm : Array Value) (hp : tm.getD 4 undef = .pointer (some ⟨w.heap.size, 0, none⟩)) => results_blk2 (P := Tryd.prog) (tmps := tm) Tryd.results52 Tryd.isAgg29 (by exact Tryd.sizeOf29) hp hblk
  refine bodyPost_ret (hres _ rfl) rfl ?_
  exact ⟨rfl, hfin⟩
end Go.Proofs.YticejlknbfhndaaDoor
