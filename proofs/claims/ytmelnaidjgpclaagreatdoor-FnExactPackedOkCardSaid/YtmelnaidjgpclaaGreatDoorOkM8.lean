/- FitsPacked: both sides. Written by gen/fits.py. PackPacked: impl and spec. WritePacked: both sides. Written by gen/writes.py. PackedOk: both sides, and the law. The law on PackedOk. -/
import Derived.Test.YtmelnaidjgpclaaGreatDoorOkM7
import Derived.Test.YtmelnaidjgpclaaGreatDoorMark
import Derived.Test.YtmelnaidjgpclaaGreatDoorMarkFor
import Derived.Test.YtmelnaidjgpclaaGreatDoorGr
import Derived.Test.YtmelnaidjgpclaaGreatDoorPutMark
import Derived.Deep.LoopGhost
import Derived.Test.YtmelnaidjgpclaaGreatDoorPkG2
import Derived.Test.YtmelnaidjgpclaaGreatDoorPkG0
import Derived.Test.YtmelnaidjgpclaaGreatDoorBs
import Derived.Deep.Cut
import Derived.Deep.CutBlock
import Derived.Deep.DeepCutAuto
import Derived.Deep.RegionLaw
import Derived.Deep.RegionHeld3
import Derived.BigRegion
import Derived.Deep.QuietTactic
import Derived.BigQuiet
set_option linter.unusedVariables false
set_option maxRecDepth 100000
set_option linter.unusedSimpArgs false
namespace Go.Proofs.YtmelnaidjgpclaaGreatDoor
open Go.RowKit

noncomputable def fitPackB (t : Tr) : Bool := !(t.k == 6) && (!(t.k == 11) && (onceL (namesT t) && markOk (markFor t.k t.n t.x t.s.size t.l.length).1 (markFor t.k t.n t.x t.s.size t.l.length).2))
theorem fitPack_no {t : Tr} (h : t.k = 6 ∨ t.k = 11) : fitPackB t = false := by unfold fitPackB; rcases h with h | h <;> simp [h]
theorem fitPack_yes {t : Tr} (h6 : ¬ t.k = 6) (h11 : ¬ t.k = 11) : fitPackB t = (onceL (namesT t) && markOk (markFor t.k t.n t.x t.s.size t.l.length).1 (markFor t.k t.n t.x t.s.size t.l.length).2) := by
  have a : (t.k == 6) = false := by simpa using h6
  have b : (t.k == 11) = false := by simpa using h11
  unfold fitPackB
  rw [a, b]
  rfl
set_option maxHeartbeats 1000000 in
theorem i_FitsPacked1 (t : Tr) (e : El) (w : World) (hF : Fit t) (hl : LsAt w t.l e) (hel : e.lt w.heap.size) (hT : TabUP w) :
    Calls Tryz.prog 61 #[trV t e] w fun r w' => r = .returned (.bool (fitPackB t)) ∧ Below w.heap.size w w' := by
  have kb := Below.one w (.cells (valCells t e) 28)
  have hB := Blk.new w 28 (valCells t e)
  have hoe := i_OnceEach t e _ hF (hl.below hel kb) (hel.mono kb.size)
  have hx := ((Tr.wf_iff t).1 hF.1).2.2.1.2
  have hno := @fitPack_no t
  have hyes := @fitPack_yes t
  have hen := hl.len
  have hm := hF.len
  rw [hen] at hm
  have hmf := fun w1 => i_MarkFor t.k t.n t.x t.s e.A e.n e.c w1 hx (by omega)
  rw [hen] at hyes
  have hmo := fun w1 => i_MarkOk (markFor t.k t.n t.x t.s.size e.n).1 (markFor t.k t.n t.x t.s.size e.n).2 w1
  clear hx hen hl hF hm
  by_cases h6 : t.k = 6
  · rw [hno (.inl h6)]
    have q6 : (t.k == 6) = true := by simpa using h6
    clear hno hyes hoe hmf hmo
    go_enter Tryz.func61, Tryz.ntmps61
    go_wp2_with fail
    go_ret
    exact ⟨rfl, Below.one _ _⟩
  by_cases h11 : t.k = 11
  · rw [hno (.inr h11)]
    have q6 : (t.k == 11) = true := by simpa using h11
    clear hno hyes hoe hmf hmo h6
    go_enter Tryz.func61, Tryz.ntmps61
    go_wp2_with fail
    go_ret
    exact ⟨rfl, Below.one _ _⟩
  rw [hyes h6 h11]
  have q6 : (t.k == 6) = false := by simpa using h6
  have q11 : (t.k == 11) = false := by simpa using h11
  have p6 : (t.k != 6) = true := by simpa using h6
  have p11 : (t.k != 11) = true := by simpa using h11
  generalize markOk (markFor t.k t.n t.x t.s.size e.n).1 (markFor t.k t.n t.x t.s.size e.n).2 = M at hmo
  generalize (markFor t.k t.n t.x t.s.size e.n).1 = m1 at hmf hmo
  generalize (markFor t.k t.n t.x t.s.size e.n).2 = m2 at hmf hmo
  clear hno hyes
  cases hq : onceL (namesT t) with
  | false =>
    rw [hq] at hoe
    clear hq hmf hmo
    go_enter Tryz.func61, Tryz.ntmps61
    go_wp2_with (go_at_call 62; refine hoe.mono ?_; rintro r w1 ⟨rfl, hb⟩)
    go_ret
    exact ⟨rfl, kb.up hb⟩
  | true =>
    rw [hq] at hoe
    clear hq
    go_enter Tryz.func61, Tryz.ntmps61
    go_wp2_with (first
      | (go_at_call 62; refine hoe.mono ?_; rintro r w1 ⟨rfl, hb⟩; obtain ⟨q0, q1, q2, q3, q4⟩ := (hB.below hb hB.lt).boxV)
      | (go_at_call 64; refine (hmf _).mono ?_; rintro r w2 ⟨rfl, hb2⟩)
      | (go_at_call 63; refine (hmo _).mono ?_; rintro r w3 ⟨rfl, hb3⟩))
    go_ret
    exact ⟨rfl, ((kb.up hb).up hb2).up hb3⟩
def LpSays (t : Tr) : Prop := Fit t → ∀ (e : El) (w : World), LsAt w t.l e → e.lt w.heap.size → TabUP w →
  Calls Tryz.prog 56 #[trV t e] w fun r w' => r = .returned (.bool (allT fitPackB t)) ∧ Below w.heap.size w w'
set_option maxHeartbeats 8000000 in
theorem s_l16Fits (t : Tr) : LpSays t := by
  refine Tr.ind (P := LpSays) (fun t ih => ?_) t
  intro hF e w hl hel hT
  have hwf := (Tr.wf_iff t).1 hF.1
  have hlen := hF.len
  have hsz := hF.size
  have hv := allT_eq fitPackB t
  have hkid := fun u hu => @Fit.kid t u hF hu
  have hF0 := hF
  obtain ⟨k, n, x, s, l⟩ := t
  obtain ⟨eA, en, ec, efp⟩ := e
  simp only at hwf hlen hsz hv hl ih hkid
  have hen : l.length = en := hl.len
  rw [hen] at hlen
  obtain ⟨hk, hn, hx, _, _⟩ := hwf
  obtain ⟨V, hV⟩ : ∃ V, allT fitPackB ⟨k, n, x, s, l⟩ = V := ⟨_, rfl⟩
  rw [hV] at hv ⊢
  obtain ⟨O, hO⟩ : ∃ O, fitPackB ⟨k, n, x, s, l⟩ = O := ⟨_, rfl⟩
  rw [hO] at hv
  have HO := Lib.hid hO
  have HV : Hid (V = (O && (l.drop 0).all (allT fitPackB))) := Lib.hid (by rw [List.drop_zero]; exact hv)
  have k1 := Below.one w (.cells #[.int .i64 k, .int .i64 n, .int .i64 x, .string s, .slice eA en ec] 28)
  have hB := Blk.new w 28 #[.int .i64 k, .int .i64 n, .int .i64 x, .string s, .slice eA en ec]
  clear hv hV hO
  go_enter Tryz.func56, Tryz.ntmps56
  go_wp2_with fail
  go_loopg [3] en (fun f z wr => ∃ j : Nat, j + f = en ∧ z = .int .i64 j ∧ Hid (V = (O && (l.drop j).all (allT fitPackB))) ∧ Blk wr w.heap.size 28 #[.int .i64 k, .int .i64 n, .int .i64 x, .string s, .slice eA en ec] ∧ Below w.heap.size w wr)
  case atStart => exact ⟨0, by omega, rfl, HV, hB, k1⟩
  case round =>
    obtain ⟨j, hjf, rfl, hH, hBr, hb⟩ := hrel
    clear HV hB k1
    have hz : w.heap.size < wr.heap.size := hBr.lt
    have p0 := hBr.cell 0
    have p1 := hBr.cell 1
    have p2 := hBr.cell 2
    have p3 := hBr.cell 3
    have p4 := hBr.cell 4
    by_cases hlt : j < en
    · obtain ⟨f, rfl⟩ : ∃ f, gk = f + 1 := ⟨gk - 1, by omega⟩
      obtain ⟨g, o, u, hj, hAe, hgm, ⟨c0, c1, c2, c3, c4⟩, hch, hsub⟩ := (hl.below hel hb).elem hlt
      have hAe : eA = some ⟨g, o, none⟩ := hAe
      subst hAe
      have hul : u.lt wr.heap.size := fun y hy => Nat.lt_of_lt_of_le (hel y (hsub y hy)) hb.size
      have hih := ih l[j] (List.getElem_mem hj) (hkid _ (List.getElem_mem hj)) u wr hch hul (hT.below hb)
      have hd : (l.drop j).all (allT fitPackB) = (allT fitPackB l[j] && (l.drop (j + 1)).all (allT fitPackB)) := by rw [List.drop_eq_getElem_cons hj]; rfl
      have hh := hH.out
      rw [hd] at hh
      have HH : Hid (V = (O && (allT fitPackB l[j] && (l.drop (j + 1)).all (allT fitPackB)))) := Lib.hid hh
      clear ih hch hd hh hH hkid hF hF0
      cases hq : allT fitPackB l[j] with
      | false =>
        rw [hq] at hih HH
        clear hq
        go_wp2_with (go_at_call 56; refine hih.mono ?_; rintro r w2 ⟨rfl, hb2⟩)
        go_ret
        exact ⟨ret_bool (by rw [HH.out]; simp), hb.up hb2⟩
      | true =>
        rw [hq] at hih HH
        clear hq
        have HH2 : Hid (V = (O && (l.drop (j + 1)).all (allT fitPackB))) := Lib.hid (by rw [HH.out]; simp)
        clear HH
        go_wp2_with (go_at_call 56; refine hih.mono ?_; rintro r w2 ⟨rfl, hb2⟩)
        go_roundg f
        case measure => omega
        case rel => exact ⟨j + 1, by omega, by go_num, HH2, hBr.below hb2 hz, hb.up hb2⟩
    · have hh := hH.out
      rw [List.drop_eq_nil_of_le (by omega)] at hh
      have hT2 := hT.below hb
      have HV : Hid (V = O) := Lib.hid (by rw [hh]; simp)
      have hl2 := hl.below hel hb
      have hel2 := hel.mono hb.size
      clear hh hH ih hT hkid hl hel
      have hjn : ¬ ((j : Int) < (en : Int)) := by omega
      have hoe := s_OnceEach ⟨k, n, x, s, l⟩ ⟨eA, en, ec, efp⟩ wr hF0 hl2 hel2
      have hno := @fitPack_no ⟨k, n, x, s, l⟩
      have hyes := @fitPack_yes ⟨k, n, x, s, l⟩
      simp only at hno hyes
      rw [hen] at hyes
      have hmf := fun w1 => s_MarkFor k n x s eA en ec w1 hx.2 (by omega)
      have hmo := fun w1 => s_MarkOk (markFor k n x s.size en).1 (markFor k n x s.size en).2 w1
      have hV2 := HV.out
      rw [← HO.out] at hV2
      clear HO HV hF hF0 hl2 hel2 hT2
      by_cases h6 : k = 6
      · rw [hno (.inl h6)] at hV2
        have HV2 := Lib.hid hV2
        have q6 : (k == 6) = true := by simpa using h6
        clear hno hyes hoe hmf hmo hV2
        go_wp2_with fail
        go_ret
        exact ⟨ret_bool HV2.out.symm, hb⟩
      by_cases h11 : k = 11
      · rw [hno (.inr h11)] at hV2
        have HV2 := Lib.hid hV2
        have q6 : (k == 11) = true := by simpa using h11
        clear hno hyes hoe hmf hmo h6 hV2
        go_wp2_with fail
        go_ret
        exact ⟨ret_bool HV2.out.symm, hb⟩
      rw [hyes h6 h11] at hV2
      have q6 : (k == 6) = false := by simpa using h6
      have q11 : (k == 11) = false := by simpa using h11
      have p6 : (k != 6) = true := by simpa using h6
      have p11 : (k != 11) = true := by simpa using h11
      generalize markOk (markFor k n x s.size en).1 (markFor k n x s.size en).2 = M at hmo hV2
      generalize (markFor k n x s.size en).1 = m1 at hmf hmo
      generalize (markFor k n x s.size en).2 = m2 at hmf hmo
      clear hno hyes
      generalize onceL (namesT ⟨k, n, x, s, l⟩) = R at hoe hV2
      have HV2 := Lib.hid hV2
      clear hV2
      cases R with
      | false =>
        clear hmf hmo
        go_wp2_with (go_at_call 98; refine hoe.mono ?_; rintro r w1 ⟨rfl, hb2⟩)
        go_ret
        exact ⟨ret_bool HV2.out.symm, hb.up hb2⟩
      | true =>
        go_wp2_with (first
          | (go_at_call 98; refine hoe.mono ?_; rintro r w1 ⟨rfl, hb2⟩; obtain ⟨c2, f2⟩ := bcell hb2)
          | (go_at_call 57; refine (hmf _).mono ?_; rintro r w2 ⟨rfl, hb3⟩)
          | (go_at_call 58; refine (hmo _).mono ?_; rintro r w3 ⟨rfl, hb4⟩))
        go_ret
        exact ⟨ret_bool (by rw [HV2.out]; rfl), ((hb.up hb2).up hb3).up hb4⟩
theorem enters_FitsPacked1 : EntersF 61 := enters_of Tryz.func61 (by kernel_rfl) rfl
noncomputable def fitsPacked (t : Tr) : Bool := valOk t && allT fitPackB t
theorem i_FitsPacked (t : Tr) (e : El) (w : World) (hF : Fit t) (hl : LsAt w t.l e) (hel : e.lt w.heap.size) (hT : TabUP w) :
    Calls Tryz.prog 29 #[trV t e] w fun r w' => r = .returned (.bool (fitsPacked t)) ∧ Below w.heap.size w w' := by
  have kb := Below.one w (.cells (valCells t e) 28)
  have hB := Blk.new w 28 (valCells t e)
  have hv := i_ValOk t e _ hF (hl.below hel kb) (hel.mono kb.size) (hT.below kb)
  have h := fun w2 (hb : Below w.heap.size w w2) => i_every 61 enters_FitsPacked1 enters_every1 fitPackB Fit TabUP (fun _ _ h hb => h.below hb) (fun _ _ h hu => h.kid hu) (fun u e w hu hl hel hT => i_FitsPacked1 u e w hu hl hel hT) t hF e w2 (hl.below hel hb) (hel.mono hb.size) (hT.below hb)
  unfold fitsPacked
  generalize allT fitPackB t = R at h
  cases hq : valOk t with
  | false =>
    rw [hq] at hv
    clear hq h
    go_enter Tryz.func29, Tryz.ntmps29
    go_wp2_with (go_at_call 45; refine hv.mono ?_; rintro r w1 ⟨rfl, hb⟩)
    go_ret
    exact ⟨rfl, kb.up hb⟩
  | true =>
    rw [hq] at hv
    clear hq
    go_enter Tryz.func29, Tryz.ntmps29
    go_wp2_with (first
      | (go_at_call 45; refine hv.mono ?_; rintro r w1 ⟨rfl, hb⟩; obtain ⟨q0, q1, q2, q3, q4⟩ := (hB.below hb hB.lt).boxV)
      | (go_at_call 46; refine (h _ (kb.up hb)).mono ?_; rintro r w2 ⟨rfl, hb2⟩))
    go_ret
    exact ⟨rfl, (kb.up hb).up hb2⟩
theorem s_FitsPacked (t : Tr) (e : El) (w : World) (hF : Fit t) (hl : LsAt w t.l e) (hel : e.lt w.heap.size) (hT : TabUP w) :
    Calls Tryz.prog 26 #[trV t e] w fun r w' => r = .returned (.bool (fitsPacked t)) ∧ Below w.heap.size w w' := by
  have kb := Below.one w (.cells (valCells t e) 28)
  have hB := Blk.new w 28 (valCells t e)
  have hv := s_ValOk t hF e _ (hl.below hel kb) (hel.mono kb.size) (hT.below kb)
  have h := fun w2 (hb : Below w.heap.size w w2) => s_l16Fits t hF e w2 (hl.below hel hb) (hel.mono hb.size) (hT.below hb)
  unfold fitsPacked
  generalize allT fitPackB t = R at h
  cases hq : valOk t with
  | false =>
    rw [hq] at hv
    clear hq h
    go_enter Tryz.func26, Tryz.ntmps26
    go_wp2_with (go_at_call 37; refine hv.mono ?_; rintro r w1 ⟨rfl, hb⟩)
    go_ret
    exact ⟨rfl, kb.up hb⟩
  | true =>
    rw [hq] at hv
    clear hq
    go_enter Tryz.func26, Tryz.ntmps26
    go_wp2_with (first
      | (go_at_call 37; refine hv.mono ?_; rintro r w1 ⟨rfl, hb⟩; obtain ⟨q0, q1, q2, q3, q4⟩ := (hB.below hb hB.lt).boxV)
      | (go_at_call 56; refine (h _ (kb.up hb)).mono ?_; rintro r w2 ⟨rfl, hb2⟩))
    go_ret
    exact ⟨rfl, (kb.up hb).up hb2⟩
end Go.Proofs.YtmelnaidjgpclaaGreatDoor

namespace Go.Proofs.YtmelnaidjgpclaaGreatDoor
open Go.RowKit

def packGo (k n x : Int) (s : ByteArray) (m : Nat) (ih : List (List UInt8)) : List UInt8 :=
  if markOk (markFor k n x s.size m).1 (markFor k n x s.size m).2 = true then
    markB (markFor k n x s.size m).1 (markFor k n x s.size m).2 ++ (if k = 7 ∨ k = 8 then s.data.toList else if k = 9 ∨ k = 10 then ih.flatten else [])
  else []
noncomputable def packT : Tr → List UInt8 := Tr.fold fun k n x s l ih => packGo k n x s l.length ih
noncomputable def packs (l : List Tr) (j : Nat) : List UInt8 := ((l.take j).map packT).flatten
theorem packT_eq (t : Tr) : packT t = packGo t.k t.n t.x t.s t.l.length (t.l.map packT) := by
  obtain ⟨k, n, x, s, l⟩ := t
  exact Tr.fold_mk _ _ _ _ _ _
theorem packs_zero (l : List Tr) : packs l 0 = [] := rfl
theorem packs_succ {l : List Tr} {j : Nat} (h : j < l.length) : packs l (j + 1) = packs l j ++ packT l[j] := by
  unfold packs
  rw [List.take_succ_eq_append_getElem h, List.map_append, List.flatten_append]; simp
theorem packs_all {l : List Tr} {j : Nat} (h : l.length ≤ j) : packs l j = (l.map packT).flatten := by unfold packs; rw [List.take_of_length_le h]
theorem ba_len (s : ByteArray) : s.data.toList.length = s.size := by simp
theorem flat_len {l : List Tr} (f : Tr → List UInt8) (h : ∀ u ∈ l, (f u).length ≤ 9 + 9 * u.sz) : ((l.map f).flatten).length ≤ 9 * szL l := by
  unfold szL
  induction l with
  | nil => simp
  | cons t l ih =>
    have h1 := h t List.mem_cons_self
    have h2 := ih fun u hu => h u (List.mem_cons_of_mem _ hu)
    simp only [List.map_cons, List.flatten_cons, List.length_append, List.length_cons, List.sum_cons]
    omega
theorem packT_len (t : Tr) : (packT t).length ≤ 9 + 9 * t.sz := by
  refine Tr.ind (P := fun t => (packT t).length ≤ 9 + 9 * t.sz) (fun t ih => ?_) t
  rw [packT_eq, t.sz_eq]
  have h1 := flat_len packT ih
  have h2 := ba_len t.s
  have h3 := markB_len (markFor t.k t.n t.x t.s.size t.l.length).1 (markFor t.k t.n t.x t.s.size t.l.length).2
  unfold packGo
  split
  · rw [List.length_append]
    (repeat' split) <;> (try simp only [List.length_nil]) <;> omega
  · simp
theorem packs_len (l : List Tr) (j : Nat) : (packs l j).length ≤ 9 * szL (l.take j) := flat_len packT fun u _ => packT_len u
theorem szL_take (l : List Tr) (j : Nat) (h : j ≤ l.length) : szL (l.take j) = j + szT l j := by
  unfold szL szT; rw [List.length_take, Nat.min_eq_left h]
theorem markFor_le {k n x : Int} {sl m : Nat} (hn : n ≤ 9223372036854775807) (hs : sl ≤ 9223372036854775807) (hm : m ≤ 9223372036854775807) : (markFor k n x sl m).2 ≤ 9223372036854775807 := by
  unfold markFor
  (repeat' split) <;> (try simp only) <;> try omega
  unfold fltBits
  split
  · rename_i h
    have := fltOk_bounds h
    split <;> omega
  · omega
theorem Blk.cells5v {w : World} {g : Nat} {T : TypeId} {a b c d e : Value} (h : Blk w g T #[a, b, c, d, e]) :
    w.cell? ⟨g, 0, none⟩ = some a ∧ w.cell? ⟨g, 1, none⟩ = some b ∧ w.cell? ⟨g, 2, none⟩ = some c ∧ w.cell? ⟨g, 3, none⟩ = some d ∧ w.cell? ⟨g, 4, none⟩ = some e := ⟨h.cell 0, h.cell 1, h.cell 2, h.cell 3, h.cell 4⟩
def PkSays (t : Tr) : Prop := ∀ (A : Option Addr) (m c : Nat) (b : List UInt8) (e : El) (lo : Nat) (w : World), t.wf → BS w lo A m c b → lo ≤ w.heap.size → LsAt w t.l e → e.lt lo → m + 9 + 9 * t.sz ≤ 17592186044416 →
  Calls Tryz.prog 65 #[.slice A m c, trV t e] w fun r w' => ∃ A' n' c', r = .returned (.slice A' n' c') ∧ BS w' lo A' n' c' (b ++ packT t) ∧ Gr A A' w w'
set_option maxHeartbeats 1600000 in
theorem i_appendPacked (t : Tr) : PkSays t := by
  refine Tr.ind (P := PkSays) (fun t ih => ?_) t
  intro A m c b e lo w hwf hA hlo hl hel hm
  have hw := (Tr.wf_iff t).1 hwf
  obtain ⟨eA, en, ec, efp⟩ := e
  have hen : t.l.length = en := hl.len
  have hsz := t.sz_eq
  have hx : t.x ≤ 9223372036854775807 := hw.2.2.1.2
  have hn9 : en ≤ 9223372036854775807 := by have := szT_le t.l 0; omega
  have hpk := packT_eq t
  unfold packGo at hpk
  obtain ⟨⟨p, q⟩, hp⟩ : ∃ x, markFor t.k t.n t.x t.s.size t.l.length = x := ⟨_, rfl⟩
  rw [hp] at hpk
  have hMF : ∀ w1, Calls Tryz.prog 64 #[.agg #[.int .i64 t.k, .int .i64 t.n, .int .i64 t.x, .string t.s, .slice eA en ec]] w1 fun r w' => r = .returned (.agg #[.int .i64 p, .int .i64 q]) ∧ Below w1.heap.size w1 w' := fun w1 =>
    (i_MarkFor t.k t.n t.x t.s eA en ec w1 hx hn9).mono fun r w' ⟨h1, h2⟩ => ⟨by rw [h1, ← hen, hp], h2⟩
  have hgA : w.heap.size ∉ blkOf A := fun h => Nat.lt_irrefl _ (hA.to_ _ h)
  cases hok : markOk p q
  · rw [hok, if_neg (by decide)] at hpk
    have HP := Lib.hid hpk; clear hpk ih hwf hw
    go_enter Tryz.func65, Tryz.ntmps65
    go_wp2_with (first | (go_at_call 64; refine (hMF _).mono ?_; rintro r w1 ⟨rfl, hb1⟩; have B1 : Blk w1 w.heap.size 28 _ := (Blk.new w _ _).below hb1 (by simp)) | (go_at_call 63; refine (i_MarkOk _ _ _).mono ?_; rintro r w2 ⟨rfl, hb2⟩))
    go_ret
    have hk := Below.up ((Below.one w _).up hb1) ((Below.one _ _).up hb2)
    exact ⟨_, _, _, rfl, by rw [HP.out, List.append_nil]; exact hA.below hk, Gr.of_below hk⟩
  · rw [if_pos (show markOk (p, q).1 (p, q).2 = true from hok)] at hpk
    have hpk : packT t = markB p q ++ (if t.k = 7 ∨ t.k = 8 then t.s.data.toList else if t.k = 9 ∨ t.k = 10 then (t.l.map packT).flatten else []) := hpk
    have hs9 : t.s.size ≤ 9223372036854775807 := hw.2.2.2.1
    have hq9 : q ≤ 9223372036854775807 := by
      have := markFor_le (k := t.k) (n := t.n) (x := t.x) (sl := t.s.size) (m := t.l.length) hw.2.1.2 hs9 (by omega)
      rw [hp] at this; exact this
    have hml := markB_len p q
    by_cases hk7 : t.k = 7 ∨ t.k = 8
    · rw [if_pos hk7] at hpk
      have HP := Lib.hid hpk; clear hpk ih hwf hw hp
      have hk8 : (t.k == 7) = true ∨ ((t.k == 7) = false ∧ (t.k == 8) = true) := by rcases hk7 with h | h <;> simp [h]
      clear hk7
      rcases hk8 with hk8 | ⟨hk8, hk9⟩
      all_goals
        go_enter Tryz.func65, Tryz.ntmps65
        go_wp2_with (first
        | (go_at_call 64; refine (hMF _).mono ?_; rintro r w1 ⟨rfl, hb1⟩; have B1 : Blk w1 w.heap.size 28 _ := (Blk.new w _ _).below hb1 (by simp))
        | (go_at_call 63; refine (i_MarkOk _ _ _).mono ?_; rintro r w2 ⟨rfl, hb2⟩; have B2 := (B1.alloc (.cells #[.int .i64 p, .int .i64 q] 63)).below hb2 (by have := B1.lt; simp; omega); obtain ⟨⟨m0, m1⟩, -⟩ := Blk.box2 ((Blk.new w1 63 #[.int .i64 p, .int .i64 q]).below hb2 (by simp)) (Below.refl _ _))
        | (go_at_call 107; refine (i_PutMark none 0 0 [] _ _ _ 0 (Sl.nil_ _ _ _) (Nat.zero_le _) (by decide) hq9).mono ?_; rintro r w3 ⟨A3, n3, c3, rfl, h3, hb3⟩; rw [List.nil_append] at h3; have hl3 := h3.len; have B3 := B2.below hb3 B2.lt; have k3 : Below w.heap.size w w3 := (Below.up ((Below.one w _).up hb1) ((Below.one _ _).up hb2)).up hb3; clear B1 B2 hb1 hb2 hb3)
        | (at_builtin; refine app_u8g rfl _ _ rfl (hA.below k3) rfl h3.sl rfl (by omega) (Nat.le_trans hlo k3.size) ?_; intro A4 c4 w4 h4 hg4; have B4 := hg4.blk B3 hgA; obtain ⟨v0, v1, v2, v3, v4⟩ := B4.cells5v; have g4 := (Gr.of_below k3).trans hg4; have z4 : lo ≤ w4.heap.size := Nat.le_trans hlo g4.size; clear h3 hg4 k3 B3)
        | (at_builtin; refine app_strg rfl _ _ rfl h4 rfl rfl (by omega) z4 ?_; intro A5 c5 w5 h5 hg5))
        go_ret
        exact ⟨_, _, _, rfl, by rw [HP.out, ← List.append_assoc]; exact h5, g4.trans hg5⟩
    rw [if_neg hk7] at hpk
    have f7 : (t.k == 7) = false := by simp; omega
    have f8 : (t.k == 8) = false := by simp; omega
    by_cases hk9 : t.k = 9 ∨ t.k = 10
    · rw [if_pos hk9] at hpk
      have hk8 : (t.k == 9) = true ∨ ((t.k == 9) = false ∧ (t.k == 10) = true) := by rcases hk9 with h | h <;> simp [h]
      have HP := Lib.hid hpk; clear hpk hwf hp hk7 hk9
      have hww := hw.2.2.2.2; clear hw
      have hcl : en ≤ ec ∧ ec ≤ maxLen := ⟨((lsAt_iff _ _).1 hl).2.1, ((lsAt_iff _ _).1 hl).2.2.1⟩
      rcases hk8 with hk8 | ⟨hk8, hk9⟩
      all_goals
        go_enter Tryz.func65, Tryz.ntmps65
        go_wp2_with (first
        | (go_at_call 64; refine (hMF _).mono ?_; rintro r w1 ⟨rfl, hb1⟩; have B1 : Blk w1 w.heap.size 28 _ := (Blk.new w _ _).below hb1 (by simp))
        | (go_at_call 63; refine (i_MarkOk _ _ _).mono ?_; rintro r w2 ⟨rfl, hb2⟩; have B2 := (B1.alloc (.cells #[.int .i64 p, .int .i64 q] 63)).below hb2 (by have := B1.lt; simp; omega); obtain ⟨⟨m0, m1⟩, -⟩ := Blk.box2 ((Blk.new w1 63 #[.int .i64 p, .int .i64 q]).below hb2 (by simp)) (Below.refl _ _))
        | (go_at_call 107; refine (i_PutMark none 0 0 [] _ _ _ 0 (Sl.nil_ _ _ _) (Nat.zero_le _) (by decide) hq9).mono ?_; rintro r w3 ⟨A3, n3, c3, rfl, h3, hb3⟩; rw [List.nil_append] at h3; have hl3 := h3.len; have B3 := B2.below hb3 B2.lt; have k3 : Below w.heap.size w w3 := (Below.up ((Below.one w _).up hb1) ((Below.one _ _).up hb2)).up hb3; clear B1 B2 hb1 hb2 hb3)
        | (at_builtin; refine app_u8g rfl _ _ rfl (hA.below k3) rfl h3.sl rfl (by omega) (Nat.le_trans hlo k3.size) ?_; intro A4 c4 w4 h4 hg4; have B4 := hg4.blk B3 hgA; obtain ⟨v0, v1, v2, v3, v4⟩ := B4.cells5v; have g4 := (Gr.of_below k3).trans hg4; have z4 : lo ≤ w4.heap.size := Nat.le_trans hlo g4.size; clear h3 hg4 k3 B3))
        clear v0 v1 v2 v3 v4 m0 m1 B4 hMF f7 f8
        have hbm := hA.len
        go_loopg [0, 33] en (fun f x y wr => ∃ (j n' c' : Nat) (A' : Option Addr), j + f = en ∧ x = .slice A' n' c' ∧ y = .int .i64 j ∧ BS wr lo A' n' c' (b ++ markB p q ++ packs t.l j) ∧ Gr A A' w wr ∧ lo ≤ wr.heap.size)
        case atStart => exact ⟨0, _, _, A4, by omega, rfl, rfl, by rw [packs_zero, List.append_nil]; exact h4, g4, z4⟩
        case round =>
          obtain ⟨j, n', c', A', hjf, rfl, rfl, hB, hg, hz⟩ := hrel
          clear h4 g4 z4
          by_cases hlt : j < en
          · obtain ⟨f, rfl⟩ : ∃ f, gk = f + 1 := ⟨gk - 1, by omega⟩
            have hkr : Below lo w wr := hg.below hA hlo
            obtain ⟨g, o, u, hj, hAe, hgm, ⟨c0, c1, c2, c3, c4⟩, hch, hsub⟩ := (hl.below hel hkr).elem hlt
            have hAe : eA = some ⟨g, o, none⟩ := hAe
            subst hAe
            have hul : u.lt lo := fun x hx => hel x (hsub x hx)
            have hnl := hB.len
            rw [List.length_append, List.length_append] at hnl
            have hpl := packs_len t.l j
            rw [szL_take t.l j (by omega)] at hpl
            have hz1 := szT_succ hj
            have hz2 := szT_le t.l (j + 1)
            have hih := fun (o : Obj) => ih t.l[j] (List.getElem_mem hj) A' n' c' _ u lo (wr.alloc o) (hww _ (List.getElem_mem hj)) (hB.alloc o) (Nat.le_trans hz (by simp)) (hch.below hul ((Below.one wr o).mono hz)) hul (by omega)
            clear ih hww hch hB
            go_wp2_with (go_at_call 65; refine (hih _).mono ?_; rintro r w5 ⟨A5, n5, c5, rfl, h5, hg5⟩)
            clear hih
            go_roundg f
            case measure => omega
            case rel => exact ⟨j + 1, n5, c5, A5, by omega, rfl, by go_num, by rw [packs_succ hj, ← List.append_assoc]; exact h5, (hg.trans (Gr.of_below (Below.one wr _))).trans hg5, Nat.le_trans hz (Nat.le_trans (by simp) hg5.size)⟩
          · have hj : j = en := by omega
            subst hj
            go_wp2_with fail
            go_ret
            exact ⟨_, _, _, rfl, by rw [HP.out, ← packs_all (l := t.l) (j := j) (by omega), ← List.append_assoc]; exact hB, hg⟩
    · rw [if_neg hk9, List.append_nil] at hpk
      have HP := Lib.hid hpk; clear hpk ih hwf hw hp hk7
      have f9 : (t.k == 9) = false := by simp; omega
      have f10 : (t.k == 10) = false := by simp; omega
      clear hk9
      go_enter Tryz.func65, Tryz.ntmps65
      go_wp2_with (first
        | (go_at_call 64; refine (hMF _).mono ?_; rintro r w1 ⟨rfl, hb1⟩; have B1 : Blk w1 w.heap.size 28 _ := (Blk.new w _ _).below hb1 (by simp))
        | (go_at_call 63; refine (i_MarkOk _ _ _).mono ?_; rintro r w2 ⟨rfl, hb2⟩; have B2 := (B1.alloc (.cells #[.int .i64 p, .int .i64 q] 63)).below hb2 (by have := B1.lt; simp; omega); obtain ⟨⟨m0, m1⟩, -⟩ := Blk.box2 ((Blk.new w1 63 #[.int .i64 p, .int .i64 q]).below hb2 (by simp)) (Below.refl _ _))
        | (go_at_call 107; refine (i_PutMark none 0 0 [] _ _ _ 0 (Sl.nil_ _ _ _) (Nat.zero_le _) (by decide) hq9).mono ?_; rintro r w3 ⟨A3, n3, c3, rfl, h3, hb3⟩; rw [List.nil_append] at h3; have hl3 := h3.len; have B3 := B2.below hb3 B2.lt; have k3 : Below w.heap.size w w3 := (Below.up ((Below.one w _).up hb1) ((Below.one _ _).up hb2)).up hb3; clear B1 B2 hb1 hb2 hb3)
        | (at_builtin; refine app_u8g rfl _ _ rfl (hA.below k3) rfl h3.sl rfl (by omega) (Nat.le_trans hlo k3.size) ?_; intro A4 c4 w4 h4 hg4; have B4 := hg4.blk B3 hgA; obtain ⟨v0, v1, v2, v3, v4⟩ := B4.cells5v; have g4 := (Gr.of_below k3).trans hg4; have z4 : lo ≤ w4.heap.size := Nat.le_trans hlo g4.size; clear h3 hg4 k3 B3))
      go_ret
      exact ⟨_, _, _, rfl, by rw [HP.out]; exact h4, g4⟩
theorem i_PackPacked (t : Tr) (e : El) (w : World) (hwf : t.wf) (hl : LsAt w t.l e) (hel : e.lt w.heap.size) (hm : t.sz ≤ 1048576) :
    Calls Tryz.prog 30 #[trV t e] w fun r w' => ∃ A' n' c', r = .returned (.slice A' n' c') ∧ BS w' w.heap.size A' n' c' (packT t) ∧ Below w.heap.size w w' := by
  have hb := fun o => Below.one w o
  have hM := fun o => i_appendPacked t none 0 0 [] e w.heap.size (w.alloc o) hwf (BS.nil_ _ _) (by simp) (hl.below hel (hb o)) hel (by omega)
  go_enter Tryz.func30, Tryz.ntmps30
  go_wp2_with (go_at_call 65; refine (hM _).mono ?_; rintro r w1 ⟨A1, n1, c1, rfl, h1, hg1⟩)
  go_ret
  exact ⟨_, _, _, rfl, h1, (hb _).trans (hg1.below (BS.nil_ _ _) (by simp))⟩
def SpSays (t : Tr) : Prop := ∀ (e : El) (w : World), t.wf → LsAt w t.l e → e.lt w.heap.size → t.sz ≤ 1048576 →
  Calls Tryz.prog 27 #[trV t e] w fun r w' => ∃ A' n' c', r = .returned (.slice A' n' c') ∧ BS w' w.heap.size A' n' c' (packT t) ∧ Below w.heap.size w w'
set_option maxHeartbeats 1600000 in
theorem s_PackPacked (t : Tr) : SpSays t := by
  refine Tr.ind (P := SpSays) (fun t ih => ?_) t
  intro e w hwf hl hel hm
  have hw := (Tr.wf_iff t).1 hwf
  obtain ⟨eA, en, ec, efp⟩ := e
  have hen : t.l.length = en := hl.len
  have hsz := t.sz_eq
  have hx : t.x ≤ 9223372036854775807 := hw.2.2.1.2
  have hn9 : en ≤ 9223372036854775807 := by have := szT_le t.l 0; omega
  have hpk := packT_eq t
  unfold packGo at hpk
  obtain ⟨⟨p, q⟩, hp⟩ : ∃ x, markFor t.k t.n t.x t.s.size t.l.length = x := ⟨_, rfl⟩
  rw [hp] at hpk
  have hMF : ∀ w1, Calls Tryz.prog 57 #[.agg #[.int .i64 t.k, .int .i64 t.n, .int .i64 t.x, .string t.s, .slice eA en ec]] w1 fun r w' => r = .returned (.agg #[.int .i64 p, .int .i64 q]) ∧ Below w1.heap.size w1 w' := fun w1 =>
    (s_MarkFor t.k t.n t.x t.s eA en ec w1 hx hn9).mono fun r w' ⟨h1, h2⟩ => ⟨by rw [h1, ← hen, hp], h2⟩
  have hs9 : t.s.size ≤ 9223372036854775807 := hw.2.2.2.1
  have hq9 : q ≤ 9223372036854775807 := by
    have := markFor_le (k := t.k) (n := t.n) (x := t.x) (sl := t.s.size) (m := t.l.length) hw.2.1.2 hs9 (by omega)
    rw [hp] at this; exact this
  cases hok : markOk p q
  · rw [hok, if_neg (by decide)] at hpk
    have HP := Lib.hid hpk; clear hpk ih hwf hw hp
    go_enter Tryz.func27, Tryz.ntmps27
    go_wp2_with (first
      | (go_at_call 57; refine (hMF _).mono ?_; rintro r w1 ⟨rfl, hb1⟩; have B1 : Blk w1 w.heap.size 28 _ := (Blk.new w _ _).below hb1 (by simp))
      | (go_at_call 58; refine (s_MarkOk _ _ _).mono ?_; rintro r w2 ⟨rfl, hb2⟩; have B2 := (B1.alloc (.cells #[.int .i64 p, .int .i64 q] 63)).below hb2 (by have := B1.lt; simp; omega); have M2 := (Blk.new w1 63 #[.int .i64 p, .int .i64 q]).below hb2 (by simp); have k2 : Below w.heap.size w w2 := Below.up ((Below.one w _).up hb1) ((Below.one _ _).up hb2); have l2 := M2.lt; obtain ⟨⟨m0, m1⟩, -⟩ := Blk.box2 M2 (Below.refl _ _))
      | (go_at_call 59; refine (s_PutMark (some ⟨_, 0, none⟩) 0 0 [] _ _ _ 0 ⟨rfl, Nat.le_refl _, by decide, fun h => absurd h (Nat.lt_irrefl 0)⟩ (Nat.zero_le _) (by decide) hq9).mono ?_; rintro r w3 ⟨A3, n3, c3, rfl, h3, hb3⟩; rw [List.nil_append] at h3; have hl3 := h3.len; have B3 := (B2.alloc (.cells #[] 5)).below hb3 (by have := B2.lt; simp; omega); have k3 : Below w.heap.size w w3 := k2.up ((Below.one _ _).up hb3); replace h3 := h3.mono (lo' := w.heap.size + 1) (by have := B2.lt; simp; omega); obtain ⟨v0, v1, v2, v3, v4⟩ := B3.cells5v; have z3 : w.heap.size + 1 ≤ w3.heap.size := B3.lt; clear B1 B2 M2 hb1 hb2 hb3 k2))
    go_ret
    exact ⟨_, _, _, rfl, by rw [HP.out]; exact (BS.new w2).mono k2.size, k2.up (Below.one _ _)⟩
  · rw [if_pos (show markOk (p, q).1 (p, q).2 = true from hok)] at hpk
    have hpk : packT t = markB p q ++ (if t.k = 7 ∨ t.k = 8 then t.s.data.toList else if t.k = 9 ∨ t.k = 10 then (t.l.map packT).flatten else []) := hpk
    have hml := markB_len p q
    by_cases hk7 : t.k = 7 ∨ t.k = 8
    · rw [if_pos hk7] at hpk
      have HP := Lib.hid hpk; clear hpk ih hwf hw hp
      have hk8 : (t.k == 7) = true ∨ ((t.k == 7) = false ∧ (t.k == 8) = true) := by rcases hk7 with h | h <;> simp [h]
      clear hk7
      rcases hk8 with hk8 | ⟨hk8, hk9⟩
      all_goals
        go_enter Tryz.func27, Tryz.ntmps27
        go_wp2_with (first
          | (go_at_call 57; refine (hMF _).mono ?_; rintro r w1 ⟨rfl, hb1⟩; have B1 : Blk w1 w.heap.size 28 _ := (Blk.new w _ _).below hb1 (by simp))
          | (go_at_call 58; refine (s_MarkOk _ _ _).mono ?_; rintro r w2 ⟨rfl, hb2⟩; have B2 := (B1.alloc (.cells #[.int .i64 p, .int .i64 q] 63)).below hb2 (by have := B1.lt; simp; omega); have M2 := (Blk.new w1 63 #[.int .i64 p, .int .i64 q]).below hb2 (by simp); have k2 : Below w.heap.size w w2 := Below.up ((Below.one w _).up hb1) ((Below.one _ _).up hb2); have l2 := M2.lt; obtain ⟨⟨m0, m1⟩, -⟩ := Blk.box2 M2 (Below.refl _ _))
          | (go_at_call 59; refine (s_PutMark (some ⟨_, 0, none⟩) 0 0 [] _ _ _ 0 ⟨rfl, Nat.le_refl _, by decide, fun h => absurd h (Nat.lt_irrefl 0)⟩ (Nat.zero_le _) (by decide) hq9).mono ?_; rintro r w3 ⟨A3, n3, c3, rfl, h3, hb3⟩; rw [List.nil_append] at h3; have hl3 := h3.len; have B3 := (B2.alloc (.cells #[] 5)).below hb3 (by have := B2.lt; simp; omega); have k3 : Below w.heap.size w w3 := k2.up ((Below.one _ _).up hb3); replace h3 := h3.mono (lo' := w.heap.size + 1) (by have := B2.lt; simp; omega); obtain ⟨v0, v1, v2, v3, v4⟩ := B3.cells5v; have z3 : w.heap.size + 1 ≤ w3.heap.size := B3.lt; clear B1 B2 M2 hb1 hb2 hb3 k2)
          | (at_builtin; refine app_strg rfl _ _ rfl h3 rfl rfl (by omega) z3 ?_; intro A5 c5 w5 h5 hg5))
        go_ret
        exact ⟨_, _, _, rfl, by rw [HP.out]; exact h5.mono (Nat.le_succ _), k3.trans ((hg5.below h3 z3).mono (Nat.le_succ _))⟩
    rw [if_neg hk7] at hpk
    have f7 : (t.k == 7) = false := by simp; omega
    have f8 : (t.k == 8) = false := by simp; omega
    by_cases hk9 : t.k = 9 ∨ t.k = 10
    · rw [if_pos hk9] at hpk
      have hk8 : (t.k == 9) = true ∨ ((t.k == 9) = false ∧ (t.k == 10) = true) := by rcases hk9 with h | h <;> simp [h]
      have HP := Lib.hid hpk; clear hpk hwf hp hk7 hk9
      have hww := hw.2.2.2.2; clear hw
      have hcl : en ≤ ec ∧ ec ≤ maxLen := ⟨((lsAt_iff _ _).1 hl).2.1, ((lsAt_iff _ _).1 hl).2.2.1⟩
      rcases hk8 with hk8 | ⟨hk8, hk9⟩
      all_goals
        go_enter Tryz.func27, Tryz.ntmps27
        go_wp2_with (first
          | (go_at_call 57; refine (hMF _).mono ?_; rintro r w1 ⟨rfl, hb1⟩; have B1 : Blk w1 w.heap.size 28 _ := (Blk.new w _ _).below hb1 (by simp))
          | (go_at_call 58; refine (s_MarkOk _ _ _).mono ?_; rintro r w2 ⟨rfl, hb2⟩; have B2 := (B1.alloc (.cells #[.int .i64 p, .int .i64 q] 63)).below hb2 (by have := B1.lt; simp; omega); have M2 := (Blk.new w1 63 #[.int .i64 p, .int .i64 q]).below hb2 (by simp); have k2 : Below w.heap.size w w2 := Below.up ((Below.one w _).up hb1) ((Below.one _ _).up hb2); have l2 := M2.lt; obtain ⟨⟨m0, m1⟩, -⟩ := Blk.box2 M2 (Below.refl _ _))
          | (go_at_call 59; refine (s_PutMark (some ⟨_, 0, none⟩) 0 0 [] _ _ _ 0 ⟨rfl, Nat.le_refl _, by decide, fun h => absurd h (Nat.lt_irrefl 0)⟩ (Nat.zero_le _) (by decide) hq9).mono ?_; rintro r w3 ⟨A3, n3, c3, rfl, h3, hb3⟩; rw [List.nil_append] at h3; have hl3 := h3.len; have B3 := (B2.alloc (.cells #[] 5)).below hb3 (by have := B2.lt; simp; omega); have k3 : Below w.heap.size w w3 := k2.up ((Below.one _ _).up hb3); replace h3 := h3.mono (lo' := w.heap.size + 1) (by have := B2.lt; simp; omega); obtain ⟨v0, v1, v2, v3, v4⟩ := B3.cells5v; have z3 : w.heap.size + 1 ≤ w3.heap.size := B3.lt; clear B1 B2 M2 hb1 hb2 hb3 k2))
        clear v0 v1 v2 v3 v4 m0 m1 hMF f7 f8
        go_loopg [4, 5] en (fun f x y wr => ∃ (j n' c' : Nat) (A' : Option Addr), j + f = en ∧ x = .slice A' n' c' ∧ y = .int .i64 j ∧ BS wr (w.heap.size + 1) A' n' c' (markB p q ++ packs t.l j) ∧ Below w.heap.size w wr ∧ Blk wr w.heap.size 28 #[.int .i64 t.k, .int .i64 t.n, .int .i64 t.x, .string t.s, .slice eA en ec])
        case atStart => exact ⟨0, _, _, A3, by omega, rfl, rfl, by rw [packs_zero, List.append_nil]; exact h3, k3, B3⟩
        case round =>
          obtain ⟨j, n', c', A', hjf, rfl, rfl, hB, hk, hbx⟩ := hrel
          clear h3 k3 B3
          obtain ⟨v0, v1, v2, v3, v4⟩ := hbx.cells5v
          have z4 : w.heap.size + 1 ≤ wr.heap.size := hbx.lt
          by_cases hlt : j < en
          · obtain ⟨f, rfl⟩ : ∃ f, gk = f + 1 := ⟨gk - 1, by omega⟩
            obtain ⟨g, o, u, hj, hAe, hgm, ⟨c0, c1, c2, c3, c4⟩, hch, hsub⟩ := (hl.below hel hk).elem hlt
            have hAe : eA = some ⟨g, o, none⟩ := hAe
            subst hAe
            have hul : u.lt w.heap.size := fun x hx => hel x (hsub x hx)
            have hnl := hB.len
            rw [List.length_append] at hnl
            have hpl := packs_len t.l j
            rw [szL_take t.l j (by omega)] at hpl
            have hz1 := szT_succ hj
            have hz2 := szT_le t.l (j + 1)
            have hpu := packT_len t.l[j]
            have hih := ih t.l[j] (List.getElem_mem hj) u wr (hww _ (List.getElem_mem hj)) hch (hul.mono hk.size) (by omega)
            clear ih hww hch
            go_wp2_with (first
              | (go_at_call 27; refine hih.mono ?_; rintro r w5 ⟨A5, n5, c5, rfl, h5, hb5⟩; have hl5 := h5.len; have hB5 := hB.below hb5; have bx5 := hbx.below hb5 hbx.lt; have k5 := hk.up hb5)
              | (at_builtin; refine app_u8g rfl _ _ rfl hB5 rfl h5.sl rfl (by omega) (bx5.lt) ?_; intro A6 c6 w6 h6 hg6))
            have hk6 := hg6.below hB5 bx5.lt
            have bx6 := bx5.below hk6 (Nat.lt_succ_self _)
            clear hih hB5 bx5 hB hbx v0 v1 v2 v3 v4 h5 hg6
            go_roundg f
            case measure => omega
            case rel => exact ⟨j + 1, _, c6, A6, by omega, rfl, by go_num, by rw [packs_succ hj, ← List.append_assoc]; exact h6, k5.trans (hk6.mono (Nat.le_succ _)), bx6⟩
          · have hj : j = en := by omega
            subst hj
            go_wp2_with fail
            go_ret
            exact ⟨_, _, _, rfl, by rw [HP.out, ← packs_all (l := t.l) (j := j) (by omega)]; exact hB.mono (Nat.le_succ _), hk⟩
    · rw [if_neg hk9, List.append_nil] at hpk
      have HP := Lib.hid hpk; clear hpk ih hwf hw hp hk7
      have f9 : (t.k == 9) = false := by simp; omega
      have f10 : (t.k == 10) = false := by simp; omega
      clear hk9
      go_enter Tryz.func27, Tryz.ntmps27
      go_wp2_with (first
        | (go_at_call 57; refine (hMF _).mono ?_; rintro r w1 ⟨rfl, hb1⟩; have B1 : Blk w1 w.heap.size 28 _ := (Blk.new w _ _).below hb1 (by simp))
        | (go_at_call 58; refine (s_MarkOk _ _ _).mono ?_; rintro r w2 ⟨rfl, hb2⟩; have B2 := (B1.alloc (.cells #[.int .i64 p, .int .i64 q] 63)).below hb2 (by have := B1.lt; simp; omega); have M2 := (Blk.new w1 63 #[.int .i64 p, .int .i64 q]).below hb2 (by simp); have k2 : Below w.heap.size w w2 := Below.up ((Below.one w _).up hb1) ((Below.one _ _).up hb2); have l2 := M2.lt; obtain ⟨⟨m0, m1⟩, -⟩ := Blk.box2 M2 (Below.refl _ _))
        | (go_at_call 59; refine (s_PutMark (some ⟨_, 0, none⟩) 0 0 [] _ _ _ 0 ⟨rfl, Nat.le_refl _, by decide, fun h => absurd h (Nat.lt_irrefl 0)⟩ (Nat.zero_le _) (by decide) hq9).mono ?_; rintro r w3 ⟨A3, n3, c3, rfl, h3, hb3⟩; rw [List.nil_append] at h3; have hl3 := h3.len; have B3 := (B2.alloc (.cells #[] 5)).below hb3 (by have := B2.lt; simp; omega); have k3 : Below w.heap.size w w3 := k2.up ((Below.one _ _).up hb3); replace h3 := h3.mono (lo' := w.heap.size + 1) (by have := B2.lt; simp; omega); obtain ⟨v0, v1, v2, v3, v4⟩ := B3.cells5v; have z3 : w.heap.size + 1 ≤ w3.heap.size := B3.lt; clear B1 B2 M2 hb1 hb2 hb3 k2))
      go_ret
      exact ⟨_, _, _, rfl, by rw [HP.out]; exact h3.mono (Nat.le_succ _), k3⟩
end Go.Proofs.YtmelnaidjgpclaaGreatDoor

namespace Go.Proofs.YtmelnaidjgpclaaGreatDoor
open Go.RowKit

noncomputable def writePackedL (t : Tr) : List UInt8 := if fitsPacked t = true then packT t else []
theorem writePackedL_len (t : Tr) : (writePackedL t).length ≤ 20 + 20 * t.sz := by
  unfold writePackedL
  split
  · have := packT_len t; omega
  · simp
theorem writePackedL_yes {t : Tr} (h : fitsPacked t = true) : writePackedL t = packT t := by unfold writePackedL; rw [if_pos h]
theorem writePackedL_no {t : Tr} (h : fitsPacked t = false) : writePackedL t = [] := by unfold writePackedL; rw [h]; rfl
/-- What a writer of bytes says. -/
def WritePackedAt (w w' : World) (b : List UInt8) (r : Ending) : Prop := ∃ A' n' c', r = .returned (.slice A' n' c') ∧ BS w' w.heap.size A' n' c' b ∧ Below w.heap.size w w'
theorem i_WritePacked (t : Tr) (e : El) (w : World) (hF : Fit t) (hl : LsAt w t.l e) (hel : e.lt w.heap.size) (hT : TabUP w) :
    Calls Tryz.prog 18 #[trV t e] w fun r w' => WritePackedAt w w' (writePackedL t) r := by
  have kb := Below.one w (.cells (valCells t e) 28)
  have hB := Blk.new w 28 (valCells t e)
  have hv := i_FitsPacked t e _ hF (hl.below hel kb) (hel.mono kb.size) (hT.below kb)
  have hp := fun w2 (hb : Below w.heap.size w w2) => i_PackPacked t e w2 hF.1 (hl.below hel hb) (hel.mono hb.size) hF.2
  cases hq : fitsPacked t with
  | false =>
    rw [writePackedL_no hq]
    rw [hq] at hv
    clear hp hq
    go_enter Tryz.func18, Tryz.ntmps18
    go_wp2_with (go_at_call 29; refine hv.mono ?_; rintro r w1 ⟨rfl, hb⟩)
    go_ret
    exact ⟨none, 0, 0, rfl, BS.nil_ _ _, kb.up hb⟩
  | true =>
    rw [writePackedL_yes hq]
    rw [hq] at hv
    generalize packT t = b at hp
    clear hq
    go_enter Tryz.func18, Tryz.ntmps18
    go_wp2_with (first
      | (go_at_call 29; refine hv.mono ?_; rintro r w1 ⟨rfl, hb⟩; obtain ⟨q0, q1, q2, q3, q4⟩ := (hB.below hb hB.lt).boxV)
      | (go_at_call 30; refine (hp _ (kb.up hb)).mono ?_; rintro r w2 ⟨A', n', c', rfl, h2, hb2⟩))
    go_ret
    exact ⟨A', n', c', rfl, own_mono h2 (kb.up hb).size, (kb.up hb).up hb2⟩
theorem s_WritePacked (t : Tr) (e : El) (w : World) (hF : Fit t) (hl : LsAt w t.l e) (hel : e.lt w.heap.size) (hT : TabUP w) :
    Calls Tryz.prog 16 #[trV t e] w fun r w' => WritePackedAt w w' (writePackedL t) r := by
  have kb := Below.one w (.cells (valCells t e) 28)
  have hB := Blk.new w 28 (valCells t e)
  have hv := s_FitsPacked t e _ hF (hl.below hel kb) (hel.mono kb.size) (hT.below kb)
  have hp := fun w2 (hb : Below w.heap.size w w2) => s_PackPacked t e w2 hF.1 (hl.below hel hb) (hel.mono hb.size) hF.2
  cases hq : fitsPacked t with
  | false =>
    rw [writePackedL_no hq]
    rw [hq] at hv
    clear hp hq
    go_enter Tryz.func16, Tryz.ntmps16
    go_wp2_with (go_at_call 26; refine hv.mono ?_; rintro r w1 ⟨rfl, hb⟩)
    go_ret
    exact ⟨_, 0, 0, rfl, own_mono (BS.new w1) (kb.up hb).size, (kb.up hb).up (Below.one _ _)⟩
  | true =>
    rw [writePackedL_yes hq]
    rw [hq] at hv
    generalize packT t = b at hp
    clear hq
    go_enter Tryz.func16, Tryz.ntmps16
    go_wp2_with (first
      | (go_at_call 26; refine hv.mono ?_; rintro r w1 ⟨rfl, hb⟩; obtain ⟨q0, q1, q2, q3, q4⟩ := (hB.below hb hB.lt).boxV)
      | (go_at_call 27; refine (hp _ (kb.up hb)).mono ?_; rintro r w2 ⟨A', n', c', rfl, h2, hb2⟩))
    go_ret
    exact ⟨A', n', c', rfl, own_mono h2 (kb.up hb).size, (kb.up hb).up hb2⟩
end Go.Proofs.YtmelnaidjgpclaaGreatDoor

namespace Go.Proofs.YtmelnaidjgpclaaGreatDoor
open Go.RowKit

theorem zeroT_fit : Fit zeroT := ⟨leaf_wf (by decide) (by decide) (by decide) (Nat.zero_le _), by rw [Tr.sz_eq]; decide⟩
theorem readPacked_fit {b : List UInt8} (hb : b.length ≤ 1048576) (d : Int) : Fit (readPacked b d).1 := by
  unfold readPacked
  cases hx : packR b 0 d with
  | bad c => exact zeroT_fit
  | good t q =>
    simp only
    split
    · have h := ((kVM_fit hb _).1 _ _ _ _ hx).2
      exact ⟨h.wf, show t.sz ≤ 1048576 by have h1 := h.sz; have h2 := h.le; omega⟩
    · exact zeroT_fit
abbrev OkS (w' : World) (bx : Nat) (T : Tr) (u : El) (A : Option Addr) (n c : Nat) (b : List UInt8) : Prop := w'.cell? ⟨bx, 0, none⟩ = some (.int .i64 T.k) ∧ w'.cell? ⟨bx, 1, none⟩ = some (.int .i64 T.n) ∧ w'.cell? ⟨bx, 2, none⟩ = some (.int .i64 T.x) ∧ w'.cell? ⟨bx, 3, none⟩ = some (.string T.s) ∧ w'.cell? ⟨bx, 4, none⟩ = some (.slice u.A u.n u.c) ∧ (convert 22 9 (.slice A n c)).run Tryz.prog w' = .ok (.string ⟨b.toArray⟩) w'
noncomputable def okPacked (b : List UInt8) : Bool := decide (0 < b.length) && decide ((readPacked b 20).2 = 0) && decide (writePackedL (readPacked b 20).1 = b)
set_option maxHeartbeats 8000000 in
theorem i_PackedOk (A : Option Addr) (n c : Nat) (b : List UInt8) (w : World) (hs : Sl w w.heap.size 1 A n c (u8s b)) (hn : n ≤ 1048576) (hT : TabUP w) :
    Calls Tryz.prog 10 #[.slice A n c] w fun r w' => r = .returned (.bool (okPacked b)) ∧ Below w.heap.size w w' := by
  have hl := hs.blen
  have HR := i_ReadPacked A n c b 20 w hs hn (by decide) hT.1
  have hF := readPacked_fit (b := b) (by omega) 20
  unfold ReadRes at HR
  unfold okPacked
  generalize readPacked b 20 = x at HR hF
  obtain ⟨T, kc⟩ := x
  simp only at HR hF ⊢
  have hlen : decide (0 < b.length) = decide (0 < (n : Int)) := by rw [hl]; simp
  rw [hlen]
  have hK : decide (kc = 0) = (kc == 0) := by rw [Bool.eq_iff_iff]; simp
  rw [hK]
  obtain ⟨L, hL⟩ : ∃ L, writePackedL T = L := ⟨_, rfl⟩
  have HW := fun u w1 hl hel hT => i_WritePacked T u w1 hF hl hel hT
  rw [hL] at HW ⊢
  clear hL hF hlen hK
  obtain ⟨R, hR⟩ : ∃ R, (decide (0 < (n : Int)) && (kc == 0) && decide (L = b)) = R := ⟨_, rfl⟩
  rw [hR]
  by_cases hall : 0 < n ∧ kc = 0
  · obtain ⟨h0, rfl⟩ := hall
    have e0 : decide (0 < (n : Int)) = true := decide_eq_true (by omega)
    have e1 : ((0 : Int) == 0) = true := rfl
    rw [e0, e1, Bool.true_and, Bool.true_and] at hR
    have HRR := Lib.hid hR
    clear hR
    go_enter Tryz.func10, Tryz.ntmps10
    go_upto_region 2 with (go_at_call 17; refine HR.mono ?_; rintro r w5 ⟨u, rfl, hl5, ho5, hb5⟩)
    have kx := Below.one w5 (.cells (valCells T u) 28)
    have X6 := Blk.new w5 28 (valCells T u)
    have l6 := hl5.below (fun g hg => ho5.lt hg) kx
    have el6 : u.lt (w5.alloc (.cells (valCells T u) 28)).heap.size := fun g hg => Nat.lt_of_lt_of_le (ho5.lt hg) kx.size
    have K6 := hb5.up kx
    generalize w5.heap.size = bx at X6 ⊢
    change Code.wp _ _ _ _ (w5.alloc (.cells (valCells T u) 28))
    generalize w5.alloc (.cells (valCells T u) 28) = w6 at X6 l6 el6 K6 ⊢
    clear HR hl5 ho5 hb5 kx
    obtain ⟨v0, v1, v2, v3, v4⟩ := X6.boxV
    have s6 := hs.below K6
    have k6d := (Below.refl w6.heap.size w6).drew
    have hW := HW u w6.drew (l6.below el6 k6d) el6 (hT.below (K6.trans (k6d.mono K6.size)))
    have hS0 : ∀ w', Below w6.heap.size w6 w' → OkS w' bx T u A n c b ∧ Below w6.heap.size w6 w' := fun w' hb => ⟨by
      have hX := X6.below hb X6.lt
      obtain ⟨q0, q1, q2, q3, q4⟩ := hX.boxV
      exact ⟨q0, q1, q2, q3, q4, run_str_sl (P := Tryz.prog) 22 5 Tryz.underlying22 Tryz.underlying5 (hs.below (K6.trans (hb.mono K6.size))) 9 Tryz.underlying9⟩, hb⟩
    have hS1 := hS0 _ k6d
    have hS3 := fun w7 (hb : Below w6.drew.heap.size w6.drew w7) => hS0 w7 (k6d.up hb)
    have hCW := fun (w7 : World) A7 n7 c7 (h7 : BS w7 w6.drew.heap.size A7 n7 c7 L) => run_str_sl (P := Tryz.prog) 22 5 Tryz.underlying22 Tryz.underlying5 h7.sl 9 Tryz.underlying9
    unfold WritePackedAt at hW
    clear hS0 v0 v1 v2 v3 v4 HW
    refine wp_region_held_drew (S := fun w' => OkS w' bx T u A n c b ∧ Below w6.heap.size w6 w') (by kernel_rfl) hS1 (fun hHeld => ?_)
    refine wpAnyH_take (i := 0) (oi := ?oi0) (v := ?vv0) ?hi0 (by kernel_rfl) (by kernel_rfl) (by kernel_rfl) ?hQ0 (Or.inl ⟨?hw0, ?hy0⟩) (by assumption) ?rest0
    case hi0 => (simp only [List.getElem?_toArray, List.getElem?_cons_succ, List.getElem?_cons_zero]; exact rfl)
    case hQ0 => exact fun _ _ _ h => h
    case hw0 => rfl
    case hy0 => ((intro w hSw; (try dsimp only at hSw); go_simp) <;> (with_reducible rfl))
    simp only [Act.put, List.setIfInBounds_toArray, List.set_cons_zero, List.set_cons_succ]
    refine wpAnyH_take (i := 1) (oi := ?oi1) (v := ?vv1) ?hi1 (by kernel_rfl) (by kernel_rfl) (by kernel_rfl) ?hQ1 (Or.inl ⟨?hw1, ?hy1⟩) (by assumption) ?rest1
    case hi1 => (simp only [List.getElem?_toArray, List.getElem?_cons_succ, List.getElem?_cons_zero]; exact rfl)
    case hQ1 => exact fun _ _ _ h => h
    case hw1 => rfl
    case hy1 => ((intro w hSw; (try dsimp only at hSw); go_simp) <;> (with_reducible rfl))
    simp only [Act.put, List.setIfInBounds_toArray, List.set_cons_zero, List.set_cons_succ]
    refine wpAnyH_take (i := 2) (oi := ?oi2) (v := ?vv2) ?hi2 (by kernel_rfl) (by kernel_rfl) (by kernel_rfl) ?hQ2 (Or.inl ⟨?hw2, ?hy2⟩) (by assumption) ?rest2
    case hi2 => (simp only [List.getElem?_toArray, List.getElem?_cons_succ, List.getElem?_cons_zero]; exact rfl)
    case hQ2 => exact fun _ _ _ h => h
    case hw2 => rfl
    case hy2 => ((intro w hSw; (try dsimp only at hSw); go_simp) <;> (with_reducible rfl))
    simp only [Act.put, List.setIfInBounds_toArray, List.set_cons_zero, List.set_cons_succ]
    refine wpAnyH_take (i := 3) (oi := ?oi3) (v := ?vv3) ?hi3 (by kernel_rfl) (by kernel_rfl) (by kernel_rfl) ?hQ3 (Or.inl ⟨?hw3, ?hy3⟩) (by assumption) ?rest3
    case hi3 => (simp only [List.getElem?_toArray, List.getElem?_cons_succ, List.getElem?_cons_zero]; exact rfl)
    case hQ3 => exact fun _ _ _ h => h
    case hw3 => rfl
    case hy3 => ((intro w hSw; (try dsimp only at hSw); go_simp) <;> (with_reducible rfl))
    simp only [Act.put, List.setIfInBounds_toArray, List.set_cons_zero, List.set_cons_succ]
    refine wpAnyH_take (i := 4) (oi := ?oi4) (v := ?vv4) ?hi4 (by kernel_rfl) (by kernel_rfl) (by kernel_rfl) ?hQ4 (Or.inl ⟨?hw4, ?hy4⟩) (by assumption) ?rest4
    case hi4 => (simp only [List.getElem?_toArray, List.getElem?_cons_succ, List.getElem?_cons_zero]; exact rfl)
    case hQ4 => exact fun _ _ _ h => h
    case hw4 => rfl
    case hy4 => ((intro w hSw; (try dsimp only at hSw); go_simp) <;> (with_reducible rfl))
    simp only [Act.put, List.setIfInBounds_toArray, List.set_cons_zero, List.set_cons_succ]
    refine wpAnyH_take (i := 5) (oi := ?oi5) (v := ?vv5) ?hi5 (by kernel_rfl) (by kernel_rfl) (by kernel_rfl) ?hQ5 (Or.inl ⟨?hw5, ?hy5⟩) (by assumption) ?rest5
    case hi5 => (simp only [List.getElem?_toArray, List.getElem?_cons_succ, List.getElem?_cons_zero]; exact rfl)
    case hQ5 => exact fun _ _ _ h => h
    case hw5 => rfl
    case hy5 => ((intro w hSw; (try dsimp only at hSw); go_simp) <;> (with_reducible rfl))
    simp only [Act.put, List.setIfInBounds_toArray, List.set_cons_zero, List.set_cons_succ]
    refine wpAnyH_take (i := 6) (oi := ?oi6) (v := ?vv6) ?hi6 (by kernel_rfl) (by kernel_rfl) (by kernel_rfl) ?hQ6 (Or.inl ⟨?hw6, ?hy6⟩) (by assumption) ?rest6
    case hi6 => (simp only [List.getElem?_toArray, List.getElem?_cons_succ, List.getElem?_cons_zero]; exact rfl)
    case hQ6 => exact fun _ _ _ h => h
    case hw6 => rfl
    case hy6 => ((intro w hSw; (try dsimp only at hSw); go_simp) <;> (with_reducible rfl))
    simp only [Act.put, List.setIfInBounds_toArray, List.set_cons_zero, List.set_cons_succ]
    refine wpAnyH_take (i := 7) (oi := ?oi7) (v := ?vv7) ?hi7 (by kernel_rfl) (by kernel_rfl) (by kernel_rfl) ?hQ7 (Or.inl ⟨?hw7, ?hy7⟩) (by assumption) ?rest7
    case hi7 => (simp only [List.getElem?_toArray, List.getElem?_cons_succ, List.getElem?_cons_zero]; exact rfl)
    case hQ7 => exact fun _ _ _ h => h
    case hw7 => rfl
    case hy7 => ((intro w hSw; (try dsimp only at hSw); go_simp) <;> (with_reducible rfl))
    simp only [Act.put, List.setIfInBounds_toArray, List.set_cons_zero, List.set_cons_succ]
    refine wpAnyH_take (i := 8) (oi := ?oi8) (v := ?vv8) ?hi8 (by kernel_rfl) (by kernel_rfl) (by kernel_rfl) ?hQ8 (Or.inl ⟨?hw8, ?hy8⟩) (by assumption) ?rest8
    case hi8 => (simp only [List.getElem?_toArray, List.getElem?_cons_succ, List.getElem?_cons_zero]; exact rfl)
    case hQ8 => exact fun _ _ _ h => h
    case hw8 => rfl
    case hy8 => ((intro w hSw; (try dsimp only at hSw); go_simp) <;> (with_reducible rfl))
    simp only [Act.put, List.setIfInBounds_toArray, List.set_cons_zero, List.set_cons_succ]
    refine wpAnyH_take (i := 11) (oi := ?oi11) (v := ?vv11) ?hi11 (by kernel_rfl) (by kernel_rfl) (by kernel_rfl) ?hQ11 (Or.inl ⟨?hw11, ?hy11⟩) (by assumption) ?rest11
    case hi11 => (simp only [List.getElem?_toArray, List.getElem?_cons_succ, List.getElem?_cons_zero]; exact rfl)
    case hQ11 => exact fun _ _ _ h => h
    case hw11 => rfl
    case hy11 => ((intro w hSw; (try dsimp only at hSw); go_simp) <;> (with_reducible rfl))
    simp only [Act.put, List.setIfInBounds_toArray, List.set_cons_zero, List.set_cons_succ]
    refine wpAnyH_take (i := 12) (oi := ?oi12) (v := ?vv12) ?hi12 (by kernel_rfl) (by kernel_rfl) (by kernel_rfl) ?hQ12 (Or.inl ⟨?hw12, ?hy12⟩) (by assumption) ?rest12
    case hi12 => (simp only [List.getElem?_toArray, List.getElem?_cons_succ, List.getElem?_cons_zero]; exact rfl)
    case hQ12 => exact fun _ _ _ h => h
    case hw12 => rfl
    case hy12 => ((intro w hSw; (try dsimp only at hSw); go_simp) <;> (with_reducible rfl))
    simp only [Act.put, List.setIfInBounds_toArray, List.set_cons_zero, List.set_cons_succ]
    refine wpAnyH_ready (rs := [9]) (by kernel_rfl) (by simp) ?_
    refine AllReadyH.cons (o := ?o9) ?ho9 (fun K hK => ?st9) AllReadyH.nil
    case ho9 => (simp only [List.getElem?_toArray, List.getElem?_cons_succ, List.getElem?_cons_zero]; exact rfl)
    go_simp
    go_at_call 18
    with_reducible refine hW.mono ?_
    rintro r w7 ⟨A7, n7, c7, rfl, h7, hb7⟩
    have cw7 := hCW _ _ _ _ h7
    try go_wp2_with fail
    refine hK.out _ _ (hS3 _ hb7) (fun hHeld2 => ?_)
    clear hK K
    try simp only [Act.put, List.setIfInBounds_toArray, List.set_cons_zero, List.set_cons_succ]
    refine wpAnyH_ready (rs := [10]) (by kernel_rfl) (by simp) ?_
    refine AllReadyH.cons (o := ?o10) ?ho10 (fun K hK => ?st10) AllReadyH.nil
    case ho10 => (simp only [List.getElem?_toArray, List.getElem?_cons_succ, List.getElem?_cons_zero]; exact rfl)
    go_simp
    refine hK.out _ _ (hS3 _ hb7) (fun hHeld3 => ?_)
    clear hK K
    try simp only [Act.put, List.setIfInBounds_toArray, List.set_cons_zero, List.set_cons_succ]
    refine wpAnyH_take (i := 13) (oi := ?oi13) (v := ?vv13) ?hi13 (by kernel_rfl) (by kernel_rfl) (by kernel_rfl) ?hQ13 (Or.inl ⟨?hw13, ?hy13⟩) (by assumption) ?rest13
    case hi13 => (simp only [List.getElem?_toArray, List.getElem?_cons_succ, List.getElem?_cons_zero]; exact rfl)
    case hQ13 => exact fun _ _ _ h => h
    case hw13 => rfl
    case hy13 => ((intro w hSw; (try dsimp only at hSw); go_simp) <;> (with_reducible rfl))
    simp only [Act.put, List.setIfInBounds_toArray, List.set_cons_zero, List.set_cons_succ]
    refine wpAnyH_take (i := 14) (oi := ?oi14) (v := ?vv14) ?hi14 (by kernel_rfl) (by kernel_rfl) (by kernel_rfl) ?hQ14 (Or.inl ⟨?hw14, ?hy14⟩) (by assumption) ?rest14
    case hi14 => (simp only [List.getElem?_toArray, List.getElem?_cons_succ, List.getElem?_cons_zero]; exact rfl)
    case hQ14 => exact fun _ _ _ h => h
    case hw14 => rfl
    case hy14 => ((intro w hSw; (try dsimp only at hSw); go_simp) <;> (with_reducible rfl))
    simp only [Act.put, List.setIfInBounds_toArray, List.set_cons_zero, List.set_cons_succ]
    refine wpAnyH_take (i := 15) (oi := ?oi15) (v := ?vv15) ?hi15 (by kernel_rfl) (by kernel_rfl) (by kernel_rfl) ?hQ15 (Or.inl ⟨?hw15, ?hy15⟩) (by assumption) ?rest15
    case hi15 => (simp only [List.getElem?_toArray, List.getElem?_cons_succ, List.getElem?_cons_zero]; exact rfl)
    case hQ15 => exact fun _ _ _ h => h
    case hw15 => rfl
    case hy15 => ((intro w hSw; (try dsimp only at hSw); go_simp) <;> (with_reducible rfl))
    simp only [Act.put, List.setIfInBounds_toArray, List.set_cons_zero, List.set_cons_succ]
    refine wpAnyH_done (by kernel_rfl) ?_ _
    all_goals
      try go_wp2_with fail
      go_ret
      have hbe : (L == b) = R := by rw [← HRR.out, Bool.eq_iff_iff]; simp
      exact ⟨by rw [← hbe]; rfl, K6.trans ((k6d.up hb7).mono K6.size)⟩
  · have hRf : R = false := by
      rw [← hR]
      by_cases h0 : 0 < n
      · have hk : (kc == 0) = false := by simp; exact fun hk => hall ⟨h0, hk⟩
        rw [hk]; simp
      · rw [decide_eq_false (by omega)]; rfl
    subst hRf
    clear hR HW
    by_cases h0 : 0 < n
    · have e0 : decide (0 < (n : Int)) = true := decide_eq_true (by omega)
      have e1 : (kc == 0) = false := by simp; exact fun hk => hall ⟨h0, hk⟩
      go_enter Tryz.func10, Tryz.ntmps10
      go_upto_region 2 with (go_at_call 17; refine HR.mono ?_; rintro r w5 ⟨u, rfl, hl5, ho5, hb5⟩)
      have K6 := hb5.up (Below.one w5 (.cells (valCells T u) 28))
      go_quiet (fail)
      go_wp2_with fail
      go_ret
      exact ⟨rfl, K6.trans ((Below.drewN_ _ _).mono K6.size)⟩
    · have e0 : decide (0 < (n : Int)) = false := decide_eq_false (by omega)
      cases e1 : (kc == 0) with
      | true =>
        go_enter Tryz.func10, Tryz.ntmps10
        go_upto_region 2 with (go_at_call 17; refine HR.mono ?_; rintro r w5 ⟨u, rfl, hl5, ho5, hb5⟩)
        have K6 := hb5.up (Below.one w5 (.cells (valCells T u) 28))
        go_quiet (fail)
        go_wp2_with fail
        go_ret
        exact ⟨rfl, K6.trans ((Below.drewN_ _ _).mono K6.size)⟩
      | false =>
        go_enter Tryz.func10, Tryz.ntmps10
        go_upto_region 2 with (go_at_call 17; refine HR.mono ?_; rintro r w5 ⟨u, rfl, hl5, ho5, hb5⟩)
        have K6 := hb5.up (Below.one w5 (.cells (valCells T u) 28))
        go_quiet (fail)
        go_wp2_with fail
        go_ret
        exact ⟨rfl, K6.trans ((Below.drewN_ _ _).mono K6.size)⟩
set_option maxHeartbeats 8000000 in
theorem s_PackedOk (A : Option Addr) (n c : Nat) (b : List UInt8) (w : World) (hs : Sl w w.heap.size 1 A n c (u8s b)) (hn : n ≤ 1048576) (hT : TabUP w) :
    Calls Tryz.prog 9 #[.slice A n c] w fun r w' => r = .returned (.bool (okPacked b)) ∧ Below w.heap.size w w' := by
  have hl := hs.blen
  have HR := s_ReadPacked A n c b 20 w hs hn (by decide)
  have hF := readPacked_fit (b := b) (by omega) 20
  unfold ReadRes at HR
  unfold okPacked
  generalize readPacked b 20 = x at HR hF
  obtain ⟨T, kc⟩ := x
  simp only at HR hF ⊢
  have hlen : decide (0 < b.length) = decide (0 < (n : Int)) := by rw [hl]; simp
  rw [hlen]
  have hK : decide (kc = 0) = (kc == 0) := by rw [Bool.eq_iff_iff]; simp
  rw [hK]
  obtain ⟨L, hL⟩ : ∃ L, writePackedL T = L := ⟨_, rfl⟩
  have HW := fun u w1 hl hel hT => s_WritePacked T u w1 hF hl hel hT
  rw [hL] at HW ⊢
  clear hL hF hlen hK
  obtain ⟨R, hR⟩ : ∃ R, (decide (0 < (n : Int)) && (kc == 0) && decide (L = b)) = R := ⟨_, rfl⟩
  rw [hR]
  by_cases hall : 0 < n ∧ kc = 0
  · obtain ⟨h0, rfl⟩ := hall
    have e0 : decide (0 < (n : Int)) = true := decide_eq_true (by omega)
    have e1 : ((0 : Int) == 0) = true := rfl
    rw [e0, e1, Bool.true_and, Bool.true_and] at hR
    have HRR := Lib.hid hR
    clear hR
    go_enter Tryz.func9, Tryz.ntmps9
    go_upto_region 2 with (go_at_call 15; refine HR.mono ?_; rintro r w5 ⟨u, rfl, hl5, ho5, hb5⟩)
    have kx := Below.one w5 (.cells (valCells T u) 28)
    have X6 := Blk.new w5 28 (valCells T u)
    have l6 := hl5.below (fun g hg => ho5.lt hg) kx
    have el6 : u.lt (w5.alloc (.cells (valCells T u) 28)).heap.size := fun g hg => Nat.lt_of_lt_of_le (ho5.lt hg) kx.size
    have K6 := hb5.up kx
    generalize w5.heap.size = bx at X6 ⊢
    change Code.wp _ _ _ _ (w5.alloc (.cells (valCells T u) 28))
    generalize w5.alloc (.cells (valCells T u) 28) = w6 at X6 l6 el6 K6 ⊢
    clear HR hl5 ho5 hb5 kx
    obtain ⟨v0, v1, v2, v3, v4⟩ := X6.boxV
    have s6 := hs.below K6
    have k6d := (Below.refl w6.heap.size w6).drew
    have hW := HW u w6.drew (l6.below el6 k6d) el6 (hT.below (K6.trans (k6d.mono K6.size)))
    have hS0 : ∀ w', Below w6.heap.size w6 w' → OkS w' bx T u A n c b ∧ Below w6.heap.size w6 w' := fun w' hb => ⟨by
      have hX := X6.below hb X6.lt
      obtain ⟨q0, q1, q2, q3, q4⟩ := hX.boxV
      exact ⟨q0, q1, q2, q3, q4, run_str_sl (P := Tryz.prog) 22 5 Tryz.underlying22 Tryz.underlying5 (hs.below (K6.trans (hb.mono K6.size))) 9 Tryz.underlying9⟩, hb⟩
    have hS1 := hS0 _ k6d
    have hS3 := fun w7 (hb : Below w6.drew.heap.size w6.drew w7) => hS0 w7 (k6d.up hb)
    have hCW := fun (w7 : World) A7 n7 c7 (h7 : BS w7 w6.drew.heap.size A7 n7 c7 L) => run_str_sl (P := Tryz.prog) 22 5 Tryz.underlying22 Tryz.underlying5 h7.sl 9 Tryz.underlying9
    unfold WritePackedAt at hW
    clear hS0 v0 v1 v2 v3 v4 HW
    refine wp_region_held_drew (S := fun w' => OkS w' bx T u A n c b ∧ Below w6.heap.size w6 w') (by kernel_rfl) hS1 (fun hHeld => ?_)
    refine wpAnyH_take (i := 0) (oi := ?oi0) (v := ?vv0) ?hi0 (by kernel_rfl) (by kernel_rfl) (by kernel_rfl) ?hQ0 (Or.inl ⟨?hw0, ?hy0⟩) (by assumption) ?rest0
    case hi0 => (simp only [List.getElem?_toArray, List.getElem?_cons_succ, List.getElem?_cons_zero]; exact rfl)
    case hQ0 => exact fun _ _ _ h => h
    case hw0 => rfl
    case hy0 => ((intro w hSw; (try dsimp only at hSw); go_simp) <;> (with_reducible rfl))
    simp only [Act.put, List.setIfInBounds_toArray, List.set_cons_zero, List.set_cons_succ]
    refine wpAnyH_take (i := 1) (oi := ?oi1) (v := ?vv1) ?hi1 (by kernel_rfl) (by kernel_rfl) (by kernel_rfl) ?hQ1 (Or.inl ⟨?hw1, ?hy1⟩) (by assumption) ?rest1
    case hi1 => (simp only [List.getElem?_toArray, List.getElem?_cons_succ, List.getElem?_cons_zero]; exact rfl)
    case hQ1 => exact fun _ _ _ h => h
    case hw1 => rfl
    case hy1 => ((intro w hSw; (try dsimp only at hSw); go_simp) <;> (with_reducible rfl))
    simp only [Act.put, List.setIfInBounds_toArray, List.set_cons_zero, List.set_cons_succ]
    refine wpAnyH_take (i := 2) (oi := ?oi2) (v := ?vv2) ?hi2 (by kernel_rfl) (by kernel_rfl) (by kernel_rfl) ?hQ2 (Or.inl ⟨?hw2, ?hy2⟩) (by assumption) ?rest2
    case hi2 => (simp only [List.getElem?_toArray, List.getElem?_cons_succ, List.getElem?_cons_zero]; exact rfl)
    case hQ2 => exact fun _ _ _ h => h
    case hw2 => rfl
    case hy2 => ((intro w hSw; (try dsimp only at hSw); go_simp) <;> (with_reducible rfl))
    simp only [Act.put, List.setIfInBounds_toArray, List.set_cons_zero, List.set_cons_succ]
    refine wpAnyH_take (i := 3) (oi := ?oi3) (v := ?vv3) ?hi3 (by kernel_rfl) (by kernel_rfl) (by kernel_rfl) ?hQ3 (Or.inl ⟨?hw3, ?hy3⟩) (by assumption) ?rest3
    case hi3 => (simp only [List.getElem?_toArray, List.getElem?_cons_succ, List.getElem?_cons_zero]; exact rfl)
    case hQ3 => exact fun _ _ _ h => h
    case hw3 => rfl
    case hy3 => ((intro w hSw; (try dsimp only at hSw); go_simp) <;> (with_reducible rfl))
    simp only [Act.put, List.setIfInBounds_toArray, List.set_cons_zero, List.set_cons_succ]
    refine wpAnyH_take (i := 4) (oi := ?oi4) (v := ?vv4) ?hi4 (by kernel_rfl) (by kernel_rfl) (by kernel_rfl) ?hQ4 (Or.inl ⟨?hw4, ?hy4⟩) (by assumption) ?rest4
    case hi4 => (simp only [List.getElem?_toArray, List.getElem?_cons_succ, List.getElem?_cons_zero]; exact rfl)
    case hQ4 => exact fun _ _ _ h => h
    case hw4 => rfl
    case hy4 => ((intro w hSw; (try dsimp only at hSw); go_simp) <;> (with_reducible rfl))
    simp only [Act.put, List.setIfInBounds_toArray, List.set_cons_zero, List.set_cons_succ]
    refine wpAnyH_take (i := 5) (oi := ?oi5) (v := ?vv5) ?hi5 (by kernel_rfl) (by kernel_rfl) (by kernel_rfl) ?hQ5 (Or.inl ⟨?hw5, ?hy5⟩) (by assumption) ?rest5
    case hi5 => (simp only [List.getElem?_toArray, List.getElem?_cons_succ, List.getElem?_cons_zero]; exact rfl)
    case hQ5 => exact fun _ _ _ h => h
    case hw5 => rfl
    case hy5 => ((intro w hSw; (try dsimp only at hSw); go_simp) <;> (with_reducible rfl))
    simp only [Act.put, List.setIfInBounds_toArray, List.set_cons_zero, List.set_cons_succ]
    refine wpAnyH_take (i := 6) (oi := ?oi6) (v := ?vv6) ?hi6 (by kernel_rfl) (by kernel_rfl) (by kernel_rfl) ?hQ6 (Or.inl ⟨?hw6, ?hy6⟩) (by assumption) ?rest6
    case hi6 => (simp only [List.getElem?_toArray, List.getElem?_cons_succ, List.getElem?_cons_zero]; exact rfl)
    case hQ6 => exact fun _ _ _ h => h
    case hw6 => rfl
    case hy6 => ((intro w hSw; (try dsimp only at hSw); go_simp) <;> (with_reducible rfl))
    simp only [Act.put, List.setIfInBounds_toArray, List.set_cons_zero, List.set_cons_succ]
    refine wpAnyH_take (i := 7) (oi := ?oi7) (v := ?vv7) ?hi7 (by kernel_rfl) (by kernel_rfl) (by kernel_rfl) ?hQ7 (Or.inl ⟨?hw7, ?hy7⟩) (by assumption) ?rest7
    case hi7 => (simp only [List.getElem?_toArray, List.getElem?_cons_succ, List.getElem?_cons_zero]; exact rfl)
    case hQ7 => exact fun _ _ _ h => h
    case hw7 => rfl
    case hy7 => ((intro w hSw; (try dsimp only at hSw); go_simp) <;> (with_reducible rfl))
    simp only [Act.put, List.setIfInBounds_toArray, List.set_cons_zero, List.set_cons_succ]
    refine wpAnyH_take (i := 8) (oi := ?oi8) (v := ?vv8) ?hi8 (by kernel_rfl) (by kernel_rfl) (by kernel_rfl) ?hQ8 (Or.inl ⟨?hw8, ?hy8⟩) (by assumption) ?rest8
    case hi8 => (simp only [List.getElem?_toArray, List.getElem?_cons_succ, List.getElem?_cons_zero]; exact rfl)
    case hQ8 => exact fun _ _ _ h => h
    case hw8 => rfl
    case hy8 => ((intro w hSw; (try dsimp only at hSw); go_simp) <;> (with_reducible rfl))
    simp only [Act.put, List.setIfInBounds_toArray, List.set_cons_zero, List.set_cons_succ]
    refine wpAnyH_take (i := 11) (oi := ?oi11) (v := ?vv11) ?hi11 (by kernel_rfl) (by kernel_rfl) (by kernel_rfl) ?hQ11 (Or.inl ⟨?hw11, ?hy11⟩) (by assumption) ?rest11
    case hi11 => (simp only [List.getElem?_toArray, List.getElem?_cons_succ, List.getElem?_cons_zero]; exact rfl)
    case hQ11 => exact fun _ _ _ h => h
    case hw11 => rfl
    case hy11 => ((intro w hSw; (try dsimp only at hSw); go_simp) <;> (with_reducible rfl))
    simp only [Act.put, List.setIfInBounds_toArray, List.set_cons_zero, List.set_cons_succ]
    refine wpAnyH_take (i := 12) (oi := ?oi12) (v := ?vv12) ?hi12 (by kernel_rfl) (by kernel_rfl) (by kernel_rfl) ?hQ12 (Or.inl ⟨?hw12, ?hy12⟩) (by assumption) ?rest12
    case hi12 => (simp only [List.getElem?_toArray, List.getElem?_cons_succ, List.getElem?_cons_zero]; exact rfl)
    case hQ12 => exact fun _ _ _ h => h
    case hw12 => rfl
    case hy12 => ((intro w hSw; (try dsimp only at hSw); go_simp) <;> (with_reducible rfl))
    simp only [Act.put, List.setIfInBounds_toArray, List.set_cons_zero, List.set_cons_succ]
    refine wpAnyH_ready (rs := [9]) (by kernel_rfl) (by simp) ?_
    refine AllReadyH.cons (o := ?o9) ?ho9 (fun K hK => ?st9) AllReadyH.nil
    case ho9 => (simp only [List.getElem?_toArray, List.getElem?_cons_succ, List.getElem?_cons_zero]; exact rfl)
    go_simp
    go_at_call 16
    with_reducible refine hW.mono ?_
    rintro r w7 ⟨A7, n7, c7, rfl, h7, hb7⟩
    have cw7 := hCW _ _ _ _ h7
    try go_wp2_with fail
    refine hK.out _ _ (hS3 _ hb7) (fun hHeld2 => ?_)
    clear hK K
    try simp only [Act.put, List.setIfInBounds_toArray, List.set_cons_zero, List.set_cons_succ]
    refine wpAnyH_ready (rs := [10]) (by kernel_rfl) (by simp) ?_
    refine AllReadyH.cons (o := ?o10) ?ho10 (fun K hK => ?st10) AllReadyH.nil
    case ho10 => (simp only [List.getElem?_toArray, List.getElem?_cons_succ, List.getElem?_cons_zero]; exact rfl)
    go_simp
    refine hK.out _ _ (hS3 _ hb7) (fun hHeld3 => ?_)
    clear hK K
    try simp only [Act.put, List.setIfInBounds_toArray, List.set_cons_zero, List.set_cons_succ]
    refine wpAnyH_take (i := 13) (oi := ?oi13) (v := ?vv13) ?hi13 (by kernel_rfl) (by kernel_rfl) (by kernel_rfl) ?hQ13 (Or.inl ⟨?hw13, ?hy13⟩) (by assumption) ?rest13
    case hi13 => (simp only [List.getElem?_toArray, List.getElem?_cons_succ, List.getElem?_cons_zero]; exact rfl)
    case hQ13 => exact fun _ _ _ h => h
    case hw13 => rfl
    case hy13 => ((intro w hSw; (try dsimp only at hSw); go_simp) <;> (with_reducible rfl))
    simp only [Act.put, List.setIfInBounds_toArray, List.set_cons_zero, List.set_cons_succ]
    refine wpAnyH_take (i := 14) (oi := ?oi14) (v := ?vv14) ?hi14 (by kernel_rfl) (by kernel_rfl) (by kernel_rfl) ?hQ14 (Or.inl ⟨?hw14, ?hy14⟩) (by assumption) ?rest14
    case hi14 => (simp only [List.getElem?_toArray, List.getElem?_cons_succ, List.getElem?_cons_zero]; exact rfl)
    case hQ14 => exact fun _ _ _ h => h
    case hw14 => rfl
    case hy14 => ((intro w hSw; (try dsimp only at hSw); go_simp) <;> (with_reducible rfl))
    simp only [Act.put, List.setIfInBounds_toArray, List.set_cons_zero, List.set_cons_succ]
    refine wpAnyH_take (i := 15) (oi := ?oi15) (v := ?vv15) ?hi15 (by kernel_rfl) (by kernel_rfl) (by kernel_rfl) ?hQ15 (Or.inl ⟨?hw15, ?hy15⟩) (by assumption) ?rest15
    case hi15 => (simp only [List.getElem?_toArray, List.getElem?_cons_succ, List.getElem?_cons_zero]; exact rfl)
    case hQ15 => exact fun _ _ _ h => h
    case hw15 => rfl
    case hy15 => ((intro w hSw; (try dsimp only at hSw); go_simp) <;> (with_reducible rfl))
    simp only [Act.put, List.setIfInBounds_toArray, List.set_cons_zero, List.set_cons_succ]
    refine wpAnyH_done (by kernel_rfl) ?_ _
    all_goals
      try go_wp2_with fail
      go_ret
      have hbe : (L == b) = R := by rw [← HRR.out, Bool.eq_iff_iff]; simp
      exact ⟨by rw [← hbe]; rfl, K6.trans ((k6d.up hb7).mono K6.size)⟩
  · have hRf : R = false := by
      rw [← hR]
      by_cases h0 : 0 < n
      · have hk : (kc == 0) = false := by simp; exact fun hk => hall ⟨h0, hk⟩
        rw [hk]; simp
      · rw [decide_eq_false (by omega)]; rfl
    subst hRf
    clear hR HW
    by_cases h0 : 0 < n
    · have e0 : decide (0 < (n : Int)) = true := decide_eq_true (by omega)
      have e1 : (kc == 0) = false := by simp; exact fun hk => hall ⟨h0, hk⟩
      go_enter Tryz.func9, Tryz.ntmps9
      go_upto_region 2 with (go_at_call 15; refine HR.mono ?_; rintro r w5 ⟨u, rfl, hl5, ho5, hb5⟩)
      have K6 := hb5.up (Below.one w5 (.cells (valCells T u) 28))
      go_quiet (fail)
      go_wp2_with fail
      go_ret
      exact ⟨rfl, K6.trans ((Below.drewN_ _ _).mono K6.size)⟩
    · have e0 : decide (0 < (n : Int)) = false := decide_eq_false (by omega)
      cases e1 : (kc == 0) with
      | true =>
        go_enter Tryz.func9, Tryz.ntmps9
        go_upto_region 2 with (go_at_call 15; refine HR.mono ?_; rintro r w5 ⟨u, rfl, hl5, ho5, hb5⟩)
        have K6 := hb5.up (Below.one w5 (.cells (valCells T u) 28))
        go_quiet (fail)
        go_wp2_with fail
        go_ret
        exact ⟨rfl, K6.trans ((Below.drewN_ _ _).mono K6.size)⟩
      | false =>
        go_enter Tryz.func9, Tryz.ntmps9
        go_upto_region 2 with (go_at_call 15; refine HR.mono ?_; rintro r w5 ⟨u, rfl, hl5, ho5, hb5⟩)
        have K6 := hb5.up (Below.one w5 (.cells (valCells T u) 28))
        go_quiet (fail)
        go_wp2_with fail
        go_ret
        exact ⟨rfl, K6.trans ((Below.drewN_ _ _).mono K6.size)⟩
end Go.Proofs.YtmelnaidjgpclaaGreatDoor

namespace Go.Proofs.YtmelnaidjgpclaaGreatDoor
open Go.RowKit

set_option maxHeartbeats 1600000 in
theorem law_PackedOk (A : Option Addr) (n c : Nat) (b : List UInt8) (w : World) (h : Sl w w.heap.size 1 A n c (u8s b)) (hU : Lib.Utf8Tabs 0 1 w) (hP : PowT w) :
    Calls Tryz.prog 4 #[.slice A n c] w fun e' w' => e' = .returned (.bool true) ∧ Below w.heap.size w w' := by
  by_cases hn : n ≤ 1048576
  rotate_left
  · go_enter Tryz.func4, Tryz.ntmps4
    go_wp2_with fail
    go_ret
    exact ⟨rfl, Below.refl _ _⟩
  have hT : TabUP w := ⟨hU, hP⟩
  have hto := fun w1 hb => l_toB A n c b w w1 h hn hb
  have hS := fun A1 c1 lo w1 (h1 : BS w1 lo A1 n c1 b) (hb1 : Below w.heap.size w w1) => s_PackedOk A1 n c1 b w1 h1.sl hn (hT.below hb1)
  have hI := fun A1 c1 lo w1 (h1 : BS w1 lo A1 n c1 b) (hb1 : Below w.heap.size w w1) => i_PackedOk A1 n c1 b w1 h1.sl hn (hT.below hb1)
  obtain ⟨R, hR⟩ : ∃ R, okPacked b = R := ⟨_, rfl⟩
  rw [hR] at hS hI
  clear hR hU hP hT
  have K0 := Below.refl w.heap.size w
  go_enter Tryz.func4, Tryz.ntmps4
  go_wp2_with fail
  refine (hto _ K0).mono ?_; rintro e w1 ⟨A1, c1, rfl, h1, hb1⟩
  have K1 := K0.up hb1
  go_wp2_with fail
  refine (hS _ _ _ _ h1 K1).mono ?_; rintro e w2 ⟨rfl, hb2⟩
  have K2 := K1.up hb2
  clear h1
  go_wp2_with fail
  refine (hto _ K2).mono ?_; rintro e w3 ⟨A3, c3, rfl, h3, hb3⟩
  have K3 := K2.up hb3
  go_wp2_with fail
  refine (hI _ _ _ _ h3 K3).mono ?_; rintro e w4 ⟨rfl, hb4⟩
  have K4 := K3.up hb4
  have h4 := h3.below hb4
  have hRR : (R != R) = false := by simp
  go_wp2_with fail
  refine (hto _ K4).mono ?_; rintro e w6 ⟨A6, c6, rfl, h6, hb6⟩
  have K6 := K4.up hb6
  go_wp2_with fail
  refine (l_eqByteS _ _ _ b _ _ _ b _ _ (h4.below hb6).sl h6.sl).mono ?_; rintro e w7 ⟨rfl, hd7⟩
  go_wp2_with fail
  go_ret
  exact ⟨rfl, K6.up (hd7.below _)⟩
end Go.Proofs.YtmelnaidjgpclaaGreatDoor
