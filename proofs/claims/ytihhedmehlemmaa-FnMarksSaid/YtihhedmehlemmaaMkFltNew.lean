/- FltNew and BitsFlt: impl and spec. -/
import Derived.Test.YtihhedmehlemmaaMkM5
import Derived.Test.YtihhedmehlemmaaMkM1
import Derived.Deep.LoopGhost
set_option linter.unusedVariables false
set_option maxRecDepth 100000
set_option linter.unusedSimpArgs false
namespace Go.Proofs.Ytihhedmehlemmaa
open Go.RowKit

/-- Halved till it is odd: at most so many times. -/
def strip : Nat → Int → Int → Int × Int
  | 0, m, e => (m, e)
  | k + 1, m, e => if (m.tmod 2 == 0) = true then strip k (m.tdiv 2) (e + 1) else (m, e)
theorem strip_even {k : Nat} {m e : Int} (h : (m.tmod 2 == 0) = true) : strip (k + 1) m e = strip k (m.tdiv 2) (e + 1) := if_pos h
theorem strip_odd {k : Nat} {m e : Int} (h : (m.tmod 2 == 0) = false) : strip (k + 1) m e = (m, e) := if_neg (by rw [h]; decide)
theorem half_facts {m : Int} {k : Nat} (h : (m.tmod 2 == 0) = true) (h0 : m ≠ 0) (hb : m.natAbs < 2 ^ (k + 1)) : m.tdiv 2 ≠ 0 ∧ (m.tdiv 2).natAbs < 2 ^ k ∧ 1 ≤ k ∧ m = 2 * m.tdiv 2 := by
  rw [beq_iff_eq] at h
  have e : m = 2 * m.tdiv 2 := by have := Int.mul_tdiv_add_tmod m 2; omega
  have hp : 2 ^ (k + 1) = 2 * 2 ^ k := by rw [Nat.pow_succ]; omega
  have h1 : m.tdiv 2 ≠ 0 := by omega
  have h2 : (m.tdiv 2).natAbs < 2 ^ k := by omega
  refine ⟨h1, h2, ?_, e⟩
  rcases Nat.eq_zero_or_pos k with rfl | hk
  · simp at h2; omega
  · exact hk
def fltV (m e : Int) (ok : Bool) : Value := .tuple #[.agg #[.int .i64 m, .int .i64 e], .bool ok]
def fltNewIn (m e : Int) : Value := if m = 0 then fltV 0 0 true else if fltOk (strip 64 m e).1 (strip 64 m e).2 = true then fltV (strip 64 m e).1 (strip 64 m e).2 true else fltV 0 0 false
def fltNewV (m e : Int) : Value := if (-1000000000000000 ≤ m ∧ m ≤ 1000000000000000) ∧ -100 ≤ e ∧ e ≤ 100 then fltNewIn m e else fltV 0 0 false
theorem fltNewV_out {m e : Int} (h : ¬ ((-1000000000000000 ≤ m ∧ m ≤ 1000000000000000) ∧ -100 ≤ e ∧ e ≤ 100)) : fltNewV m e = fltV 0 0 false := if_neg h
theorem fltNewV_zero {e : Int} (h : -100 ≤ e ∧ e ≤ 100) : fltNewV 0 e = fltV 0 0 true := by rw [fltNewV, if_pos ⟨by decide, h⟩]; rfl
theorem fltNewV_yes {m e a b : Int} (h : (-1000000000000000 ≤ m ∧ m ≤ 1000000000000000) ∧ -100 ≤ e ∧ e ≤ 100) (h0 : m ≠ 0) (hs : strip 64 m e = (a, b)) (hk : fltOk a b = true) : fltNewV m e = fltV a b true := by
  rw [fltNewV, if_pos h, fltNewIn, if_neg h0, hs, if_pos hk]
theorem fltNewV_no {m e a b : Int} (h : (-1000000000000000 ≤ m ∧ m ≤ 1000000000000000) ∧ -100 ≤ e ∧ e ≤ 100) (h0 : m ≠ 0) (hs : strip 64 m e = (a, b)) (hk : fltOk a b = false) : fltNewV m e = fltV 0 0 false := by
  rw [fltNewV, if_pos h, fltNewIn, if_neg h0, hs, if_neg (by rw [hk]; decide)]
theorem fltNewV_shape (m e : Int) : ∃ (a b : Int) (ok : Bool), fltNewV m e = fltV a b ok := by
  unfold fltNewV fltNewIn
  (repeat' split) <;> exact ⟨_, _, _, rfl⟩
def bitsFltV (n : Int) : Value := if 0 ≤ n ∧ n ≤ 33554431 then fltNewV (if 16777216 ≤ n then -(n % 65536) else n % 65536) (n / 65536 % 256 - 16) else fltV 0 0 false
theorem bitsFltV_out {n : Int} (h : ¬ (0 ≤ n ∧ n ≤ 33554431)) : bitsFltV n = fltV 0 0 false := if_neg h
theorem bitsFltV_neg {n : Int} (h : 16777216 ≤ n) (h2 : n ≤ 33554431) : bitsFltV n = fltNewV (-(n % 65536)) (n / 65536 % 256 - 16) := by rw [bitsFltV, if_pos ⟨by omega, h2⟩, if_pos h]
theorem bitsFltV_pos {n : Int} (h : 0 ≤ n) (h2 : n < 16777216) : bitsFltV n = fltNewV (n % 65536) (n / 65536 % 256 - 16) := by rw [bitsFltV, if_pos ⟨h, by omega⟩, if_neg (by omega)]
theorem bitsFltV_shape (n : Int) : ∃ (a b : Int) (ok : Bool), bitsFltV n = fltV a b ok := by
  unfold bitsFltV
  split
  · exact fltNewV_shape _ _
  · exact ⟨_, _, _, rfl⟩
set_option maxHeartbeats 2000000 in
theorem i_FltNew (m e : Int) (w : World) :
    Calls Try.prog 88 #[.int .i64 m, .int .i64 e] w fun e' w' => e' = .returned (fltNewV m e) ∧ Below w.heap.size w w' := by
  by_cases hm : -1000000000000000 ≤ m ∧ m ≤ 1000000000000000
  · have hb := inR_yes hm.1 hm.2
    by_cases he : -100 ≤ e ∧ e ≤ 100
    · have hb2 := inR_yes he.1 he.2
      by_cases h0 : m = 0
      · subst h0
        have HH := Lib.hid (fltNewV_zero he)
        go_enter Try.func88, Try.ntmps88
        go_wp2_with (go_at_call 50; refine (i_within _ _ _ _).mono ?_; rintro e w' ⟨rfl, rfl⟩)
        rw [HH.out]
        exact bodyPost_ret (results_blk2 Try.results88 Try.isAgg73 (by exact Try.sizeOf73) rfl (Blk.new w _ _)) rfl ⟨rfl, Below.one _ _⟩
      · have h00 : (m == 0) = false := by simpa using h0
        have hmb : m.natAbs < 2 ^ 64 := by omega
        have HM := Lib.hid (And.intro hm he)
        have H0 := Lib.hid h0
        have HB := Lib.hid hmb
        clear hm he h0 hmb
        go_enter Try.func88, Try.ntmps88
        go_wp2_with (go_at_call 50; refine (i_within _ _ _ _).mono ?_; rintro e w' ⟨rfl, rfl⟩)
        go_loopg [0, 1] 64 (fun k a b wr => ∃ m' e' : Int, a = .int .i64 m' ∧ b = .int .i64 e' ∧ strip k m' e' = strip 64 m e ∧ m' ≠ 0 ∧ m'.natAbs < 2 ^ k ∧ -1000000000000000 ≤ m' ∧ m' ≤ 1000000000000000 ∧ -100 ≤ e' ∧ e' + (k : Int) ≤ 164 ∧ wr = w.alloc (.cells #[.int .i64 0, .int .i64 0] 73))
        case atStart =>
          have := HM.out
          exact ⟨m, e, rfl, rfl, rfl, H0.out, HB.out, this.1.1, this.1.2, by omega, by omega, rfl⟩
        case round =>
          obtain ⟨m', e', rfl, rfl, HS, HM0, HMB, b1, b2, he1, he2, rfl⟩ := hrel
          cases hev : (m'.tmod 2 == 0) with
          | true =>
            obtain ⟨k, rfl⟩ : ∃ k, gk = k + 1 := by
              rcases Nat.eq_zero_or_pos gk with h | h
              · subst h; simp at HMB; omega
              · exact ⟨gk - 1, by omega⟩
            obtain ⟨f1, f2, f3, f4⟩ := half_facts hev HM0 HMB
            have b3 : -1000000000000000 ≤ m'.tdiv 2 := by omega
            have b4 : m'.tdiv 2 ≤ 1000000000000000 := by omega
            have hs := Lib.hid HS; have F1 := Lib.hid f1; have F2 := Lib.hid f2; have EV := Lib.hid hev
            clear HS HM0 HMB f1 f2 f4
            go_wp2
            go_roundg k
            case measure => omega
            case rel => exact ⟨m'.tdiv 2, e' + 1, rfl, rfl, by rw [← hs.out, strip_even EV.out], F1.out, F2.out, b3, b4, by omega, by omega, rfl⟩
          | false =>
            have hsv : strip 64 m e = (m', e') := by
              rw [← HS]
              cases gk with
              | zero => rfl
              | succ k => exact strip_odd hev
            have hs := Lib.hid hsv
            clear HS HM0 HMB hsv
            cases hk : fltOk m' e'
            all_goals
              have HK := Lib.hid hk
              go_wp2_with (go_at_call 89; refine (i_FltOk _ _ _ (by omega)).mono ?_; rintro e w1 ⟨rfl, hb1⟩; obtain ⟨hc1, hf1⟩ := bcell hb1; have hz1 : w.heap.size + 1 < w1.heap.size := by have := hb1.size; simp at this; omega)
            all_goals
              have hblk0 : Blk w1 w.heap.size 73 #[.int .i64 0, .int .i64 0] := (Blk.alloc (Blk.new w _ _) _).below hb1 (by simp <;> omega)
            · rw [fltNewV_no HM.out H0.out hs.out HK.out]
              exact bodyPost_ret (results_blk2 Try.results88 Try.isAgg73 (by exact Try.sizeOf73) rfl (hblk0.two _ _)) rfl ⟨rfl, (((Below.two _ _ _).up hb1).setCell (by simp <;> omega) _).setCell (by simp <;> omega) _⟩
            · rw [fltNewV_yes HM.out H0.out hs.out HK.out]
              exact bodyPost_ret (results_blk2 Try.results88 Try.isAgg73 (by exact Try.sizeOf73) rfl (hblk0.two _ _)) rfl ⟨rfl, (((Below.two _ _ _).up hb1).setCell (by simp <;> omega) _).setCell (by simp <;> omega) _⟩
    · have hb2 : inR e (-100) 100 = false := inR_no (by omega)
      have HH := Lib.hid (fltNewV_out (m := m) (e := e) (by omega))
      go_enter Try.func88, Try.ntmps88
      go_wp2_with (go_at_call 50; refine (i_within _ _ _ _).mono ?_; rintro e w' ⟨rfl, rfl⟩)
      rw [HH.out]
      exact bodyPost_ret (results_blk2 Try.results88 Try.isAgg73 (by exact Try.sizeOf73) rfl (Blk.new w _ _)) rfl ⟨rfl, Below.one _ _⟩
  · have hb : inR m (-1000000000000000) 1000000000000000 = false := inR_no (by omega)
    have HH := Lib.hid (fltNewV_out (m := m) (e := e) (by omega))
    go_enter Try.func88, Try.ntmps88
    go_wp2_with (go_at_call 50; refine (i_within _ _ _ _).mono ?_; rintro e w' ⟨rfl, rfl⟩)
    rw [HH.out]
    exact bodyPost_ret (results_blk2 Try.results88 Try.isAgg73 (by exact Try.sizeOf73) rfl (Blk.new w _ _)) rfl ⟨rfl, Below.one _ _⟩
set_option maxHeartbeats 1000000 in
theorem i_BitsFlt (n : Int) (w : World) :
    Calls Try.prog 51 #[.int .i64 n] w fun e' w' => e' = .returned (bitsFltV n) ∧ Below w.heap.size w w' := by
  by_cases hn : 0 ≤ n ∧ n ≤ 33554431
  · have hb := inR_yes hn.1 hn.2
    obtain ⟨h1, h2⟩ := hn
    by_cases hs : 16777216 ≤ n
    · obtain ⟨a, b, ok, hv⟩ := fltNewV_shape (-(n % 65536)) (n / 65536 % 256 - 16)
      have HV := Lib.hid hv; clear hv
      have HH := Lib.hid (bitsFltV_neg hs h2); 
      go_enter Try.func51, Try.ntmps51
      go_wp2_with (first | (go_at_call 50; refine (i_within _ _ _ _).mono ?_; rintro e w' ⟨rfl, rfl⟩) | (go_at_call 88; (try rw [show n / 65536 % 256 + -16 = n / 65536 % 256 - 16 from by omega]); refine (i_FltNew _ _ _).mono ?_; rintro e w1 ⟨rfl, hb1⟩; rw [HV.out]; unfold fltV; obtain ⟨hc1, hf1⟩ := bcell hb1; have hz1 : w.heap.size < w1.heap.size := by have := hb1.size; simp at this; omega))
      have hblk0 : Blk w1 w.heap.size 73 #[.int .i64 0, .int .i64 0] := (Blk.new w _ _).below hb1 (by simp <;> omega)
      rw [HH.out, HV.out]
      exact bodyPost_ret (results_blk2 Try.results51 Try.isAgg73 (by exact Try.sizeOf73) rfl (hblk0.two _ _)) rfl ⟨rfl, ((hb1.boxed).setCell (by simp <;> omega) _).setCell (by simp <;> omega) _⟩
    · obtain ⟨a, b, ok, hv⟩ := fltNewV_shape (n % 65536) (n / 65536 % 256 - 16)
      have HV := Lib.hid hv; clear hv
      have HH := Lib.hid (bitsFltV_pos h1 (by omega : n < 16777216)); 
      go_enter Try.func51, Try.ntmps51
      go_wp2_with (first | (go_at_call 50; refine (i_within _ _ _ _).mono ?_; rintro e w' ⟨rfl, rfl⟩) | (go_at_call 88; (try rw [show n / 65536 % 256 + -16 = n / 65536 % 256 - 16 from by omega]); refine (i_FltNew _ _ _).mono ?_; rintro e w1 ⟨rfl, hb1⟩; rw [HV.out]; unfold fltV; obtain ⟨hc1, hf1⟩ := bcell hb1; have hz1 : w.heap.size < w1.heap.size := by have := hb1.size; simp at this; omega))
      have hblk0 : Blk w1 w.heap.size 73 #[.int .i64 0, .int .i64 0] := (Blk.new w _ _).below hb1 (by simp <;> omega)
      rw [HH.out, HV.out]
      exact bodyPost_ret (results_blk2 Try.results51 Try.isAgg73 (by exact Try.sizeOf73) rfl (hblk0.two _ _)) rfl ⟨rfl, ((hb1.boxed).setCell (by simp <;> omega) _).setCell (by simp <;> omega) _⟩
  · have hb : inR n 0 33554431 = false := inR_no (by omega)
    have HH := Lib.hid (bitsFltV_out hn)
    go_enter Try.func51, Try.ntmps51
    go_wp2_with (go_at_call 50; refine (i_within _ _ _ _).mono ?_; rintro e w' ⟨rfl, rfl⟩)
    rw [HH.out]
    exact bodyPost_ret (results_blk2 Try.results51 Try.isAgg73 (by exact Try.sizeOf73) rfl (Blk.new w _ _)) rfl ⟨rfl, Below.one _ _⟩
set_option maxHeartbeats 2000000 in
theorem s_FltNew (m e : Int) (w : World) :
    Calls Try.prog 90 #[.int .i64 m, .int .i64 e] w fun e' w' => e' = .returned (fltNewV m e) ∧ Below w.heap.size w w' := by
  by_cases hm : -1000000000000000 ≤ m ∧ m ≤ 1000000000000000
  · have hb := inR_yes hm.1 hm.2
    by_cases he : -100 ≤ e ∧ e ≤ 100
    · have hb2 := inR_yes he.1 he.2
      by_cases h0 : m = 0
      · subst h0
        have HH := Lib.hid (fltNewV_zero he)
        go_enter Try.func90, Try.ntmps90
        go_wp2_with (go_at_call 53; refine (s_l1In _ _ _ _).mono ?_; rintro e w' ⟨rfl, rfl⟩)
        rw [HH.out]
        exact bodyPost_ret (results_blk2 Try.results90 Try.isAgg73 (by exact Try.sizeOf73) rfl (Blk.new w _ _)) rfl ⟨rfl, Below.one _ _⟩
      · have h00 : (m == 0) = false := by simpa using h0
        have hmb : m.natAbs < 2 ^ 64 := by omega
        have HM := Lib.hid (And.intro hm he)
        have H0 := Lib.hid h0
        have HB := Lib.hid hmb
        clear hm he h0 hmb
        go_enter Try.func90, Try.ntmps90
        go_wp2_with (go_at_call 53; refine (s_l1In _ _ _ _).mono ?_; rintro e w' ⟨rfl, rfl⟩)
        go_loopg [0, 1] 64 (fun k a b wr => ∃ m' e' : Int, a = .int .i64 m' ∧ b = .int .i64 e' ∧ strip k m' e' = strip 64 m e ∧ m' ≠ 0 ∧ m'.natAbs < 2 ^ k ∧ -1000000000000000 ≤ m' ∧ m' ≤ 1000000000000000 ∧ -100 ≤ e' ∧ e' + (k : Int) ≤ 164 ∧ wr = w.alloc (.cells #[.int .i64 0, .int .i64 0] 73))
        case atStart =>
          have := HM.out
          exact ⟨m, e, rfl, rfl, rfl, H0.out, HB.out, this.1.1, this.1.2, by omega, by omega, rfl⟩
        case round =>
          obtain ⟨m', e', rfl, rfl, HS, HM0, HMB, b1, b2, he1, he2, rfl⟩ := hrel
          cases hev : (m'.tmod 2 == 0) with
          | true =>
            obtain ⟨k, rfl⟩ : ∃ k, gk = k + 1 := by
              rcases Nat.eq_zero_or_pos gk with h | h
              · subst h; simp at HMB; omega
              · exact ⟨gk - 1, by omega⟩
            obtain ⟨f1, f2, f3, f4⟩ := half_facts hev HM0 HMB
            have b3 : -1000000000000000 ≤ m'.tdiv 2 := by omega
            have b4 : m'.tdiv 2 ≤ 1000000000000000 := by omega
            have hs := Lib.hid HS; have F1 := Lib.hid f1; have F2 := Lib.hid f2; have EV := Lib.hid hev
            clear HS HM0 HMB f1 f2 f4
            go_wp2
            go_roundg k
            case measure => omega
            case rel => exact ⟨m'.tdiv 2, e' + 1, rfl, rfl, by rw [← hs.out, strip_even EV.out], F1.out, F2.out, b3, b4, by omega, by omega, rfl⟩
          | false =>
            have hsv : strip 64 m e = (m', e') := by
              rw [← HS]
              cases gk with
              | zero => rfl
              | succ k => exact strip_odd hev
            have hs := Lib.hid hsv
            clear HS HM0 HMB hsv
            cases hk : fltOk m' e'
            all_goals
              have HK := Lib.hid hk
              go_wp2_with (go_at_call 91; refine (s_FltOk _ _ _ (by omega)).mono ?_; rintro e w1 ⟨rfl, hb1⟩; obtain ⟨hc1, hf1⟩ := bcell hb1; have hz1 : w.heap.size + 1 < w1.heap.size := by have := hb1.size; simp at this; omega)
            all_goals
              have hblk0 : Blk w1 w.heap.size 73 #[.int .i64 0, .int .i64 0] := (Blk.alloc (Blk.new w _ _) _).below hb1 (by simp <;> omega)
            · rw [fltNewV_no HM.out H0.out hs.out HK.out]
              exact bodyPost_ret (results_blk2 Try.results90 Try.isAgg73 (by exact Try.sizeOf73) rfl (hblk0.two _ _)) rfl ⟨rfl, (((Below.two _ _ _).up hb1).setCell (by simp <;> omega) _).setCell (by simp <;> omega) _⟩
            · rw [fltNewV_yes HM.out H0.out hs.out HK.out]
              exact bodyPost_ret (results_blk2 Try.results90 Try.isAgg73 (by exact Try.sizeOf73) rfl (hblk0.two _ _)) rfl ⟨rfl, (((Below.two _ _ _).up hb1).setCell (by simp <;> omega) _).setCell (by simp <;> omega) _⟩
    · have hb2 : inR e (-100) 100 = false := inR_no (by omega)
      have HH := Lib.hid (fltNewV_out (m := m) (e := e) (by omega))
      go_enter Try.func90, Try.ntmps90
      go_wp2_with (go_at_call 53; refine (s_l1In _ _ _ _).mono ?_; rintro e w' ⟨rfl, rfl⟩)
      rw [HH.out]
      exact bodyPost_ret (results_blk2 Try.results90 Try.isAgg73 (by exact Try.sizeOf73) rfl (Blk.new w _ _)) rfl ⟨rfl, Below.one _ _⟩
  · have hb : inR m (-1000000000000000) 1000000000000000 = false := inR_no (by omega)
    have HH := Lib.hid (fltNewV_out (m := m) (e := e) (by omega))
    go_enter Try.func90, Try.ntmps90
    go_wp2_with (go_at_call 53; refine (s_l1In _ _ _ _).mono ?_; rintro e w' ⟨rfl, rfl⟩)
    rw [HH.out]
    exact bodyPost_ret (results_blk2 Try.results90 Try.isAgg73 (by exact Try.sizeOf73) rfl (Blk.new w _ _)) rfl ⟨rfl, Below.one _ _⟩
set_option maxHeartbeats 1000000 in
theorem s_BitsFlt (n : Int) (w : World) :
    Calls Try.prog 54 #[.int .i64 n] w fun e' w' => e' = .returned (bitsFltV n) ∧ Below w.heap.size w w' := by
  by_cases hn : 0 ≤ n ∧ n ≤ 33554431
  · have hb := inR_yes hn.1 hn.2
    obtain ⟨h1, h2⟩ := hn
    by_cases hs : 16777216 ≤ n
    · obtain ⟨a, b, ok, hv⟩ := fltNewV_shape (-(n % 65536)) (n / 65536 % 256 - 16)
      have HV := Lib.hid hv; clear hv
      have HH := Lib.hid (bitsFltV_neg hs h2); 
      go_enter Try.func54, Try.ntmps54
      go_wp2_with (first | (go_at_call 53; refine (s_l1In _ _ _ _).mono ?_; rintro e w' ⟨rfl, rfl⟩) | (go_at_call 90; (try rw [show n / 65536 % 256 + -16 = n / 65536 % 256 - 16 from by omega]); refine (s_FltNew _ _ _).mono ?_; rintro e w1 ⟨rfl, hb1⟩; rw [HV.out]; unfold fltV; obtain ⟨hc1, hf1⟩ := bcell hb1; have hz1 : w.heap.size < w1.heap.size := by have := hb1.size; simp at this; omega))
      have hblk0 : Blk w1 w.heap.size 73 #[.int .i64 0, .int .i64 0] := (Blk.new w _ _).below hb1 (by simp <;> omega)
      rw [HH.out, HV.out]
      exact bodyPost_ret (results_blk2 Try.results54 Try.isAgg73 (by exact Try.sizeOf73) rfl (hblk0.two _ _)) rfl ⟨rfl, ((hb1.boxed).setCell (by simp <;> omega) _).setCell (by simp <;> omega) _⟩
    · obtain ⟨a, b, ok, hv⟩ := fltNewV_shape (n % 65536) (n / 65536 % 256 - 16)
      have HV := Lib.hid hv; clear hv
      have HH := Lib.hid (bitsFltV_pos h1 (by omega : n < 16777216)); 
      go_enter Try.func54, Try.ntmps54
      go_wp2_with (first | (go_at_call 53; refine (s_l1In _ _ _ _).mono ?_; rintro e w' ⟨rfl, rfl⟩) | (go_at_call 90; (try rw [show n / 65536 % 256 + -16 = n / 65536 % 256 - 16 from by omega]); refine (s_FltNew _ _ _).mono ?_; rintro e w1 ⟨rfl, hb1⟩; rw [HV.out]; unfold fltV; obtain ⟨hc1, hf1⟩ := bcell hb1; have hz1 : w.heap.size < w1.heap.size := by have := hb1.size; simp at this; omega))
      have hblk0 : Blk w1 w.heap.size 73 #[.int .i64 0, .int .i64 0] := (Blk.new w _ _).below hb1 (by simp <;> omega)
      rw [HH.out, HV.out]
      exact bodyPost_ret (results_blk2 Try.results54 Try.isAgg73 (by exact Try.sizeOf73) rfl (hblk0.two _ _)) rfl ⟨rfl, ((hb1.boxed).setCell (by simp <;> omega) _).setCell (by simp <;> omega) _⟩
  · have hb : inR n 0 33554431 = false := inR_no (by omega)
    have HH := Lib.hid (bitsFltV_out hn)
    go_enter Try.func54, Try.ntmps54
    go_wp2_with (go_at_call 53; refine (s_l1In _ _ _ _).mono ?_; rintro e w' ⟨rfl, rfl⟩)
    rw [HH.out]
    exact bodyPost_ret (results_blk2 Try.results54 Try.isAgg73 (by exact Try.sizeOf73) rfl (Blk.new w _ _)) rfl ⟨rfl, Below.one _ _⟩
end Go.Proofs.Ytihhedmehlemmaa
