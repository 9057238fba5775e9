/- The forms of a mark's first byte. -/
import Derived.Test.YtihhedmehlemmaaMkPutMark
set_option linter.unusedVariables false
set_option maxRecDepth 100000
set_option linter.unusedSimpArgs false
namespace Go.Proofs.Ytihhedmehlemmaa
open Go.RowKit

/-- The mark that one byte is: its kind, its number, whether it is one. -/
def shortM (c : Int) : Int × Int × Bool :=
  if c < 128 then (3, c, true) else if c < 144 then (10, c - 128, true) else if c < 160 then (9, c - 144, true) else if c < 192 then (7, c - 160, true)
  else if c = 192 then (1, 0, true) else if c = 194 ∨ c = 195 then (2, c - 194, true) else if 224 ≤ c then (3, c - 256, true) else (0, 0, false)
/-- What another byte begins: the kind, and in how many bytes the number stands. -/
def formM (c : Int) : Int × Int :=
  if 196 ≤ c ∧ c ≤ 198 then (8, 2 ^ (c - 196).toNat) else if c = 202 then (4, 4) else if 204 ≤ c ∧ c ≤ 207 then (3, 2 ^ (c - 204).toNat) else if 208 ≤ c ∧ c ≤ 211 then (3, 2 ^ (c - 208).toNat)
  else if c = 212 then (5, 2) else if 217 ≤ c ∧ c ≤ 219 then (7, 2 ^ (c - 217).toNat) else if c = 220 ∨ c = 221 then (9, 2 * 2 ^ (c - 220).toNat) else if c = 222 ∨ c = 223 then (10, 2 * 2 ^ (c - 222).toNat) else (0, 0)
set_option maxHeartbeats 800000 in
theorem i_shortMark (c : Int) (w : World) (hc : 0 ≤ c ∧ c ≤ 255) :
    Calls Try.prog 57 #[.int .i64 c] w fun r w' => r = .returned (.tuple #[.agg #[.int .i64 (shortM c).1, .int .i64 (shortM c).2.1], .bool (shortM c).2.2]) ∧ Below w.heap.size w w' := by
  have hres : ∀ (a b : Int) (ok : Bool), shortM c = (a, b, ok) → (Calls Try.prog 57 #[.int .i64 c] w fun r w' => r = .returned (.tuple #[.agg #[.int .i64 a, .int .i64 b], .bool ok]) ∧ Below w.heap.size w w') → Calls Try.prog 57 #[.int .i64 c] w fun r w' => r = .returned (.tuple #[.agg #[.int .i64 (shortM c).1, .int .i64 (shortM c).2.1], .bool (shortM c).2.2]) ∧ Below w.heap.size w w' := by
    intro a b ok h h2
    rw [h]; exact h2
  by_cases h0 : c < 128
  · refine hres 3 c true (by unfold shortM; (repeat' split) <;> first | rfl | omega) ?_
    clear hres
    have e2 : (c == 192) = false := by simp; omega
    have e4 : (c == 194) = false := by simp; omega
    have e5 : (c == 195) = false := by simp; omega
    go_enter Try.func57, Try.ntmps57
    go_wp2_with fail
    exact bodyPost_ret (results_blk2 Try.results57 Try.isAgg36 (by exact Try.sizeOf36) rfl (Blk.new w _ _)) rfl ⟨rfl, Below.one _ _⟩
  by_cases h1 : 128 ≤ c ∧ c < 144
  · refine hres 10 (c - 128) true (by unfold shortM; (repeat' split) <;> first | rfl | omega) ?_
    clear hres
    have e2 : (c == 192) = false := by simp; omega
    have e4 : (c == 194) = false := by simp; omega
    have e5 : (c == 195) = false := by simp; omega
    go_enter Try.func57, Try.ntmps57
    go_wp2_with fail
    exact bodyPost_ret (results_blk2 Try.results57 Try.isAgg36 (by exact Try.sizeOf36) rfl (Blk.new w _ _)) rfl ⟨rfl, Below.one _ _⟩
  by_cases h2 : 144 ≤ c ∧ c < 160
  · refine hres 9 (c - 144) true (by unfold shortM; (repeat' split) <;> first | rfl | omega) ?_
    clear hres
    have e2 : (c == 192) = false := by simp; omega
    have e4 : (c == 194) = false := by simp; omega
    have e5 : (c == 195) = false := by simp; omega
    go_enter Try.func57, Try.ntmps57
    go_wp2_with fail
    exact bodyPost_ret (results_blk2 Try.results57 Try.isAgg36 (by exact Try.sizeOf36) rfl (Blk.new w _ _)) rfl ⟨rfl, Below.one _ _⟩
  by_cases h3 : 160 ≤ c ∧ c < 192
  · refine hres 7 (c - 160) true (by unfold shortM; (repeat' split) <;> first | rfl | omega) ?_
    clear hres
    have e2 : (c == 192) = false := by simp; omega
    have e4 : (c == 194) = false := by simp; omega
    have e5 : (c == 195) = false := by simp; omega
    go_enter Try.func57, Try.ntmps57
    go_wp2_with fail
    exact bodyPost_ret (results_blk2 Try.results57 Try.isAgg36 (by exact Try.sizeOf36) rfl (Blk.new w _ _)) rfl ⟨rfl, Below.one _ _⟩
  by_cases h4 : c = 192
  · refine hres 1 0 true (by unfold shortM; (repeat' split) <;> first | rfl | omega) ?_
    clear hres
    subst h4
    go_enter Try.func57, Try.ntmps57
    go_wp2_with fail
    exact bodyPost_ret (results_blk2 Try.results57 Try.isAgg36 (by exact Try.sizeOf36) rfl (Blk.new w _ _)) rfl ⟨rfl, Below.one _ _⟩
  by_cases h5 : c = 194 ∨ c = 195
  · refine hres 2 (c - 194) true (by unfold shortM; (repeat' split) <;> first | rfl | omega) ?_
    clear hres
    rcases h5 with rfl | rfl
    all_goals
      go_enter Try.func57, Try.ntmps57
      go_wp2_with fail
      exact bodyPost_ret (results_blk2 Try.results57 Try.isAgg36 (by exact Try.sizeOf36) rfl (Blk.new w _ _)) rfl ⟨rfl, Below.one _ _⟩
  by_cases h6 : 224 ≤ c
  · refine hres 3 (c - 256) true (by unfold shortM; (repeat' split) <;> first | rfl | omega) ?_
    clear hres
    have e2 : (c == 192) = false := by simp; omega
    have e4 : (c == 194) = false := by simp; omega
    have e5 : (c == 195) = false := by simp; omega
    go_enter Try.func57, Try.ntmps57
    go_wp2_with fail
    exact bodyPost_ret (results_blk2 Try.results57 Try.isAgg36 (by exact Try.sizeOf36) rfl (Blk.new w _ _)) rfl ⟨rfl, Below.one _ _⟩
  · refine hres 0 0 false (by unfold shortM; (repeat' split) <;> first | rfl | omega) ?_
    clear hres
    have e2 : (c == 192) = false := by simp; omega
    have e4 : (c == 194) = false := by simp; omega
    have e5 : (c == 195) = false := by simp; omega
    go_enter Try.func57, Try.ntmps57
    go_wp2_with fail
    exact bodyPost_ret (results_blk2 Try.results57 Try.isAgg36 (by exact Try.sizeOf36) rfl (Blk.new w _ _)) rfl ⟨rfl, Below.one _ _⟩
set_option maxHeartbeats 800000 in
theorem s_l15Byte (c : Int) (w : World) (hc : 0 ≤ c ∧ c ≤ 255) :
    Calls Try.prog 63 #[.int .i64 c] w fun r w' => r = .returned (.tuple #[.agg #[.int .i64 (shortM c).1, .int .i64 (shortM c).2.1], .bool (shortM c).2.2]) ∧ Below w.heap.size w w' := by
  have hres : ∀ (a b : Int) (ok : Bool), shortM c = (a, b, ok) → (Calls Try.prog 63 #[.int .i64 c] w fun r w' => r = .returned (.tuple #[.agg #[.int .i64 a, .int .i64 b], .bool ok]) ∧ Below w.heap.size w w') → Calls Try.prog 63 #[.int .i64 c] w fun r w' => r = .returned (.tuple #[.agg #[.int .i64 (shortM c).1, .int .i64 (shortM c).2.1], .bool (shortM c).2.2]) ∧ Below w.heap.size w w' := by
    intro a b ok h h2
    rw [h]; exact h2
  by_cases h0 : c < 128
  · refine hres 3 c true (by unfold shortM; (repeat' split) <;> first | rfl | omega) ?_
    clear hres
    have e2 : (c == 192) = false := by simp; omega
    have e4 : (c == 194) = false := by simp; omega
    have e5 : (c == 195) = false := by simp; omega
    go_enter Try.func63, Try.ntmps63
    go_wp2_with fail
    exact bodyPost_ret (results_blk2 Try.results63 Try.isAgg36 (by exact Try.sizeOf36) rfl (Blk.new w _ _)) rfl ⟨rfl, Below.one _ _⟩
  by_cases h1 : 128 ≤ c ∧ c < 144
  · refine hres 10 (c - 128) true (by unfold shortM; (repeat' split) <;> first | rfl | omega) ?_
    clear hres
    have e2 : (c == 192) = false := by simp; omega
    have e4 : (c == 194) = false := by simp; omega
    have e5 : (c == 195) = false := by simp; omega
    go_enter Try.func63, Try.ntmps63
    go_wp2_with fail
    exact bodyPost_ret (results_blk2 Try.results63 Try.isAgg36 (by exact Try.sizeOf36) rfl (Blk.new w _ _)) rfl ⟨rfl, Below.one _ _⟩
  by_cases h2 : 144 ≤ c ∧ c < 160
  · refine hres 9 (c - 144) true (by unfold shortM; (repeat' split) <;> first | rfl | omega) ?_
    clear hres
    have e2 : (c == 192) = false := by simp; omega
    have e4 : (c == 194) = false := by simp; omega
    have e5 : (c == 195) = false := by simp; omega
    go_enter Try.func63, Try.ntmps63
    go_wp2_with fail
    exact bodyPost_ret (results_blk2 Try.results63 Try.isAgg36 (by exact Try.sizeOf36) rfl (Blk.new w _ _)) rfl ⟨rfl, Below.one _ _⟩
  by_cases h3 : 160 ≤ c ∧ c < 192
  · refine hres 7 (c - 160) true (by unfold shortM; (repeat' split) <;> first | rfl | omega) ?_
    clear hres
    have e2 : (c == 192) = false := by simp; omega
    have e4 : (c == 194) = false := by simp; omega
    have e5 : (c == 195) = false := by simp; omega
    go_enter Try.func63, Try.ntmps63
    go_wp2_with fail
    exact bodyPost_ret (results_blk2 Try.results63 Try.isAgg36 (by exact Try.sizeOf36) rfl (Blk.new w _ _)) rfl ⟨rfl, Below.one _ _⟩
  by_cases h4 : c = 192
  · refine hres 1 0 true (by unfold shortM; (repeat' split) <;> first | rfl | omega) ?_
    clear hres
    subst h4
    go_enter Try.func63, Try.ntmps63
    go_wp2_with fail
    exact bodyPost_ret (results_blk2 Try.results63 Try.isAgg36 (by exact Try.sizeOf36) rfl (Blk.new w _ _)) rfl ⟨rfl, Below.one _ _⟩
  by_cases h5 : c = 194 ∨ c = 195
  · refine hres 2 (c - 194) true (by unfold shortM; (repeat' split) <;> first | rfl | omega) ?_
    clear hres
    rcases h5 with rfl | rfl
    all_goals
      go_enter Try.func63, Try.ntmps63
      go_wp2_with fail
      exact bodyPost_ret (results_blk2 Try.results63 Try.isAgg36 (by exact Try.sizeOf36) rfl (Blk.new w _ _)) rfl ⟨rfl, Below.one _ _⟩
  by_cases h6 : 224 ≤ c
  · refine hres 3 (c - 256) true (by unfold shortM; (repeat' split) <;> first | rfl | omega) ?_
    clear hres
    have e2 : (c == 192) = false := by simp; omega
    have e4 : (c == 194) = false := by simp; omega
    have e5 : (c == 195) = false := by simp; omega
    go_enter Try.func63, Try.ntmps63
    go_wp2_with fail
    exact bodyPost_ret (results_blk2 Try.results63 Try.isAgg36 (by exact Try.sizeOf36) rfl (Blk.new w _ _)) rfl ⟨rfl, Below.one _ _⟩
  · refine hres 0 0 false (by unfold shortM; (repeat' split) <;> first | rfl | omega) ?_
    clear hres
    have e2 : (c == 192) = false := by simp; omega
    have e4 : (c == 194) = false := by simp; omega
    have e5 : (c == 195) = false := by simp; omega
    go_enter Try.func63, Try.ntmps63
    go_wp2_with fail
    exact bodyPost_ret (results_blk2 Try.results63 Try.isAgg36 (by exact Try.sizeOf36) rfl (Blk.new w _ _)) rfl ⟨rfl, Below.one _ _⟩
set_option maxHeartbeats 2000000 in
theorem i_markForm (c : Int) (w : World) (hc : c = 193 ∨ (196 ≤ c ∧ c ≤ 223)) :
    Calls Try.prog 58 #[.int .i64 c] w fun r w' => r = .returned (.tuple #[.int .i64 (formM c).1, .int .i64 (formM c).2]) ∧ w = w' := by
  have h : c = 193 ∨ c = 196 ∨ c = 197 ∨ c = 198 ∨ c = 199 ∨ c = 200 ∨ c = 201 ∨ c = 202 ∨ c = 203 ∨ c = 204 ∨ c = 205 ∨ c = 206 ∨ c = 207 ∨ c = 208 ∨ c = 209 ∨ c = 210 ∨ c = 211 ∨ c = 212 ∨ c = 213 ∨ c = 214 ∨ c = 215 ∨ c = 216 ∨ c = 217 ∨ c = 218 ∨ c = 219 ∨ c = 220 ∨ c = 221 ∨ c = 222 ∨ c = 223 := by omega
  rcases h with rfl | rfl | rfl | rfl | rfl | rfl | rfl | rfl | rfl | rfl | rfl | rfl | rfl | rfl | rfl | rfl | rfl | rfl | rfl | rfl | rfl | rfl | rfl | rfl | rfl | rfl | rfl | rfl | rfl
  · skip
    have b196 : inR 193 196 198 = false := by decide
    have b204 : inR 193 204 207 = false := by decide
    have b208 : inR 193 208 211 = false := by decide
    have b217 : inR 193 217 219 = false := by decide
    go_enter Try.func58, Try.ntmps58
    go_wp2_with (go_at_call 50; refine (i_within _ _ _ _).mono ?_; rintro e w' ⟨rfl, rfl⟩)
    exact bodyPost_ret (results_tmp2 Try.results58 _ _ _) rfl ⟨rfl, rfl⟩
  · skip
    have b196 : inR 196 196 198 = true := by decide
    have b204 : inR 196 204 207 = false := by decide
    have b208 : inR 196 208 211 = false := by decide
    have b217 : inR 196 217 219 = false := by decide
    go_enter Try.func58, Try.ntmps58
    go_wp2_with (go_at_call 50; refine (i_within _ _ _ _).mono ?_; rintro e w' ⟨rfl, rfl⟩)
    exact bodyPost_ret (results_tmp2 Try.results58 _ _ _) rfl ⟨rfl, rfl⟩
  · skip
    have b196 : inR 197 196 198 = true := by decide
    have b204 : inR 197 204 207 = false := by decide
    have b208 : inR 197 208 211 = false := by decide
    have b217 : inR 197 217 219 = false := by decide
    go_enter Try.func58, Try.ntmps58
    go_wp2_with (go_at_call 50; refine (i_within _ _ _ _).mono ?_; rintro e w' ⟨rfl, rfl⟩)
    exact bodyPost_ret (results_tmp2 Try.results58 _ _ _) rfl ⟨rfl, rfl⟩
  · skip
    have b196 : inR 198 196 198 = true := by decide
    have b204 : inR 198 204 207 = false := by decide
    have b208 : inR 198 208 211 = false := by decide
    have b217 : inR 198 217 219 = false := by decide
    go_enter Try.func58, Try.ntmps58
    go_wp2_with (go_at_call 50; refine (i_within _ _ _ _).mono ?_; rintro e w' ⟨rfl, rfl⟩)
    exact bodyPost_ret (results_tmp2 Try.results58 _ _ _) rfl ⟨rfl, rfl⟩
  · skip
    have b196 : inR 199 196 198 = false := by decide
    have b204 : inR 199 204 207 = false := by decide
    have b208 : inR 199 208 211 = false := by decide
    have b217 : inR 199 217 219 = false := by decide
    go_enter Try.func58, Try.ntmps58
    go_wp2_with (go_at_call 50; refine (i_within _ _ _ _).mono ?_; rintro e w' ⟨rfl, rfl⟩)
    exact bodyPost_ret (results_tmp2 Try.results58 _ _ _) rfl ⟨rfl, rfl⟩
  · skip
    have b196 : inR 200 196 198 = false := by decide
    have b204 : inR 200 204 207 = false := by decide
    have b208 : inR 200 208 211 = false := by decide
    have b217 : inR 200 217 219 = false := by decide
    go_enter Try.func58, Try.ntmps58
    go_wp2_with (go_at_call 50; refine (i_within _ _ _ _).mono ?_; rintro e w' ⟨rfl, rfl⟩)
    exact bodyPost_ret (results_tmp2 Try.results58 _ _ _) rfl ⟨rfl, rfl⟩
  · skip
    have b196 : inR 201 196 198 = false := by decide
    have b204 : inR 201 204 207 = false := by decide
    have b208 : inR 201 208 211 = false := by decide
    have b217 : inR 201 217 219 = false := by decide
    go_enter Try.func58, Try.ntmps58
    go_wp2_with (go_at_call 50; refine (i_within _ _ _ _).mono ?_; rintro e w' ⟨rfl, rfl⟩)
    exact bodyPost_ret (results_tmp2 Try.results58 _ _ _) rfl ⟨rfl, rfl⟩
  · skip
    have b196 : inR 202 196 198 = false := by decide
    have b204 : inR 202 204 207 = false := by decide
    have b208 : inR 202 208 211 = false := by decide
    have b217 : inR 202 217 219 = false := by decide
    go_enter Try.func58, Try.ntmps58
    go_wp2_with (go_at_call 50; refine (i_within _ _ _ _).mono ?_; rintro e w' ⟨rfl, rfl⟩)
    exact bodyPost_ret (results_tmp2 Try.results58 _ _ _) rfl ⟨rfl, rfl⟩
  · skip
    have b196 : inR 203 196 198 = false := by decide
    have b204 : inR 203 204 207 = false := by decide
    have b208 : inR 203 208 211 = false := by decide
    have b217 : inR 203 217 219 = false := by decide
    go_enter Try.func58, Try.ntmps58
    go_wp2_with (go_at_call 50; refine (i_within _ _ _ _).mono ?_; rintro e w' ⟨rfl, rfl⟩)
    exact bodyPost_ret (results_tmp2 Try.results58 _ _ _) rfl ⟨rfl, rfl⟩
  · skip
    have b196 : inR 204 196 198 = false := by decide
    have b204 : inR 204 204 207 = true := by decide
    have b208 : inR 204 208 211 = false := by decide
    have b217 : inR 204 217 219 = false := by decide
    go_enter Try.func58, Try.ntmps58
    go_wp2_with (go_at_call 50; refine (i_within _ _ _ _).mono ?_; rintro e w' ⟨rfl, rfl⟩)
    exact bodyPost_ret (results_tmp2 Try.results58 _ _ _) rfl ⟨rfl, rfl⟩
  · skip
    have b196 : inR 205 196 198 = false := by decide
    have b204 : inR 205 204 207 = true := by decide
    have b208 : inR 205 208 211 = false := by decide
    have b217 : inR 205 217 219 = false := by decide
    go_enter Try.func58, Try.ntmps58
    go_wp2_with (go_at_call 50; refine (i_within _ _ _ _).mono ?_; rintro e w' ⟨rfl, rfl⟩)
    exact bodyPost_ret (results_tmp2 Try.results58 _ _ _) rfl ⟨rfl, rfl⟩
  · skip
    have b196 : inR 206 196 198 = false := by decide
    have b204 : inR 206 204 207 = true := by decide
    have b208 : inR 206 208 211 = false := by decide
    have b217 : inR 206 217 219 = false := by decide
    go_enter Try.func58, Try.ntmps58
    go_wp2_with (go_at_call 50; refine (i_within _ _ _ _).mono ?_; rintro e w' ⟨rfl, rfl⟩)
    exact bodyPost_ret (results_tmp2 Try.results58 _ _ _) rfl ⟨rfl, rfl⟩
  · skip
    have b196 : inR 207 196 198 = false := by decide
    have b204 : inR 207 204 207 = true := by decide
    have b208 : inR 207 208 211 = false := by decide
    have b217 : inR 207 217 219 = false := by decide
    go_enter Try.func58, Try.ntmps58
    go_wp2_with (go_at_call 50; refine (i_within _ _ _ _).mono ?_; rintro e w' ⟨rfl, rfl⟩)
    exact bodyPost_ret (results_tmp2 Try.results58 _ _ _) rfl ⟨rfl, rfl⟩
  · skip
    have b196 : inR 208 196 198 = false := by decide
    have b204 : inR 208 204 207 = false := by decide
    have b208 : inR 208 208 211 = true := by decide
    have b217 : inR 208 217 219 = false := by decide
    go_enter Try.func58, Try.ntmps58
    go_wp2_with (go_at_call 50; refine (i_within _ _ _ _).mono ?_; rintro e w' ⟨rfl, rfl⟩)
    exact bodyPost_ret (results_tmp2 Try.results58 _ _ _) rfl ⟨rfl, rfl⟩
  · skip
    have b196 : inR 209 196 198 = false := by decide
    have b204 : inR 209 204 207 = false := by decide
    have b208 : inR 209 208 211 = true := by decide
    have b217 : inR 209 217 219 = false := by decide
    go_enter Try.func58, Try.ntmps58
    go_wp2_with (go_at_call 50; refine (i_within _ _ _ _).mono ?_; rintro e w' ⟨rfl, rfl⟩)
    exact bodyPost_ret (results_tmp2 Try.results58 _ _ _) rfl ⟨rfl, rfl⟩
  · skip
    have b196 : inR 210 196 198 = false := by decide
    have b204 : inR 210 204 207 = false := by decide
    have b208 : inR 210 208 211 = true := by decide
    have b217 : inR 210 217 219 = false := by decide
    go_enter Try.func58, Try.ntmps58
    go_wp2_with (go_at_call 50; refine (i_within _ _ _ _).mono ?_; rintro e w' ⟨rfl, rfl⟩)
    exact bodyPost_ret (results_tmp2 Try.results58 _ _ _) rfl ⟨rfl, rfl⟩
  · skip
    have b196 : inR 211 196 198 = false := by decide
    have b204 : inR 211 204 207 = false := by decide
    have b208 : inR 211 208 211 = true := by decide
    have b217 : inR 211 217 219 = false := by decide
    go_enter Try.func58, Try.ntmps58
    go_wp2_with (go_at_call 50; refine (i_within _ _ _ _).mono ?_; rintro e w' ⟨rfl, rfl⟩)
    exact bodyPost_ret (results_tmp2 Try.results58 _ _ _) rfl ⟨rfl, rfl⟩
  · skip
    have b196 : inR 212 196 198 = false := by decide
    have b204 : inR 212 204 207 = false := by decide
    have b208 : inR 212 208 211 = false := by decide
    have b217 : inR 212 217 219 = false := by decide
    go_enter Try.func58, Try.ntmps58
    go_wp2_with (go_at_call 50; refine (i_within _ _ _ _).mono ?_; rintro e w' ⟨rfl, rfl⟩)
    exact bodyPost_ret (results_tmp2 Try.results58 _ _ _) rfl ⟨rfl, rfl⟩
  · skip
    have b196 : inR 213 196 198 = false := by decide
    have b204 : inR 213 204 207 = false := by decide
    have b208 : inR 213 208 211 = false := by decide
    have b217 : inR 213 217 219 = false := by decide
    go_enter Try.func58, Try.ntmps58
    go_wp2_with (go_at_call 50; refine (i_within _ _ _ _).mono ?_; rintro e w' ⟨rfl, rfl⟩)
    exact bodyPost_ret (results_tmp2 Try.results58 _ _ _) rfl ⟨rfl, rfl⟩
  · skip
    have b196 : inR 214 196 198 = false := by decide
    have b204 : inR 214 204 207 = false := by decide
    have b208 : inR 214 208 211 = false := by decide
    have b217 : inR 214 217 219 = false := by decide
    go_enter Try.func58, Try.ntmps58
    go_wp2_with (go_at_call 50; refine (i_within _ _ _ _).mono ?_; rintro e w' ⟨rfl, rfl⟩)
    exact bodyPost_ret (results_tmp2 Try.results58 _ _ _) rfl ⟨rfl, rfl⟩
  · skip
    have b196 : inR 215 196 198 = false := by decide
    have b204 : inR 215 204 207 = false := by decide
    have b208 : inR 215 208 211 = false := by decide
    have b217 : inR 215 217 219 = false := by decide
    go_enter Try.func58, Try.ntmps58
    go_wp2_with (go_at_call 50; refine (i_within _ _ _ _).mono ?_; rintro e w' ⟨rfl, rfl⟩)
    exact bodyPost_ret (results_tmp2 Try.results58 _ _ _) rfl ⟨rfl, rfl⟩
  · skip
    have b196 : inR 216 196 198 = false := by decide
    have b204 : inR 216 204 207 = false := by decide
    have b208 : inR 216 208 211 = false := by decide
    have b217 : inR 216 217 219 = false := by decide
    go_enter Try.func58, Try.ntmps58
    go_wp2_with (go_at_call 50; refine (i_within _ _ _ _).mono ?_; rintro e w' ⟨rfl, rfl⟩)
    exact bodyPost_ret (results_tmp2 Try.results58 _ _ _) rfl ⟨rfl, rfl⟩
  · skip
    have b196 : inR 217 196 198 = false := by decide
    have b204 : inR 217 204 207 = false := by decide
    have b208 : inR 217 208 211 = false := by decide
    have b217 : inR 217 217 219 = true := by decide
    go_enter Try.func58, Try.ntmps58
    go_wp2_with (go_at_call 50; refine (i_within _ _ _ _).mono ?_; rintro e w' ⟨rfl, rfl⟩)
    exact bodyPost_ret (results_tmp2 Try.results58 _ _ _) rfl ⟨rfl, rfl⟩
  · skip
    have b196 : inR 218 196 198 = false := by decide
    have b204 : inR 218 204 207 = false := by decide
    have b208 : inR 218 208 211 = false := by decide
    have b217 : inR 218 217 219 = true := by decide
    go_enter Try.func58, Try.ntmps58
    go_wp2_with (go_at_call 50; refine (i_within _ _ _ _).mono ?_; rintro e w' ⟨rfl, rfl⟩)
    exact bodyPost_ret (results_tmp2 Try.results58 _ _ _) rfl ⟨rfl, rfl⟩
  · skip
    have b196 : inR 219 196 198 = false := by decide
    have b204 : inR 219 204 207 = false := by decide
    have b208 : inR 219 208 211 = false := by decide
    have b217 : inR 219 217 219 = true := by decide
    go_enter Try.func58, Try.ntmps58
    go_wp2_with (go_at_call 50; refine (i_within _ _ _ _).mono ?_; rintro e w' ⟨rfl, rfl⟩)
    exact bodyPost_ret (results_tmp2 Try.results58 _ _ _) rfl ⟨rfl, rfl⟩
  · skip
    have b196 : inR 220 196 198 = false := by decide
    have b204 : inR 220 204 207 = false := by decide
    have b208 : inR 220 208 211 = false := by decide
    have b217 : inR 220 217 219 = false := by decide
    go_enter Try.func58, Try.ntmps58
    go_wp2_with (go_at_call 50; refine (i_within _ _ _ _).mono ?_; rintro e w' ⟨rfl, rfl⟩)
    exact bodyPost_ret (results_tmp2 Try.results58 _ _ _) rfl ⟨rfl, rfl⟩
  · skip
    have b196 : inR 221 196 198 = false := by decide
    have b204 : inR 221 204 207 = false := by decide
    have b208 : inR 221 208 211 = false := by decide
    have b217 : inR 221 217 219 = false := by decide
    go_enter Try.func58, Try.ntmps58
    go_wp2_with (go_at_call 50; refine (i_within _ _ _ _).mono ?_; rintro e w' ⟨rfl, rfl⟩)
    exact bodyPost_ret (results_tmp2 Try.results58 _ _ _) rfl ⟨rfl, rfl⟩
  · skip
    have b196 : inR 222 196 198 = false := by decide
    have b204 : inR 222 204 207 = false := by decide
    have b208 : inR 222 208 211 = false := by decide
    have b217 : inR 222 217 219 = false := by decide
    go_enter Try.func58, Try.ntmps58
    go_wp2_with (go_at_call 50; refine (i_within _ _ _ _).mono ?_; rintro e w' ⟨rfl, rfl⟩)
    exact bodyPost_ret (results_tmp2 Try.results58 _ _ _) rfl ⟨rfl, rfl⟩
  · skip
    have b196 : inR 223 196 198 = false := by decide
    have b204 : inR 223 204 207 = false := by decide
    have b208 : inR 223 208 211 = false := by decide
    have b217 : inR 223 217 219 = false := by decide
    go_enter Try.func58, Try.ntmps58
    go_wp2_with (go_at_call 50; refine (i_within _ _ _ _).mono ?_; rintro e w' ⟨rfl, rfl⟩)
    exact bodyPost_ret (results_tmp2 Try.results58 _ _ _) rfl ⟨rfl, rfl⟩
set_option maxHeartbeats 2000000 in
theorem s_l15Kind (c : Int) (w : World) (hc : c = 193 ∨ (196 ≤ c ∧ c ≤ 223)) :
    Calls Try.prog 64 #[.int .i64 c] w fun r w' => r = .returned (.tuple #[.int .i64 (if 208 ≤ c ∧ c ≤ 211 then -3 else (formM c).1), .int .i64 (formM c).2]) ∧ Drawn w w' := by
  have h : c = 193 ∨ c = 196 ∨ c = 197 ∨ c = 198 ∨ c = 199 ∨ c = 200 ∨ c = 201 ∨ c = 202 ∨ c = 203 ∨ c = 204 ∨ c = 205 ∨ c = 206 ∨ c = 207 ∨ c = 208 ∨ c = 209 ∨ c = 210 ∨ c = 211 ∨ c = 212 ∨ c = 213 ∨ c = 214 ∨ c = 215 ∨ c = 216 ∨ c = 217 ∨ c = 218 ∨ c = 219 ∨ c = 220 ∨ c = 221 ∨ c = 222 ∨ c = 223 := by omega
  rcases h with rfl | rfl | rfl | rfl | rfl | rfl | rfl | rfl | rfl | rfl | rfl | rfl | rfl | rfl | rfl | rfl | rfl | rfl | rfl | rfl | rfl | rfl | rfl | rfl | rfl | rfl | rfl | rfl | rfl
  · skip
    have b196 : inR 193 196 198 = false := by decide
    have b204 : inR 193 204 207 = false := by decide
    have b208 : inR 193 208 211 = false := by decide
    have b217 : inR 193 217 219 = false := by decide
    go_enter Try.func64, Try.ntmps64
    go_wp2_with (go_at_call 53; refine (s_l1In _ _ _ _).mono ?_; rintro e w' ⟨rfl, rfl⟩)
    exact bodyPost_ret (results_tmp2 Try.results64 _ _ _) rfl ⟨rfl, Drawn.refl _⟩
  · skip
    have b196 : inR 196 196 198 = true := by decide
    have b204 : inR 196 204 207 = false := by decide
    have b208 : inR 196 208 211 = false := by decide
    have b217 : inR 196 217 219 = false := by decide
    go_enter Try.func64, Try.ntmps64
    go_wp2_with (go_at_call 53; refine (s_l1In _ _ _ _).mono ?_; rintro e w' ⟨rfl, rfl⟩)
    go_region
    go_wp2_with fail
    exact bodyPost_ret (results_tmp2 Try.results64 _ _ _) rfl ⟨rfl, (Drawn.refl _).drew⟩
  · skip
    have b196 : inR 197 196 198 = true := by decide
    have b204 : inR 197 204 207 = false := by decide
    have b208 : inR 197 208 211 = false := by decide
    have b217 : inR 197 217 219 = false := by decide
    go_enter Try.func64, Try.ntmps64
    go_wp2_with (go_at_call 53; refine (s_l1In _ _ _ _).mono ?_; rintro e w' ⟨rfl, rfl⟩)
    go_region
    go_wp2_with fail
    exact bodyPost_ret (results_tmp2 Try.results64 _ _ _) rfl ⟨rfl, (Drawn.refl _).drew⟩
  · skip
    have b196 : inR 198 196 198 = true := by decide
    have b204 : inR 198 204 207 = false := by decide
    have b208 : inR 198 208 211 = false := by decide
    have b217 : inR 198 217 219 = false := by decide
    go_enter Try.func64, Try.ntmps64
    go_wp2_with (go_at_call 53; refine (s_l1In _ _ _ _).mono ?_; rintro e w' ⟨rfl, rfl⟩)
    go_region
    go_wp2_with fail
    exact bodyPost_ret (results_tmp2 Try.results64 _ _ _) rfl ⟨rfl, (Drawn.refl _).drew⟩
  · skip
    have b196 : inR 199 196 198 = false := by decide
    have b204 : inR 199 204 207 = false := by decide
    have b208 : inR 199 208 211 = false := by decide
    have b217 : inR 199 217 219 = false := by decide
    go_enter Try.func64, Try.ntmps64
    go_wp2_with (go_at_call 53; refine (s_l1In _ _ _ _).mono ?_; rintro e w' ⟨rfl, rfl⟩)
    exact bodyPost_ret (results_tmp2 Try.results64 _ _ _) rfl ⟨rfl, Drawn.refl _⟩
  · skip
    have b196 : inR 200 196 198 = false := by decide
    have b204 : inR 200 204 207 = false := by decide
    have b208 : inR 200 208 211 = false := by decide
    have b217 : inR 200 217 219 = false := by decide
    go_enter Try.func64, Try.ntmps64
    go_wp2_with (go_at_call 53; refine (s_l1In _ _ _ _).mono ?_; rintro e w' ⟨rfl, rfl⟩)
    exact bodyPost_ret (results_tmp2 Try.results64 _ _ _) rfl ⟨rfl, Drawn.refl _⟩
  · skip
    have b196 : inR 201 196 198 = false := by decide
    have b204 : inR 201 204 207 = false := by decide
    have b208 : inR 201 208 211 = false := by decide
    have b217 : inR 201 217 219 = false := by decide
    go_enter Try.func64, Try.ntmps64
    go_wp2_with (go_at_call 53; refine (s_l1In _ _ _ _).mono ?_; rintro e w' ⟨rfl, rfl⟩)
    exact bodyPost_ret (results_tmp2 Try.results64 _ _ _) rfl ⟨rfl, Drawn.refl _⟩
  · skip
    have b196 : inR 202 196 198 = false := by decide
    have b204 : inR 202 204 207 = false := by decide
    have b208 : inR 202 208 211 = false := by decide
    have b217 : inR 202 217 219 = false := by decide
    go_enter Try.func64, Try.ntmps64
    go_wp2_with (go_at_call 53; refine (s_l1In _ _ _ _).mono ?_; rintro e w' ⟨rfl, rfl⟩)
    exact bodyPost_ret (results_tmp2 Try.results64 _ _ _) rfl ⟨rfl, Drawn.refl _⟩
  · skip
    have b196 : inR 203 196 198 = false := by decide
    have b204 : inR 203 204 207 = false := by decide
    have b208 : inR 203 208 211 = false := by decide
    have b217 : inR 203 217 219 = false := by decide
    go_enter Try.func64, Try.ntmps64
    go_wp2_with (go_at_call 53; refine (s_l1In _ _ _ _).mono ?_; rintro e w' ⟨rfl, rfl⟩)
    exact bodyPost_ret (results_tmp2 Try.results64 _ _ _) rfl ⟨rfl, Drawn.refl _⟩
  · skip
    have b196 : inR 204 196 198 = false := by decide
    have b204 : inR 204 204 207 = true := by decide
    have b208 : inR 204 208 211 = false := by decide
    have b217 : inR 204 217 219 = false := by decide
    go_enter Try.func64, Try.ntmps64
    go_wp2_with (go_at_call 53; refine (s_l1In _ _ _ _).mono ?_; rintro e w' ⟨rfl, rfl⟩)
    go_region
    go_wp2_with fail
    exact bodyPost_ret (results_tmp2 Try.results64 _ _ _) rfl ⟨rfl, (Drawn.refl _).drew⟩
  · skip
    have b196 : inR 205 196 198 = false := by decide
    have b204 : inR 205 204 207 = true := by decide
    have b208 : inR 205 208 211 = false := by decide
    have b217 : inR 205 217 219 = false := by decide
    go_enter Try.func64, Try.ntmps64
    go_wp2_with (go_at_call 53; refine (s_l1In _ _ _ _).mono ?_; rintro e w' ⟨rfl, rfl⟩)
    go_region
    go_wp2_with fail
    exact bodyPost_ret (results_tmp2 Try.results64 _ _ _) rfl ⟨rfl, (Drawn.refl _).drew⟩
  · skip
    have b196 : inR 206 196 198 = false := by decide
    have b204 : inR 206 204 207 = true := by decide
    have b208 : inR 206 208 211 = false := by decide
    have b217 : inR 206 217 219 = false := by decide
    go_enter Try.func64, Try.ntmps64
    go_wp2_with (go_at_call 53; refine (s_l1In _ _ _ _).mono ?_; rintro e w' ⟨rfl, rfl⟩)
    go_region
    go_wp2_with fail
    exact bodyPost_ret (results_tmp2 Try.results64 _ _ _) rfl ⟨rfl, (Drawn.refl _).drew⟩
  · skip
    have b196 : inR 207 196 198 = false := by decide
    have b204 : inR 207 204 207 = true := by decide
    have b208 : inR 207 208 211 = false := by decide
    have b217 : inR 207 217 219 = false := by decide
    go_enter Try.func64, Try.ntmps64
    go_wp2_with (go_at_call 53; refine (s_l1In _ _ _ _).mono ?_; rintro e w' ⟨rfl, rfl⟩)
    go_region
    go_wp2_with fail
    exact bodyPost_ret (results_tmp2 Try.results64 _ _ _) rfl ⟨rfl, (Drawn.refl _).drew⟩
  · skip
    have b196 : inR 208 196 198 = false := by decide
    have b204 : inR 208 204 207 = false := by decide
    have b208 : inR 208 208 211 = true := by decide
    have b217 : inR 208 217 219 = false := by decide
    go_enter Try.func64, Try.ntmps64
    go_wp2_with (go_at_call 53; refine (s_l1In _ _ _ _).mono ?_; rintro e w' ⟨rfl, rfl⟩)
    go_region
    go_wp2_with fail
    exact bodyPost_ret (results_tmp2 Try.results64 _ _ _) rfl ⟨rfl, (Drawn.refl _).drew⟩
  · skip
    have b196 : inR 209 196 198 = false := by decide
    have b204 : inR 209 204 207 = false := by decide
    have b208 : inR 209 208 211 = true := by decide
    have b217 : inR 209 217 219 = false := by decide
    go_enter Try.func64, Try.ntmps64
    go_wp2_with (go_at_call 53; refine (s_l1In _ _ _ _).mono ?_; rintro e w' ⟨rfl, rfl⟩)
    go_region
    go_wp2_with fail
    exact bodyPost_ret (results_tmp2 Try.results64 _ _ _) rfl ⟨rfl, (Drawn.refl _).drew⟩
  · skip
    have b196 : inR 210 196 198 = false := by decide
    have b204 : inR 210 204 207 = false := by decide
    have b208 : inR 210 208 211 = true := by decide
    have b217 : inR 210 217 219 = false := by decide
    go_enter Try.func64, Try.ntmps64
    go_wp2_with (go_at_call 53; refine (s_l1In _ _ _ _).mono ?_; rintro e w' ⟨rfl, rfl⟩)
    go_region
    go_wp2_with fail
    exact bodyPost_ret (results_tmp2 Try.results64 _ _ _) rfl ⟨rfl, (Drawn.refl _).drew⟩
  · skip
    have b196 : inR 211 196 198 = false := by decide
    have b204 : inR 211 204 207 = false := by decide
    have b208 : inR 211 208 211 = true := by decide
    have b217 : inR 211 217 219 = false := by decide
    go_enter Try.func64, Try.ntmps64
    go_wp2_with (go_at_call 53; refine (s_l1In _ _ _ _).mono ?_; rintro e w' ⟨rfl, rfl⟩)
    go_region
    go_wp2_with fail
    exact bodyPost_ret (results_tmp2 Try.results64 _ _ _) rfl ⟨rfl, (Drawn.refl _).drew⟩
  · skip
    have b196 : inR 212 196 198 = false := by decide
    have b204 : inR 212 204 207 = false := by decide
    have b208 : inR 212 208 211 = false := by decide
    have b217 : inR 212 217 219 = false := by decide
    go_enter Try.func64, Try.ntmps64
    go_wp2_with (go_at_call 53; refine (s_l1In _ _ _ _).mono ?_; rintro e w' ⟨rfl, rfl⟩)
    exact bodyPost_ret (results_tmp2 Try.results64 _ _ _) rfl ⟨rfl, Drawn.refl _⟩
  · skip
    have b196 : inR 213 196 198 = false := by decide
    have b204 : inR 213 204 207 = false := by decide
    have b208 : inR 213 208 211 = false := by decide
    have b217 : inR 213 217 219 = false := by decide
    go_enter Try.func64, Try.ntmps64
    go_wp2_with (go_at_call 53; refine (s_l1In _ _ _ _).mono ?_; rintro e w' ⟨rfl, rfl⟩)
    exact bodyPost_ret (results_tmp2 Try.results64 _ _ _) rfl ⟨rfl, Drawn.refl _⟩
  · skip
    have b196 : inR 214 196 198 = false := by decide
    have b204 : inR 214 204 207 = false := by decide
    have b208 : inR 214 208 211 = false := by decide
    have b217 : inR 214 217 219 = false := by decide
    go_enter Try.func64, Try.ntmps64
    go_wp2_with (go_at_call 53; refine (s_l1In _ _ _ _).mono ?_; rintro e w' ⟨rfl, rfl⟩)
    exact bodyPost_ret (results_tmp2 Try.results64 _ _ _) rfl ⟨rfl, Drawn.refl _⟩
  · skip
    have b196 : inR 215 196 198 = false := by decide
    have b204 : inR 215 204 207 = false := by decide
    have b208 : inR 215 208 211 = false := by decide
    have b217 : inR 215 217 219 = false := by decide
    go_enter Try.func64, Try.ntmps64
    go_wp2_with (go_at_call 53; refine (s_l1In _ _ _ _).mono ?_; rintro e w' ⟨rfl, rfl⟩)
    exact bodyPost_ret (results_tmp2 Try.results64 _ _ _) rfl ⟨rfl, Drawn.refl _⟩
  · skip
    have b196 : inR 216 196 198 = false := by decide
    have b204 : inR 216 204 207 = false := by decide
    have b208 : inR 216 208 211 = false := by decide
    have b217 : inR 216 217 219 = false := by decide
    go_enter Try.func64, Try.ntmps64
    go_wp2_with (go_at_call 53; refine (s_l1In _ _ _ _).mono ?_; rintro e w' ⟨rfl, rfl⟩)
    exact bodyPost_ret (results_tmp2 Try.results64 _ _ _) rfl ⟨rfl, Drawn.refl _⟩
  · skip
    have b196 : inR 217 196 198 = false := by decide
    have b204 : inR 217 204 207 = false := by decide
    have b208 : inR 217 208 211 = false := by decide
    have b217 : inR 217 217 219 = true := by decide
    go_enter Try.func64, Try.ntmps64
    go_wp2_with (go_at_call 53; refine (s_l1In _ _ _ _).mono ?_; rintro e w' ⟨rfl, rfl⟩)
    go_region
    go_wp2_with fail
    exact bodyPost_ret (results_tmp2 Try.results64 _ _ _) rfl ⟨rfl, (Drawn.refl _).drew⟩
  · skip
    have b196 : inR 218 196 198 = false := by decide
    have b204 : inR 218 204 207 = false := by decide
    have b208 : inR 218 208 211 = false := by decide
    have b217 : inR 218 217 219 = true := by decide
    go_enter Try.func64, Try.ntmps64
    go_wp2_with (go_at_call 53; refine (s_l1In _ _ _ _).mono ?_; rintro e w' ⟨rfl, rfl⟩)
    go_region
    go_wp2_with fail
    exact bodyPost_ret (results_tmp2 Try.results64 _ _ _) rfl ⟨rfl, (Drawn.refl _).drew⟩
  · skip
    have b196 : inR 219 196 198 = false := by decide
    have b204 : inR 219 204 207 = false := by decide
    have b208 : inR 219 208 211 = false := by decide
    have b217 : inR 219 217 219 = true := by decide
    go_enter Try.func64, Try.ntmps64
    go_wp2_with (go_at_call 53; refine (s_l1In _ _ _ _).mono ?_; rintro e w' ⟨rfl, rfl⟩)
    go_region
    go_wp2_with fail
    exact bodyPost_ret (results_tmp2 Try.results64 _ _ _) rfl ⟨rfl, (Drawn.refl _).drew⟩
  · skip
    have b196 : inR 220 196 198 = false := by decide
    have b204 : inR 220 204 207 = false := by decide
    have b208 : inR 220 208 211 = false := by decide
    have b217 : inR 220 217 219 = false := by decide
    go_enter Try.func64, Try.ntmps64
    go_wp2_with (go_at_call 53; refine (s_l1In _ _ _ _).mono ?_; rintro e w' ⟨rfl, rfl⟩)
    go_region
    go_wp2_with fail
    exact bodyPost_ret (results_tmp2 Try.results64 _ _ _) rfl ⟨rfl, (Drawn.refl _).drew⟩
  · skip
    have b196 : inR 221 196 198 = false := by decide
    have b204 : inR 221 204 207 = false := by decide
    have b208 : inR 221 208 211 = false := by decide
    have b217 : inR 221 217 219 = false := by decide
    go_enter Try.func64, Try.ntmps64
    go_wp2_with (go_at_call 53; refine (s_l1In _ _ _ _).mono ?_; rintro e w' ⟨rfl, rfl⟩)
    go_region
    go_wp2_with fail
    exact bodyPost_ret (results_tmp2 Try.results64 _ _ _) rfl ⟨rfl, (Drawn.refl _).drew⟩
  · skip
    have b196 : inR 222 196 198 = false := by decide
    have b204 : inR 222 204 207 = false := by decide
    have b208 : inR 222 208 211 = false := by decide
    have b217 : inR 222 217 219 = false := by decide
    go_enter Try.func64, Try.ntmps64
    go_wp2_with (go_at_call 53; refine (s_l1In _ _ _ _).mono ?_; rintro e w' ⟨rfl, rfl⟩)
    go_region
    go_wp2_with fail
    exact bodyPost_ret (results_tmp2 Try.results64 _ _ _) rfl ⟨rfl, (Drawn.refl _).drew⟩
  · skip
    have b196 : inR 223 196 198 = false := by decide
    have b204 : inR 223 204 207 = false := by decide
    have b208 : inR 223 208 211 = false := by decide
    have b217 : inR 223 217 219 = false := by decide
    go_enter Try.func64, Try.ntmps64
    go_wp2_with (go_at_call 53; refine (s_l1In _ _ _ _).mono ?_; rintro e w' ⟨rfl, rfl⟩)
    go_region
    go_wp2_with fail
    exact bodyPost_ret (results_tmp2 Try.results64 _ _ _) rfl ⟨rfl, (Drawn.refl _).drew⟩
end Go.Proofs.Ytihhedmehlemmaa
