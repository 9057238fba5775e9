/- The cursor made; numbers and halves drawn. -/
import Derived.Test.YtihhedmehlemmaaMkM5
import Derived.Deep.LoopGhost
set_option linter.unusedVariables false
set_option maxRecDepth 100000
set_option linter.unusedSimpArgs false
namespace Go.Proofs.Ytihhedmehlemmaa
open Go.RowKit

set_option maxHeartbeats 1000000 in
theorem s_l1New (A : Option Addr) (n c : Nat) (b : List UInt8) (w : World) (h : Sl w w.heap.size 1 A n c (u8s b)) (hn : n ≤ 1048576) :
    Calls Try.prog 31 #[.slice A n c] w fun r w' => r = .returned (.pointer (some ⟨w.heap.size, 0, none⟩)) ∧ Cur w' w.heap.size w.heap.size A n c b ∧ Below w.heap.size w w' := by
  go_enter Try.func31, Try.ntmps31
  go_wp2_with fail
  go_loopg [3, 4] n (fun f x i wr => ∃ (j : Nat) (y : Int), j + f = n ∧ x = .int .i64 y ∧ i = .int .i64 j ∧ wr = w)
  case atStart => exact ⟨0, _, by omega, rfl, rfl, rfl⟩
  case round =>
    obtain ⟨j, y, hjf, rfl, rfl, rfl⟩ := hrel
    by_cases hlt : j < n
    · by_cases h4 : j < 4000
      · obtain ⟨f, rfl⟩ : ∃ f, gk = f + 1 := ⟨gk - 1, by omega⟩
        obtain ⟨g2, o, rfl, hg2, hb, hc⟩ := h.byte hlt
        go_wp2_with fail
        go_roundg f
        case measure => omega
        case rel => exact ⟨j + 1, _, by omega, rfl, by go_num, rfl⟩
      · have h4i : (4000 : Int) ≤ (j : Int) := by omega
        go_wp2_with fail
        go_ret
        exact ⟨rfl, ⟨Nat.le_refl _, hn, h.alloc (Nat.le_refl _) _, 0, y, Nat.zero_le _, Blk.new _ _ _⟩, Below.one _ _⟩
    · go_wp2_with fail
      go_ret
      exact ⟨rfl, ⟨Nat.le_refl _, hn, h.alloc (Nat.le_refl _) _, 0, y, Nat.zero_le _, Blk.new _ _ _⟩, Below.one _ _⟩
theorem i64s_lit (w : World) (e : TypeId) (l : List Int) (cs : Array Value) (hc : cs.toList = i64s l) (hn : l.length ≤ 1000) : Sl (w.alloc (.cells cs e)) (w.alloc (.cells cs e)).heap.size 1 (some ⟨w.heap.size, 0, none⟩) l.length l.length (i64s l) := by
  have h := Sl.lit w e cs 1 l.length (by have := congrArg List.length hc; simp [i64s] at this; simpa using this) (by unfold maxLen; omega) (w.alloc (.cells cs e)).heap.size (by simp)
  rw [hc] at h
  exact h
theorem Blk.fr_' {w w' : World} {g : Nat} {T : TypeId} {cs : Array Value} {fp : List Nat} (h : Blk w g T cs) (hf : Fr fp w w') (hn : g ∉ fp) : Blk w' g T cs := (hf.block g h.lt hn).trans h
theorem lit_ne {g k : Nat} (h : g < k) : ∀ x ∈ blkOf (some ⟨k, 0, none⟩), x ≠ g := fun x hx => by
  simp [blkOf] at hx; omega
theorem Fr.new_ {w w' : World} {fp : List Nat} (h : Fr fp w w') {p : Addr} (hp : w.heap.size ≤ p.block) (u : Value) : Fr fp w (w'.setCell p u) :=
  ⟨h.os, h.tape, h.output, by have := h.size; simp [World.setCell]; exact this, fun k hk hn => (Below.heap_setCell w' p u k (by omega)).trans (h.block k hk hn)⟩
theorem Cur.set_ {w' : World} {B g n c k o : Nat} {A : Option Addr} {b : List UInt8} (h : Cur w' B g A n c b) (hk : g < k) (x : Value) : Cur (w'.setCell ⟨k, o, none⟩ x) B g A n c b := by
  obtain ⟨h1, h2, h3, i, z, h4, h5⟩ := h
  exact ⟨h1, h2, h3.setCell (by show B ≤ k; omega) _, i, z, h4, h5.far (by exact Nat.ne_of_lt hk) _⟩
theorem cur_two {w' : World} {B g n c k : Nat} {A : Option Addr} {b : List UInt8} {x y : Value} (h : Cur w' B g A n c b) (hk : k ≠ g) (hg : g < k) : Cur ((w'.setCell ⟨k, 0, none⟩ x).setCell ⟨k, 1, none⟩ y) B g A n c b := by
  obtain ⟨h1, h2, h3, i, z, h4, h5⟩ := h
  exact ⟨h1, h2, (h3.setCell (by show B ≤ k; omega) _).setCell (by show B ≤ k; omega) _, i, z, h4, (h5.far (by exact fun e => hk e.symm) _).far (by exact fun e => hk e.symm) _⟩
theorem Blk.at2' {w : World} {g : Nat} {T : TypeId} {a b : Value} (h : Blk w g T #[a, b]) : w.cell? ⟨g, 0, none⟩ = some a ∧ w.cell? ⟨g, 1, none⟩ = some b ∧ w.frozen? ⟨g, 0, none⟩ = false ∧ w.frozen? ⟨g, 1, none⟩ = false ∧ g < w.heap.size := ⟨h.cell 0, h.cell 1, h.frozen 0, h.frozen 1, h.lt⟩
set_option maxHeartbeats 4000000 in
theorem s_l5Draw (B g n c : Nat) (A : Option Addr) (b : List UInt8) (w : World) (h : Cur w B g A n c b) :
    Calls Try.prog 72 #[.pointer (some ⟨g, 0, none⟩)] w fun r w' => ∃ x y : Int, r = .returned (.agg #[.int .i64 x, .int .i64 y]) ∧ y ≤ 9223372036854775807 ∧ Cur w' B g A n c b ∧ Fr [g] w w' := by
  have hgl := h.lt
  have hgn : w.heap.size ≠ g := by omega
  have h0 := h.below (Below.one w (.cells #[.int .i64 0, .int .i64 0] 73))
  have hF0 : Fr [g] w (w.alloc (.cells #[.int .i64 0, .int .i64 0] 73)) := Fr.of_below (Below.one _ _)
  have hR : ∀ w', Fr [g] (w.alloc (.cells #[.int .i64 0, .int .i64 0] 73)) w' → Blk w' w.heap.size 73 #[.int .i64 0, .int .i64 0] := fun w' hf => Blk.fr_' (Blk.new w _ _) hf (by simpa using hgn)
  go_enter Try.func72, Try.ntmps72
  go_wp2_with fail
  refine (s_l1Below B g n c A b 32767 _ h0 (by decide)).mono ?_; rintro r w1 ⟨x1, rfl, hx1, hC1, hf1⟩
  go_wp2_with fail
  refine (s_l1Int B g n c A b (some ⟨w1.heap.size, 0, none⟩) 8 8 [0, 1, 3, 5, 255, 32767, 65535, wrap64 (1 + wrap64 (2 * x1))] _ (hC1.below (Below.one _ _)) (by exact i64s_lit _ _ [0, 1, 3, 5, 255, 32767, 65535, wrap64 (1 + wrap64 (2 * x1))] _ rfl (by exact Nat.le_of_ble_eq_true rfl)) (lit_ne hC1.lt) (by decide)).mono ?_; rintro r w2 ⟨m, rfl, hm, hCw2, hfw2⟩
  have hFw2 := (hf1.trans (Fr.of_below (Below.one _ _))).trans hfw2
  go_wp2_with fail
  refine (s_l1Below B g n c A b 47 _ hCw2 (by decide)).mono ?_; rintro r w3 ⟨x3, rfl, hx3, hC3, hf3⟩
  have hF3 := hFw2.trans hf3
  go_wp2_with fail
  refine (s_l1Int B g n c A b (some ⟨w3.heap.size, 0, none⟩) 7 7 [0, 0, 1, -1, -16, 30, wrap64 (x3 - 16)] _ (hC3.below (Below.one _ _)) (by exact i64s_lit _ _ [0, 0, 1, -1, -16, 30, wrap64 (x3 - 16)] _ rfl (by exact Nat.le_of_ble_eq_true rfl)) (lit_ne hC3.lt) (by decide)).mono ?_; rintro r w4 ⟨e, rfl, he, hCw4, hfw4⟩
  have hFw4 := (hF3.trans (Fr.of_below (Below.one _ _))).trans hfw4
  have heb : e ≤ 9223372036854775807 := by
    simp only [List.mem_cons, List.not_mem_nil, or_false] at he
    unfold wrap64 at he
    omega
  clear hx1 hx3 hC1 hC3 hf1 hf3 hCw2 hfw2 hFw2 hF3 hfw4 hm he h h0
  by_cases hm0 : m = 0
  · subst hm0
    go_wp2_with fail
    refine (s_l1Once B g n c A b 3 _ hCw4 (by decide)).mono ?_; rintro r w7 ⟨o7, rfl, hC7, hf7⟩
    have hF7 := hFw4.trans hf7
    have hR7 := hR w7 hF7
    obtain ⟨r0, r1, q0, q1, ql⟩ := hR7.at2'
    cases o7
    · go_wp2_with fail
      exact bodyPost_ret (results_blk Try.results72 Try.isAgg73 (by exact Try.sizeOf73) rfl (hR7.two _ _)) rfl ⟨_, _, rfl, by omega, cur_two hC7 hgn hgl, ((hF0.trans hF7).new_ (Nat.le_refl _) _).new_ (Nat.le_refl _) _⟩
    · go_wp2_with fail
      exact bodyPost_ret (results_blk Try.results72 Try.isAgg73 (by exact Try.sizeOf73) rfl (hR7.two _ _)) rfl ⟨_, _, rfl, by omega, cur_two hC7 hgn hgl, ((hF0.trans hF7).new_ (Nat.le_refl _) _).new_ (Nat.le_refl _) _⟩
  have hmz : (m == 0) = false := by simp [hm0]
  by_cases hm1 : m = 1
  · subst hm1
    go_wp2_with fail
    refine (s_l1Once B g n c A b 2 _ hCw4 (by decide)).mono ?_; rintro r w5 ⟨o5, rfl, hC5, hf5⟩
    have hF5 := hFw4.trans hf5
    cases o5
    · go_wp2_with fail
      refine (s_l1Once B g n c A b 3 _ hC5 (by decide)).mono ?_; rintro r w7 ⟨o7, rfl, hC7, hf7⟩
      have hF7 := hF5.trans hf7
      have hR7 := hR w7 hF7
      obtain ⟨r0, r1, q0, q1, ql⟩ := hR7.at2'
      cases o7
      · go_wp2_with fail
        exact bodyPost_ret (results_blk Try.results72 Try.isAgg73 (by exact Try.sizeOf73) rfl (hR7.two _ _)) rfl ⟨_, _, rfl, by omega, cur_two hC7 hgn hgl, ((hF0.trans hF7).new_ (Nat.le_refl _) _).new_ (Nat.le_refl _) _⟩
      · go_wp2_with fail
        exact bodyPost_ret (results_blk Try.results72 Try.isAgg73 (by exact Try.sizeOf73) rfl (hR7.two _ _)) rfl ⟨_, _, rfl, by omega, cur_two hC7 hgn hgl, ((hF0.trans hF7).new_ (Nat.le_refl _) _).new_ (Nat.le_refl _) _⟩
    · go_wp2_with fail
      refine (s_l1Int B g n c A b (some ⟨w5.heap.size, 0, none⟩) 2 2 [31, 45] _ (hC5.below (Below.one _ _)) (by exact i64s_lit _ _ [31, 45] _ rfl (by exact Nat.le_of_ble_eq_true rfl)) (lit_ne hC5.lt) (by decide)).mono ?_; rintro r w6 ⟨e2, rfl, he2, hCw6, hfw6⟩
      have hFw6 := (hF5.trans (Fr.of_below (Below.one _ _))).trans hfw6
      have heb2 : e2 ≤ 9223372036854775807 := by
        simp only [List.mem_cons, List.not_mem_nil, or_false] at he2
        omega
      clear he2
      go_wp2_with fail
      refine (s_l1Once B g n c A b 3 _ hCw6 (by decide)).mono ?_; rintro r w7 ⟨o7, rfl, hC7, hf7⟩
      have hF7 := hFw6.trans hf7
      have hR7 := hR w7 hF7
      obtain ⟨r0, r1, q0, q1, ql⟩ := hR7.at2'
      cases o7
      · go_wp2_with fail
        exact bodyPost_ret (results_blk Try.results72 Try.isAgg73 (by exact Try.sizeOf73) rfl (hR7.two _ _)) rfl ⟨_, _, rfl, by omega, cur_two hC7 hgn hgl, ((hF0.trans hF7).new_ (Nat.le_refl _) _).new_ (Nat.le_refl _) _⟩
      · go_wp2_with fail
        exact bodyPost_ret (results_blk Try.results72 Try.isAgg73 (by exact Try.sizeOf73) rfl (hR7.two _ _)) rfl ⟨_, _, rfl, by omega, cur_two hC7 hgn hgl, ((hF0.trans hF7).new_ (Nat.le_refl _) _).new_ (Nat.le_refl _) _⟩
  · have hmo : (m == 1) = false := by simp [hm1]
    go_wp2_with fail
    refine (s_l1Once B g n c A b 3 _ hCw4 (by decide)).mono ?_; rintro r w7 ⟨o7, rfl, hC7, hf7⟩
    have hF7 := hFw4.trans hf7
    have hR7 := hR w7 hF7
    obtain ⟨r0, r1, q0, q1, ql⟩ := hR7.at2'
    cases o7
    · go_wp2_with fail
      exact bodyPost_ret (results_blk Try.results72 Try.isAgg73 (by exact Try.sizeOf73) rfl (hR7.two _ _)) rfl ⟨_, _, rfl, by omega, cur_two hC7 hgn hgl, ((hF0.trans hF7).new_ (Nat.le_refl _) _).new_ (Nat.le_refl _) _⟩
    · go_wp2_with fail
      exact bodyPost_ret (results_blk Try.results72 Try.isAgg73 (by exact Try.sizeOf73) rfl (hR7.two _ _)) rfl ⟨_, _, rfl, by omega, cur_two hC7 hgn hgl, ((hF0.trans hF7).new_ (Nat.le_refl _) _).new_ (Nat.le_refl _) _⟩
end Go.Proofs.Ytihhedmehlemmaa
