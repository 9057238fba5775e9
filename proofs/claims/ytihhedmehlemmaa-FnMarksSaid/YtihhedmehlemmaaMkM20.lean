/- DrawPutHead, DrawHeadFor; same. l1Bent: bytes, mostly with one turned, cut, or with more behind. -/
import Derived.Test.YtihhedmehlemmaaMkM19
import Derived.Deep.RegionLaw
set_option linter.unusedVariables false
set_option maxRecDepth 100000
set_option linter.unusedSimpArgs false
namespace Go.Proofs.Ytihhedmehlemmaa
open Go.RowKit

theorem results_tmp_blk {P : Program} {fn : Func} {p u : Tmp} {ty : TypeId} {tmps : Array Value} {w : World} {g : Nat} {t : TypeId} {cs : Array Value} (h : fn.results = #[.tmp u, .cell p ty])
    (ha : ∀ w, (isAgg ty).run P w = .ok true w) (hs : ∀ w, (sizeOf ty).run P w = .ok cs.size w) (hp : tmps.getD p undef = .pointer (some ⟨g, 0, none⟩)) (hb : Blk w g t cs) :
    (results fn tmps).run P w = .ok (.tuple #[tmps.getD u undef, .agg cs]) w := by
  have hl := run_loadVar_blk ha hs hb
  have hp2 : tmps[p]?.getD undef = .pointer (some ⟨g, 0, none⟩) := by simpa using hp
  simp [results, h, hp2, asAddr, Sem.run_bind, hl, Result.andThen]
theorem take_eq_step {a b : List UInt8} {k : Nat} (h : a.take k = b.take k) (ha : k < a.length) (hb : k < b.length) (e : a[k] = b[k]) : a.take (k + 1) = b.take (k + 1) := by
  rw [List.take_succ_eq_append_getElem ha, List.take_succ_eq_append_getElem hb, h, e]
set_option maxHeartbeats 400000 in
theorem l_same (A1 : Option Addr) (n1 c1 : Nat) (b1 : List UInt8) (A2 : Option Addr) (n2 c2 : Nat) (b2 : List UInt8) (w : World) (B : Nat) (h1 : Sl w B 1 A1 n1 c1 (u8s b1)) (h2 : Sl w B 1 A2 n2 c2 (u8s b2)) :
    Calls Try.prog 17 #[.slice A1 n1 c1, .slice A2 n2 c2] w fun e w' => e = .returned (.bool (decide (b1 = b2))) ∧ Drawn w w' := by
  have l1 := h1.blen
  have l2 := h2.blen
  have m1 := h1.cap
  have m2 := h1.max
  unfold maxLen at m2
  by_cases hn : n1 = n2
  · subst hn
    go_enter Try.func17, Try.ntmps17
    go_wp2
    go_loopw [5] (fun i wr => ∃ k : Nat, k ≤ n1 ∧ i = .int .i64 k ∧ b1.take k = b2.take k ∧ Drawn w wr) (fun i _ => n1 - (intOf i).toNat)
    case atStart => exact ⟨0, Nat.zero_le _, rfl, rfl, Drawn.refl _⟩
    case round =>
      obtain ⟨k, hk, rfl, HE, hd⟩ := hrel
      have he := Lib.hid HE; clear HE
      by_cases hlt : k < n1
      · obtain ⟨g, o, rfl, hg, hkb, hc⟩ := (hd.sl h1).byte hlt
        obtain ⟨g', o', rfl, hg', hkb', hc'⟩ := (hd.sl h2).byte hlt
        by_cases hcc : b1[k] = b2[k]
        · have hne : ((b1[k].toNat : Int) != (b2[k].toNat : Int)) = false := by rw [hcc]; simp
          have hcc' := Lib.hid hcc; clear hcc
          go_wp2
          go_quiet (fail)
          go_wp2
          go_roundw
          case rel => exact ⟨k + 1, by omega, by go_num, take_eq_step he.out (by omega) (by omega) hcc'.out, hd.drewN _⟩
          case measure => simp [intOf]; omega
        · have hne : ((b1[k].toNat : Int) != (b2[k].toNat : Int)) = true := by
            simp only [bne_iff_ne, ne_eq, Int.natCast_inj]; exact fun e => hcc (UInt8.toNat_inj.1 e)
          go_wp2
          go_quiet (fail)
          go_wp2
          go_ret
          refine ⟨ret_bool ?_, hd.drewN _⟩
          rw [eq_comm, decide_eq_false_iff_not]
          rintro rfl
          exact hcc rfl
      · go_wp2
        go_ret
        refine ⟨ret_bool ?_, hd⟩
        have e := he.out
        rw [List.take_of_length_le (by omega), List.take_of_length_le (by omega)] at e
        rw [e]; simp
  · have hne : ((n1 : Int) != n2) = true := by simp; omega
    go_enter Try.func17, Try.ntmps17
    go_wp2
    go_ret
    refine ⟨ret_bool ?_, Drawn.refl _⟩
    rw [eq_comm, decide_eq_false_iff_not]
    rintro rfl
    omega
end Go.Proofs.Ytihhedmehlemmaa

namespace Go.Proofs.Ytihhedmehlemmaa
open Go.RowKit

/-- What a bending gives: bytes that can be read, at most one more. -/
def BentDrawn (w w' : World) (B g n c : Nat) (A : Option Addr) (b : List UInt8) (m : Nat) (r : Ending) : Prop :=
  ∃ (A' : Option Addr) (k c' : Nat) (l : List UInt8), r = .returned (.slice A' k c') ∧ Sl w' w'.heap.size 1 A' k c' (u8s l) ∧ (∀ x ∈ blkOf A', g < x) ∧ k ≤ m + 1 ∧ Cur w' B g A n c b ∧ Fr [g] w w'
theorem u8_of {x : Int} (h : 0 ≤ x ∧ x < 256) : ∃ y : UInt8, (.int .u8 x : Value) = .int .u8 (y.toNat : Int) := ⟨UInt8.ofNat x.toNat, by rw [UInt8.toNat_ofNat_of_lt' (by show x.toNat < 256; omega)]; congr 1; omega⟩
theorem u8s_set (b : List UInt8) (k : Nat) (y : UInt8) : (u8s b).set k (.int .u8 (y.toNat : Int)) = u8s (b.set k y) := by simp [u8s, List.map_set]
/-- A byte of an own row written. -/
theorem BS.store {w : World} {lo n c g k : Nat} {b : List UInt8} (h : BS w lo (some ⟨g, 0, none⟩) n c b) (hk : k < n) {x : Int} (hx : 0 ≤ x ∧ x < 256) :
    (∃ u, w.cell? ⟨g, k, none⟩ = some u) ∧ w.frozen? ⟨g, k, none⟩ = false ∧ ∃ b', BS (w.setCell ⟨g, k, none⟩ (.int .u8 x)) lo (some ⟨g, 0, none⟩) n c b' := by
  have h' : w.ownsRow lo 5 1 (.slice (some ⟨g, 0, none⟩) n c) n (u8s b) := h
  refine ⟨?_, h'.frozenAt k, ?_⟩
  · rw [h'.cellAt k (by omega)]
    exact ⟨_, List.getElem?_eq_getElem (by rw [h'.1]; omega)⟩
  · obtain ⟨y, hy⟩ := u8_of hx
    have hst := (h'.stored k (.int .u8 x)).1
    rw [hy, u8s_set] at hst
    rw [hy]
    exact ⟨_, hst⟩
theorem BS.at0 {w : World} {lo n c : Nat} {A : Option Addr} {b : List UInt8} (h : BS w lo A n c b) (hn : 0 < n) : ∃ g, A = some ⟨g, 0, none⟩ ∧ lo ≤ g := by
  have h' : w.ownsRow lo 5 1 (.slice A n c) n (u8s b) := h
  rcases h'.2 with ⟨e, _⟩ | ⟨g, cap, cur, e, hb, _⟩
  · simp only [Value.slice.injEq] at e; omega
  · simp only [Value.slice.injEq] at e; exact ⟨g, e.1, hb⟩
theorem Sl.head_ {w : World} {B n c k : Nat} {A : Option Addr} {b : List UInt8} (h : Sl w B 1 A n c (u8s b)) (hk : k ≤ n) : Sl w B 1 A k c (u8s (b.take k)) := by
  have hl := h.blen
  have hc := h.cap
  have hm := h.max
  refine ⟨by rw [u8s_len, List.length_take]; omega, by omega, hm, fun h0 => ?_⟩
  obtain ⟨g, o, e, hg, hk2⟩ := h.at_ (by omega)
  refine ⟨g, o, e, hg, fun j u hu => hk2 j u ?_⟩
  have hj : j < k := by have := (List.getElem?_eq_some_iff.1 hu).1; rw [u8s_len, List.length_take] at this; omega
  rw [← hu, ← u8s_take, List.getElem?_take, if_pos hj]
theorem xor_u8 (a b : Int) : 0 ≤ bits .xor .u8 a b ∧ bits .xor .u8 a b < 256 := by
  have h : ∃ x, bits .xor .u8 a b = IntKind.u8.wrap x := ⟨_, rfl⟩
  obtain ⟨x, hx⟩ := h
  rw [hx, IntKind.wrap_u8]
  omega
set_option maxHeartbeats 2000000 in
theorem s_l1Bent (B g n c : Nat) (A : Option Addr) (b : List UInt8) (A2 : Option Addr) (m c2 : Nat) (b2 : List UInt8) (w : World) (h : Cur w B g A n c b) (h2 : Sl w w.heap.size 1 A2 m c2 (u8s b2)) (hm : m ≤ 1048576) :
    Calls Try.prog 61 #[.pointer (some ⟨g, 0, none⟩), .slice A2 m c2] w fun r w' => BentDrawn w w' B g n c A b m r := by
  have hgl := h.lt
  have h0 := h.below (Below.one w (.cells #[] 5))
  have hF0 : Fr [g] w (w.alloc (.cells #[] 5)) := Fr.of_below (Below.one _ _)
  have hB0 := BS.lit0 w
  go_enter Try.func61, Try.ntmps61
  go_wp2_with (at_builtin; refine app_u8 rfl _ _ rfl hB0 rfl (h2.alloc (Nat.le_refl _) _) rfl (by omega) (by simp) ?_; intro A3 c3 w1 h3 hb3)
  have hC1 := h0.belowB hb3 hgl
  have hF1 := hF0.then_ hb3
  simp only [Nat.zero_add, List.nil_append] at h3 ⊢
  refine (s_l1Below B g n c A b 7 _ hC1 (by decide)).mono ?_; rintro r w2 ⟨q, rfl, hq, hC2, hf2⟩
  have h4 := h3.fr hf2 (fun k hk => by have := (h3.lt (mem_blkOf.1 hk)).1; simp; omega)
  have hF2 := hF1.trans hf2
  clear h0 hF0 hB0 h3 hb3 hC1 hF1 hf2 hq
  by_cases q0 : q = 0
  · subst q0
    by_cases hm0 : m = 0
    · subst hm0
      go_wp2_with fail
      go_ret
      exact ⟨_, _, _, _, rfl, h4.sl, fun x hx => by have := (h4.lt (mem_blkOf.1 hx)).1; omega, by omega, hC2, hF2⟩
    · have hmp : (0 : Int) < (m : Int) := by omega
      go_wp2_with fail
      refine (s_l1Below B g n c A b m _ hC2 (by omega)).mono ?_; rintro r w3 ⟨x, rfl, hx, hC3, hf3⟩
      obtain ⟨hx0, hx1⟩ := hx.2 hmp
      obtain ⟨k, rfl⟩ := Int.eq_ofNat_of_zero_le hx0
      have h5 := h4.fr hf3 (fun k hk => by have := (h4.lt (mem_blkOf.1 hk)).1; simp; omega)
      have hF3 := hF2.trans hf3
      go_wp2_with fail
      refine (s_l1Below B g n c A b 256 _ hC3 (by decide)).mono ?_; rintro r w4 ⟨y, rfl, hy, hC4, hf4⟩
      have hyb := hy.2 (by decide)
      have h6 := h5.fr hf4 (fun k hk => by have := (h5.lt (mem_blkOf.1 hk)).1; simp; omega)
      have hF4 := hF3.trans hf4
      obtain ⟨g3, rfl, hg3⟩ := BS.at0 h6 (by omega)
      obtain ⟨⟨u, hu⟩, hfz, b', hb'⟩ := BS.store h6 (k := k) (by omega) hyb
      have hmc := h6.sl.cap
      go_wp2_with fail
      go_ret
      exact ⟨_, _, _, _, rfl, hb'.sl, fun x hx => by have := (hb'.lt (mem_blkOf.1 hx)).1; omega, by omega, hC4.set_ (by omega) _, hF4.new_ (by exact hg3) _⟩
  have z0 : (q == 0) = false := by simp [q0]
  by_cases q1 : q = 1
  · subst q1
    go_wp2_with fail
    refine (s_l1Below B g n c A b (m + 1) _ hC2 (by omega)).mono ?_; rintro r w3 ⟨x, rfl, hx, hC3, hf3⟩
    obtain ⟨hx0, hx1⟩ := hx.2 (by omega)
    obtain ⟨k, rfl⟩ := Int.eq_ofNat_of_zero_le hx0
    have h5 := h4.fr hf3 (fun k hk => by have := (h4.lt (mem_blkOf.1 hk)).1; simp; omega)
    have hF3 := hF2.trans hf3
    have hmc := h5.sl.cap
    have hkm : (k : Int) ≤ (c3 : Int) := by omega
    go_wp2_with fail
    go_ret
    exact ⟨_, _, _, _, rfl, h5.sl.head_ (k := k) (by omega), fun x hx => by have := (h5.lt (mem_blkOf.1 hx)).1; omega, by omega, hC3, hF3⟩
  have z1 : (q == 1) = false := by simp [q1]
  by_cases q2 : q = 2
  · subst q2
    go_wp2_with fail
    refine (s_l1Int B g n c A b (some ⟨w2.heap.size, 0, none⟩) 4 4 [0, 32, 93, 255] _ (hC2.below (Below.one _ _)) (by exact i64s_lit _ _ [0, 32, 93, 255] _ rfl (by exact Nat.le_of_ble_eq_true rfl)) (lit_ne hC2.lt) (by decide)).mono ?_; rintro r w3 ⟨y, rfl, hy, hC3, hf3⟩
    have hyb : 0 ≤ y ∧ y < 256 := by simp only [List.mem_cons, List.not_mem_nil, or_false] at hy; omega
    clear hy
    have hf23 := (Fr.of_below (fp := [g]) (Below.one w2 (.cells #[.int .i64 0, .int .i64 32, .int .i64 93, .int .i64 255] 3))).trans hf3
    have h5 := h4.fr hf23 (fun k hk => by have := (h4.lt (mem_blkOf.1 hk)).1; simp; omega)
    have hF3 := hF2.trans hf23
    have hFa := hF3.trans (Fr.of_below (Below.one w3 (.cells #[.int .u8 y] 5)))
    have hCa := hC3.below (Below.one w3 (.cells #[.int .u8 y] 5))
    go_wp2_with (at_builtin; refine app_u8 rfl _ _ rfl (h5.alloc _) rfl (lit1 w3 _ hyb) rfl (by omega) (by have := hF3.size; simp; omega) ?_; intro A5 c5 w5 h6 hb6)
    go_ret
    exact ⟨_, _, _, _, rfl, h6.sl, fun x hx => by have := (h6.lt (mem_blkOf.1 hx)).1; omega, by omega, hCa.belowB hb6 hgl, hFa.then_ hb6⟩
  have z2 : (q == 2) = false := by simp [q2]
  by_cases q3 : q = 3
  · subst q3
    by_cases hm0 : m = 0
    · subst hm0
      go_wp2_with fail
      go_ret
      exact ⟨_, _, _, _, rfl, h4.sl, fun x hx => by have := (h4.lt (mem_blkOf.1 hx)).1; omega, by omega, hC2, hF2⟩
    · have hmp : (0 : Int) < (m : Int) := by omega
      go_wp2_with fail
      refine (s_l1Below B g n c A b m _ hC2 (by omega)).mono ?_; rintro r w3 ⟨x, rfl, hx, hC3, hf3⟩
      obtain ⟨hx0, hx1⟩ := hx.2 hmp
      obtain ⟨k, rfl⟩ := Int.eq_ofNat_of_zero_le hx0
      have h5 := h4.fr hf3 (fun k hk => by have := (h4.lt (mem_blkOf.1 hk)).1; simp; omega)
      have hF3 := hF2.trans hf3
      obtain ⟨g3, rfl, hg3⟩ := BS.at0 h5 (by omega)
      have hmc := h5.sl.cap
      have hCd := hC3.below (Below.refl w3.heap.size w3).drew
      have h5d : BS w3.drew w.heap.size (some ⟨g3, 0, none⟩) m c3 b2 := h5.below (Below.refl w3.heap.size w3).drew
      obtain ⟨v0, hv0⟩ : ∃ v0 : Int, w3.cell? ⟨g3, k, none⟩ = some (.int .u8 v0) := by
        obtain ⟨g4, o4, e4, _, hb4, hc4⟩ := h5.sl.byte (k := k) (by omega)
        cases e4
        exact ⟨_, by simpa using hc4⟩
      have hg3l : g3 < w3.heap.size := (h5.lt (by simp [Value.ownBlock])).2
      go_wp2_with fail
      go_region_law (go_simp; go_at_call 40; refine (s_l1Below B g n c A b 8 _ hCd (by decide)).mono ?_; rintro r w4 ⟨y, rfl, hy, hC4, hf4⟩; obtain ⟨hy0, hy1⟩ := hy.2 (by decide); obtain ⟨k8, rfl⟩ := Int.eq_ofNat_of_zero_le hy0; have h6 := h5d.fr hf4 (fun k hk => by have := (h5d.lt (mem_blkOf.1 hk)).1; simp; omega); have hv4 : w4.cell? ⟨g3, k, none⟩ = some (.int .u8 v0) := (World.cell?_of_block (w := w3) (w' := w4) (a := ⟨g3, k, none⟩) (hf4.block g3 hg3l (by simp; omega))).trans hv0; have hfz4 := (BS.store h6 (k := k) (by omega) (x := 0) (by decide)).2.1)
      all_goals
        obtain ⟨b', hb'⟩ := (BS.store h6 (k := k) (by omega) (xor_u8 v0 (IntKind.u8.wrap (2 ^ k8)))).2.2
        go_wp2_with fail
        go_ret
        exact ⟨_, _, _, _, rfl, hb'.sl, fun x hx => by have := (hb'.lt (mem_blkOf.1 hx)).1; omega, by omega, hC4.set_ (by omega) _, (hF3.drew.trans hf4).new_ (by exact hg3) _⟩
  · have z3 : (q == 3) = false := by simp [q3]
    go_wp2_with fail
    go_ret
    exact ⟨_, _, _, _, rfl, h4.sl, fun x hx => by have := (h4.lt (mem_blkOf.1 hx)).1; omega, by omega, hC2, hF2⟩
end Go.Proofs.Ytihhedmehlemmaa
