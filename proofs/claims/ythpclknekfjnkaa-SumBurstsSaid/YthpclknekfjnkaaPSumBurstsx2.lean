-- Written by wip/xprint of this repo (our own program) out of the translation; what is marked BY HAND is ours. Not trusted: Lean checks it.
import Derived.Test.YthpclknekfjnkaaPSumBurstsx0
import Derived.Test.YthpclknekfjnkaaPSumBurstsx1
namespace Go.Proofs.Ythpclknekfjnkaa.PSumBursts
open Go.RowKit Go.Proofs.YthpclknekfjnkaaW.PrintWords Go.Proofs.YthpclknekfjnkaaW.PrintLast Go.Proofs.YthpclknekfjnkaaW.PrintMore
attribute [local go_sem] max2_int min2_int max_two min_two max_three min_three max_four min_four   -- for this text's walks alone
set_option linter.unusedVariables false
set_option linter.unusedSimpArgs false

/-! ### ours: sm_grid -/

set_option maxHeartbeats 8000000 in
set_option maxRecDepth 100000 in
theorem sm_of (m g r : Nat) (w : World) (hG : w.heap[g]? = some (.cells (gridTab m 32) 50 (0, 0))) (hr : r < 2 ^ 32) :
    Calls Try.prog 33 #[.pointer (some ⟨g, 0, none⟩), .int .u32 (r : Int)] w fun e w' => e = .returned (.int .u32 ((stn m r : Nat) : Int)) ∧ w' = w := by
  have hu50 := Try.underlying50
  have HG := Aside0.mk hG
  clear hG
  go_enter Try.func33, Try.ntmps33
  go_wp2
  go_loopg [5, 7] 32 (fun kq v5 v7 w' => ∃ (o i : Nat), v5 = .int .u32 (o : Int) ∧ v7 = .int .i64 (i : Int) ∧ Aside0 (kq + i = 32) ∧ Aside0 (comb (fun i => stn m (2 ^ i)) r i = o) ∧ w' = w)
  case atStart => exact ⟨0, 0, rfl, rfl, ⟨rfl⟩, ⟨rfl⟩, rfl⟩
  case round =>
    obtain ⟨o, i, rfl, rfl, HK, HS, rfl⟩ := hrel
    cases gk with
    | zero =>
      have ei : i = 32 := by have := HK.out; omega
      subst ei
      have hs := HS.out
      rw [comb_stn m r hr] at hs
      have HS2 := Aside0.mk hs
      clear hs HS
      go_wp2
      go_ret
      exact ⟨by rw [HS2.out]; rfl, rfl⟩
    | succ d =>
      have hi : i < 32 := by have := HK.out; omega
      have hib : decide ((i : Int) < 32) = true := decide_eq_true (by omega)
      have hib' : decide (i < 32) = true := decide_eq_true hi
      have hol : o < 2 ^ 32 := by have := comb_lt m r i; rw [HS.out] at this; omega
      have hc := blk_cell HG.out i
      rw [gridTab_at m 32 i hi, if_pos hi] at hc
      have hq : (r : Int) / 2 ^ i = ((r / 2 ^ i : Nat) : Int) := by simp
      have ha := u32_and1 (a := r / 2 ^ i) (Nat.lt_of_le_of_lt (Nat.div_le_self _ _) hr)
      rw [← hq] at ha
      clear hq
      rcases (show r / 2 ^ i % 2 = 1 ∨ r / 2 ^ i % 2 = 0 by omega) with h2 | h2
      · rw [h2] at ha
        have ha' : Go.bits .and .u32 ((r : Int) / 2 ^ i) 1 = 1 := ha
        clear ha
        obtain ⟨o2, ho2⟩ : ∃ o2, comb (fun i => stn m (2 ^ i)) r (i + 1) = o2 := ⟨_, rfl⟩
        have hx : Go.bits .xor .u32 (o : Int) ((stn m (2 ^ i) : Nat) : Int) = (o2 : Int) := by
          rw [u32_xor hol (stn_lt m (Nat.pow_lt_pow_right (by decide) (by omega))), ← ho2, comb, if_pos h2, HS.out]
        have HS2 := Aside0.mk ho2
        clear ho2 HS h2
        go_wp2
        go_roundg d
        case measure => omega
        case rel => exact ⟨o2, i + 1, rfl, by first | rfl | (rw [show wrap64 ((i : Int) + 1) = ((i + 1 : Nat) : Int) from by unfold wrap64; omega]), ⟨by have := HK.out; omega⟩, HS2, rfl⟩
      · rw [h2] at ha
        have ha' : Go.bits .and .u32 ((r : Int) / 2 ^ i) 1 = 0 := ha
        clear ha
        have HS2 := Aside0.mk (show comb (fun i => stn m (2 ^ i)) r (i + 1) = o by rw [comb, if_neg (by omega)]; exact HS.out)
        clear HS h2
        go_wp2
        go_roundg d
        case measure => omega
        case rel => exact ⟨o, i + 1, rfl, by first | rfl | (rw [show wrap64 ((i : Int) + 1) = ((i + 1 : Nat) : Int) from by unfold wrap64; omega]), ⟨by have := HK.out; omega⟩, HS2, rfl⟩

set_option maxHeartbeats 8000000 in
set_option maxRecDepth 100000 in
theorem sm_twice (m g : Nat) (w : World) (hG : w.heap[g]? = some (.cells (gridTab m 32) 50 (0, 0))) :
    Calls Try.prog 32 #[.pointer (some ⟨g, 0, none⟩)] w fun e w' => e = .returned (.agg (gridTab (m + m) 32)) ∧ Below w.heap.size w w' := by
  have hu50 := Try.underlying50
  have HG := Aside0.mk hG
  clear hG
  have HB := Aside0.mk (Below.refl w.heap.size w)
  go_enter Try.func32, Try.ntmps32
  go_wp2_with (first | ((with_reducible refine gate_dst (N := 2) rfl ?_); (try (refine gate_guard (by rfl) ?_; dsimp only)); refine box_event ?hg (N := 2) ?hd (cs := gridTab (m + m) 0) (t := 50) ?hr ?_; (case hd => rfl); (case hg => rfl); (case hr => first | (go_simp; done) | (go_simp; rfl)); intro g2 hg w1 hbox hb; have m0 := Aside0.mk (below_step (by repeat (first | (with_reducible first | exact HB.out | apply below_alloc | apply pw_below_drewN | apply below_drew1) | exact HB.out)) hb); have m1 := Aside0.mk hbox; have m2 := Aside0.mk ((by rw [hg]; exact (below_size (by repeat (first | (with_reducible first | exact HB.out | apply below_alloc | apply pw_below_drewN | apply below_drew1) | exact HB.out))) : w.heap.size ≤ g2)); have m3 := Aside0.mk (blk_below (g := g) (o := .cells (gridTab m 32) 50 (0, 0)) (by (with_reducible repeat (first | refine blk_drewN ?_ _ | refine blk_drew ?_ | refine blk_alloc ?_ _)); exact HG.out) hb); have m4 := Aside0.mk ((by rw [hg]; exact Nat.ne_of_lt (blk_lt (g := g) (o := .cells (gridTab m 32) 50 (0, 0)) (by (with_reducible repeat (first | refine blk_drewN ?_ _ | refine blk_drew ?_ | refine blk_alloc ?_ _)); exact HG.out)) : g ≠ g2)); clear HB HG; have HB := m0; have B2 := m1; have G2 := m2; have HG := m3; have Ngg2 := m4; clear m0 m1 m2 m3 m4; clear hb hbox hg) | ((with_reducible refine gate_dst (N := 3) rfl ?_); (try (refine gate_guard (by rfl) ?_; dsimp only)); refine box_event ?hg (N := 3) ?hd (cs := gridTab (m + m) 0) (t := 50) ?hr ?_; (case hd => rfl); (case hg => rfl); (case hr => first | (go_simp; done) | (go_simp; rfl)); intro g3 hg w2 hbox hb; have m0 := Aside0.mk (below_step (by repeat (first | (with_reducible first | exact HB.out | apply below_alloc | apply pw_below_drewN | apply below_drew1) | exact HB.out)) hb); have m1 := Aside0.mk hbox; have m2 := Aside0.mk ((by rw [hg]; exact (below_size (by repeat (first | (with_reducible first | exact HB.out | apply below_alloc | apply pw_below_drewN | apply below_drew1) | exact HB.out))) : w.heap.size ≤ g3)); have m3 := Aside0.mk (blk_below (g := g) (o := .cells (gridTab m 32) 50 (0, 0)) (by (with_reducible repeat (first | refine blk_drewN ?_ _ | refine blk_drew ?_ | refine blk_alloc ?_ _)); exact HG.out) hb); have m4 := Aside0.mk ((by rw [hg]; exact Nat.ne_of_lt (blk_lt (g := g) (o := .cells (gridTab m 32) 50 (0, 0)) (by (with_reducible repeat (first | refine blk_drewN ?_ _ | refine blk_drew ?_ | refine blk_alloc ?_ _)); exact HG.out)) : g ≠ g3)); have m5 := Aside0.mk (blk_below (g := g2) (o := .cells (gridTab (m + m) 0) 50 (0, 0)) (by (with_reducible repeat (first | refine blk_drewN ?_ _ | refine blk_drew ?_ | refine blk_alloc ?_ _)); exact B2.out) hb); have m6 := Aside0.mk ((by rw [hg]; exact Nat.ne_of_lt (blk_lt (g := g2) (o := .cells (gridTab (m + m) 0) 50 (0, 0)) (by (with_reducible repeat (first | refine blk_drewN ?_ _ | refine blk_drew ?_ | refine blk_alloc ?_ _)); exact B2.out)) : g2 ≠ g3)); clear HB HG B2; have HB := m0; have B3 := m1; have G3 := m2; have HG := m3; have Ngg3 := m4; have B2 := m5; have Ng2g3 := m6; clear m0 m1 m2 m3 m4 m5 m6; clear hb hbox hg))
  go_loopg [5] 32 (fun kq v5 w' => ∃ (j : Nat), v5 = .int .i64 (j : Int) ∧ Aside0 (kq + j = 32) ∧ Aside0 (w'.heap[g3]? = some (.cells (gridTab (m + m) j) 50 (0, 0))) ∧ Aside0 (w'.heap[g2]? = some (.cells (gridTab (m + m) 0) 50 (0, 0))) ∧ Aside0 (w'.heap[g]? = some (.cells (gridTab m 32) 50 (0, 0))) ∧ Aside0 (Below w.heap.size w w'))
  case atStart => exact ⟨0, rfl, ⟨rfl⟩, B3, B2, HG, HB⟩
  case round =>
    clear B3 B2 HG HB
    obtain ⟨j, rfl, HK, B3, B2, HG, HB⟩ := hrel
    cases gk with
    | zero =>
      have ej : j = 32 := by have := HK.out; omega
      subst ej
      go_wp2_with (first | ((with_reducible refine gate_dst (N := 18) rfl ?_); refine wpList_load_row rfl 50 _ rfl g3 rfl 50 (gridTab (m + m) 32) (0, 0) _ B3.out hu50 rfl (by rw [gridTab_size]; rfl) ?_) | ((with_reducible refine gate_store (t := 50) (p := 2) rfl ?_); refine wpList_store_row rfl 50 _ _ rfl g2 (gridTab (m + m) 32) rfl rfl 50 (gridTab (m + m) 0) B2.out (by rw [gridTab_size]; rfl) (by rw [gridTab_size, gridTab_size]) (gridTab_one _ 32) ?_))
      refine bodyPost_ret (results_cell_row rfl _ _ g2 50 (gridTab (m + m) 32) (0, 0) _ rfl (setRow_heap _ g2 _ _ _ _ B2.out) hu50 rfl (by rw [gridTab_size]; rfl)) rfl ?_
      exact ⟨rfl, sm_below_setRow HB.out G2.out _⟩
    | succ d =>
      have hj : j < 32 := by have := HK.out; omega
      have hjb : decide ((j : Int) < 32) = true := decide_eq_true (by omega)
      have hjb' : decide (j < 32) = true := decide_eq_true hj
      have hpl : stn m (2 ^ j) < 2 ^ 32 := stn_lt m (Nat.pow_lt_pow_right (by decide) (by omega))
      have hc := blk_cell HG.out j
      rw [gridTab_at m 32 j hj, if_pos hj] at hc
      have hc3 := blk_cell B3.out j
      rw [gridTab_at (m + m) j j hj, if_neg (Nat.lt_irrefl j)] at hc3
      have hf3 := blk_frozen B3.out j
      go_wp2_with (first | ((with_reducible refine gate_callee (f := 33) rfl ?_); refine goesL_ (some 15) rfl rfl Try.func33 (by kernel_rfl) rfl #[.pointer (some ⟨g, 0, none⟩), .int .u32 ((stn m (2 ^ j) : Nat) : Int)] rfl (by (try simp only [List.map_toArray, List.map_cons, List.map_nil]); first | done | rfl) ?_; (refine (sm_of m g (stn m (2 ^ j)) _ (by (with_reducible repeat (first | refine blk_drewN ?_ _ | refine blk_drew ?_ | refine blk_alloc ?_ _)); exact HG.out) hpl).mono ?_); rintro e w5 ⟨rfl, rfl⟩; refine ⟨_, rfl, ?_⟩))
      go_roundg d
      case measure => omega
      case rel => exact ⟨j + 1, by first | rfl | (rw [show wrap64 ((j : Int) + 1) = ((j + 1 : Nat) : Int) from by unfold wrap64; omega]), ⟨by have := HK.out; omega⟩, ⟨by rw [← gridTab_put (m + m) j hj, stn_add]; exact blk_set B3.out j _⟩, ⟨blk_far B2.out Ng2g3.out _⟩, ⟨blk_far HG.out Ngg3.out _⟩, ⟨below_set HB.out G3.out⟩⟩

/-! ### sum_zeros: function 27 -/
-- BY HAND

def sum_zeros.f (a0 a1 : Int) : Option Int := if (u32ok a0 && decide (0 ≤ a1 ∧ a1 ≤ 1048576)) = true then some ((stn (8 * a1.toNat) a0.toNat : Nat) : Int) else none
set_option maxHeartbeats 8000000 in
set_option maxRecDepth 100000 in
theorem sum_zeros.calls (a0 : Int) (a1 : Int) (r : Int) (w : World) (h : sum_zeros.f a0 a1 = some r) :
    Calls Try.prog 27 #[.int .u32 a0, .int .i64 a1] w fun e w' => e = .returned (.int .u32 r) ∧ Below w.heap.size w w' := by
  have hu50 := Try.underlying50
  unfold sum_zeros.f at h
  by_cases hk : (u32ok a0 && decide (0 ≤ a1 ∧ a1 ≤ 1048576)) = true
  case neg => rw [if_neg hk] at h; cases h
  rw [if_pos hk] at h
  obtain rfl := Option.some.inj h
  clear h
  rw [Bool.and_eq_true, decide_eq_true_eq] at hk
  obtain ⟨hk1, hk2⟩ := hk
  obtain ⟨n0, rfl, hn0⟩ := u32ok_nat hk1
  obtain ⟨n, rfl⟩ : ∃ n : Nat, a1 = (n : Int) := ⟨a1.toNat, by omega⟩
  rw [Int.toNat_natCast, Int.toNat_natCast]
  have hnm : n ≤ 1048576 := by omega
  have HNM := Aside0.mk hnm
  clear hk1 hk2 hnm
  obtain ⟨R, hR⟩ : ∃ R, stn (8 * n) n0 = R := ⟨_, rfl⟩
  rw [hR]
  have HR0 := Aside0.mk hR
  have HN0 := Aside0.mk hn0
  clear hR hn0
  have HB := Aside0.mk (Below.refl w.heap.size w)
  go_enter Try.func27, Try.ntmps27
  go_wp2_with (first | ((with_reducible refine gate_dst (N := 5) rfl ?_); (try (refine gate_guard (by rfl) ?_; dsimp only)); refine box_event ?hg (N := 5) ?hd (cs := gridTab 1 0) (t := 50) ?hr ?_; (case hd => rfl); (case hg => rfl); (case hr => first | (go_simp; done) | (go_simp; rfl)); intro g5 hg w1 hbox hb; have m0 := Aside0.mk (below_step (by repeat (first | (with_reducible first | exact HB.out | apply below_alloc | apply pw_below_drewN | apply below_drew1) | exact HB.out)) hb); have m1 := Aside0.mk hbox; have m2 := Aside0.mk ((by rw [hg]; exact (below_size (by repeat (first | (with_reducible first | exact HB.out | apply below_alloc | apply pw_below_drewN | apply below_drew1) | exact HB.out))) : w.heap.size ≤ g5)); clear HB ; have HB := m0; have B5 := m1; have G5 := m2; clear m0 m1 m2; clear hb hbox hg) | ((with_reducible refine gate_store (t := 50) (p := 5) rfl ?_); refine wpList_store_row rfl 50 _ _ rfl g5 (gridTab 1 1) rfl (by rfl) 50 (gridTab 1 0) B5.out (by rw [gridTab_size]; rfl) (by rw [gridTab_size, gridTab_size]) (gridTab_one 1 1) ?_))
  have B6 := Aside0.mk (setRow_heap w1 g5 (gridTab 1 0) (gridTab 1 1) 50 (0, 0) B5.out)
  have HB6 := Aside0.mk (sm_below_setRow HB.out G5.out (gridTab 1 1))
  clear HB B5
  generalize w1.setRow g5 (gridTab 1 1) = w6 at B6 HB6 ⊢
  go_loopg [6] 31 (fun kq v6 w' => ∃ (i : Nat), v6 = .int .i64 (i : Int) ∧ Aside0 (kq + i = 32) ∧ Aside0 (1 ≤ i) ∧ Aside0 (w'.heap[g5]? = some (.cells (gridTab 1 i) 50 (0, 0))) ∧ Aside0 (Below w.heap.size w w'))
  case atStart => exact ⟨1, rfl, ⟨rfl⟩, ⟨Nat.le_refl _⟩, B6, HB6⟩
  case round =>
    clear B6 HB6
    obtain ⟨i, rfl, HK, H1, B5, HB⟩ := hrel
    cases gk with
    | succ d =>
      have hi : i < 32 := by have := HK.out; omega
      have h1 := H1.out
      have hib : decide ((i : Int) < 32) = true := decide_eq_true (by omega)
      have hib' : decide (i < 32) = true := decide_eq_true hi
      have hc3 := blk_cell B5.out i
      rw [gridTab_at 1 i i hi, if_neg (Nat.lt_irrefl i)] at hc3
      have hf3 := blk_frozen B5.out i
      have hsub : ((i : Int) - 1) = ((i - 1 : Nat) : Int) := by omega
      have hpw : (2 : Int) ^ (i - 1) % 4294967296 = ((stn 1 (2 ^ i) : Nat) : Int) := by
        rw [stn_one_pow i h1]
        have h9 : 2 ^ (i - 1) < 4294967296 := Nat.pow_lt_pow_right (show 1 < 2 by decide) (show i - 1 < 32 by omega)
        have e : ((2 ^ (i - 1) : Nat) : Int) = (2 : Int) ^ (i - 1) := by simp
        rw [← e]
        generalize 2 ^ (i - 1) = q at h9
        omega
      go_wp2
      go_roundg d
      case measure => omega
      case rel => exact ⟨i + 1, by first | rfl | (rw [show wrap64 ((i : Int) + 1) = ((i + 1 : Nat) : Int) from by unfold wrap64; omega]), ⟨by have := HK.out; omega⟩, ⟨by omega⟩, ⟨by rw [← gridTab_put 1 i hi]; exact blk_set B5.out i _⟩, ⟨below_set HB.out G5.out⟩⟩
    | zero =>
      have ei : i = 32 := by have := HK.out; omega
      subst ei
      go_wp2
      go_loopg [17] 3 (fun kq v17 w' => ∃ (t m : Nat), v17 = .int .i64 (t : Int) ∧ Aside0 (kq + t = 3) ∧ Aside0 (m = 2 ^ t) ∧ Aside0 (w'.heap[g5]? = some (.cells (gridTab m 32) 50 (0, 0))) ∧ Aside0 (Below w.heap.size w w'))
      case atStart => exact ⟨0, 1, rfl, ⟨rfl⟩, ⟨rfl⟩, B5, HB⟩
      case round =>
        clear B5 HB
        obtain ⟨t, m, rfl, HT, HM, B5, HB⟩ := hrel
        cases gk with
        | succ d =>
          have ht : t < 3 := by have := HT.out; omega
          have htb : decide ((t : Int) < 3) = true := decide_eq_true (by omega)
          have htb' : decide (t < 3) = true := decide_eq_true ht
          go_wp2_with (first | ((with_reducible refine gate_callee (f := 32) rfl ?_); refine goesL_ (some 19) rfl rfl Try.func32 (by kernel_rfl) rfl #[.pointer (some ⟨g5, 0, none⟩)] rfl (by (try simp only [List.map_toArray, List.map_cons, List.map_nil]); first | done | rfl) ?_; (refine (sm_twice m g5 _ B5.out).mono ?_); rintro e w5 ⟨rfl, hb⟩; refine ⟨_, rfl, ?_⟩; have m0 := Aside0.mk (below_step (by repeat (first | (with_reducible first | exact HB.out | apply below_alloc | apply pw_below_drewN | apply below_drew1 | refine below_set ?_ G5.out) | exact HB.out)) hb); have m1 := Aside0.mk (blk_below (g := g5) (o := .cells (gridTab m 32) 50 (0, 0)) B5.out hb); clear HB B5 hb; have HB := m0; have B5 := m1; clear m0 m1) | ((with_reducible refine gate_store (t := 50) (p := 5) rfl ?_); refine wpList_store_row rfl 50 _ _ rfl g5 (gridTab (m + m) 32) rfl rfl 50 (gridTab m 32) B5.out (by rw [gridTab_size]; rfl) (by rw [gridTab_size, gridTab_size]) (gridTab_one _ 32) ?_))
          go_roundg d
          case measure => omega
          case rel => exact ⟨t + 1, m + m, by first | rfl | (rw [show wrap64 ((t : Int) + 1) = ((t + 1 : Nat) : Int) from by unfold wrap64; omega]), ⟨by have := HT.out; omega⟩, ⟨by rw [Nat.pow_succ, ← HM.out]; omega⟩, ⟨setRow_heap _ g5 _ _ _ _ B5.out⟩, ⟨sm_below_setRow HB.out G5.out _⟩⟩
        | zero =>
          have et : t = 3 := by have := HT.out; omega
          subst et
          have hm8 : m = 8 := HM.out
          subst hm8
          clear HM
          go_wp2
          go_loopg [0, 1] n (fun kq v0 v1 w' => ∃ (a m : Nat), v0 = .int .u32 (a : Int) ∧ v1 = .int .i64 (kq : Int) ∧ Aside0 (a < 2 ^ 32) ∧ Aside0 (kq ≤ 1048576) ∧ Aside0 (stn (m * kq) a = R) ∧ Aside0 (w'.heap[g5]? = some (.cells (gridTab m 32) 50 (0, 0))) ∧ Aside0 (Below w.heap.size w w'))
          case atStart => exact ⟨n0, 8, rfl, rfl, HN0, HNM, HR0, B5, HB⟩
          case round =>
            clear B5 HB HR0 HN0 HNM
            obtain ⟨a, m, rfl, rfl, HA, HQ, HS, B5, HB⟩ := hrel
            cases gk with
            | zero =>
              have hs := HS.out
              rw [Nat.mul_zero] at hs
              have hs' : a = R := hs
              subst hs'
              clear hs HS
              go_wp2
              go_ret
              exact ⟨rfl, HB.out⟩
            | succ d =>
              obtain ⟨e, he⟩ : ∃ e, d + 1 = e := ⟨_, rfl⟩
              have he0 : 0 < e := by omega
              have hlt : e / 2 < d + 1 := by omega
              have hq := HQ.out
              have hs := HS.out
              rw [he] at hq hs ⊢
              have HE := Aside0.mk he
              clear HQ HS he
              have hpos : decide ((0 : Int) < (e : Int)) = true := decide_eq_true (by omega)
              have hpos' : decide (0 < e) = true := decide_eq_true he0
              have hand := i64_and1 (a := e) (by omega)
              rcases (show e % 2 = 1 ∨ e % 2 = 0 by omega) with h2 | h2
              · rw [h2] at hand
                have hand' : Go.bits .and .i64 (e : Int) 1 = 1 := hand
                clear hand
                rw [odd_mul m e h2, stn_add] at hs
                have HS := Aside0.mk hs
                clear hs
                go_wp2_with (first | ((with_reducible refine gate_callee (f := 33) rfl ?_); refine goesL_ (some 29) rfl rfl Try.func33 (by kernel_rfl) rfl #[.pointer (some ⟨g5, 0, none⟩), .int .u32 (a : Int)] rfl (by (try simp only [List.map_toArray, List.map_cons, List.map_nil]); first | done | rfl) ?_; (refine (sm_of m g5 a _ B5.out HA.out).mono ?_); rintro e w5 ⟨rfl, rfl⟩; refine ⟨_, rfl, ?_⟩) | ((with_reducible refine gate_callee (f := 32) rfl ?_); refine goesL_ (some 30) rfl rfl Try.func32 (by kernel_rfl) rfl #[.pointer (some ⟨g5, 0, none⟩)] rfl (by (try simp only [List.map_toArray, List.map_cons, List.map_nil]); first | done | rfl) ?_; (refine (sm_twice m g5 _ B5.out).mono ?_); rintro e w5 ⟨rfl, hb⟩; refine ⟨_, rfl, ?_⟩; have m0 := Aside0.mk (below_step (by repeat (first | (with_reducible first | exact HB.out | apply below_alloc | apply pw_below_drewN | apply below_drew1 | refine below_set ?_ G5.out) | exact HB.out)) hb); have m1 := Aside0.mk (blk_below (g := g5) (o := .cells (gridTab m 32) 50 (0, 0)) B5.out hb); clear HB B5 hb; have HB := m0; have B5 := m1; clear m0 m1) | ((with_reducible refine gate_store (t := 50) (p := 5) rfl ?_); refine wpList_store_row rfl 50 _ _ rfl g5 (gridTab (m + m) 32) rfl rfl 50 (gridTab m 32) B5.out (by rw [gridTab_size]; rfl) (by rw [gridTab_size, gridTab_size]) (gridTab_one _ 32) ?_))
                rw [← HE.out]
                go_roundg (e / 2)
                case measure => exact hlt
                case rel => exact ⟨stn m a, m + m, rfl, by first | rfl | (rw [show ((d + 1 : Nat) : Int) / 2 = ((e / 2 : Nat) : Int) by have := HE.out; omega]), ⟨stn_lt m HA.out⟩, ⟨by omega⟩, HS, ⟨setRow_heap _ g5 _ _ _ _ B5.out⟩, ⟨sm_below_setRow HB.out G5.out _⟩⟩
              · rw [h2] at hand
                have hand' : Go.bits .and .i64 (e : Int) 1 = 0 := hand
                clear hand
                rw [even_mul m e h2] at hs
                have HS := Aside0.mk hs
                clear hs
                go_wp2_with (first | ((with_reducible refine gate_callee (f := 32) rfl ?_); refine goesL_ (some 30) rfl rfl Try.func32 (by kernel_rfl) rfl #[.pointer (some ⟨g5, 0, none⟩)] rfl (by (try simp only [List.map_toArray, List.map_cons, List.map_nil]); first | done | rfl) ?_; (refine (sm_twice m g5 _ B5.out).mono ?_); rintro e w5 ⟨rfl, hb⟩; refine ⟨_, rfl, ?_⟩; have m0 := Aside0.mk (below_step (by repeat (first | (with_reducible first | exact HB.out | apply below_alloc | apply pw_below_drewN | apply below_drew1 | refine below_set ?_ G5.out) | exact HB.out)) hb); have m1 := Aside0.mk (blk_below (g := g5) (o := .cells (gridTab m 32) 50 (0, 0)) B5.out hb); clear HB B5 hb; have HB := m0; have B5 := m1; clear m0 m1) | ((with_reducible refine gate_store (t := 50) (p := 5) rfl ?_); refine wpList_store_row rfl 50 _ _ rfl g5 (gridTab (m + m) 32) rfl rfl 50 (gridTab m 32) B5.out (by rw [gridTab_size]; rfl) (by rw [gridTab_size, gridTab_size]) (gridTab_one _ 32) ?_))
                rw [← HE.out]
                go_roundg (e / 2)
                case measure => exact hlt
                case rel => exact ⟨a, m + m, rfl, by first | rfl | (rw [show ((d + 1 : Nat) : Int) / 2 = ((e / 2 : Nat) : Int) by have := HE.out; omega]), HA, ⟨by omega⟩, HS, ⟨setRow_heap _ g5 _ _ _ _ B5.out⟩, ⟨sm_below_setRow HB.out G5.out _⟩⟩

/-! ### sum_length: function 28 -/
def sum_length.f (a0 : Int) : Option (Int) := some (mn (mx a0 0) 1048576)
set_option maxHeartbeats 8000000 in
set_option maxRecDepth 100000 in
theorem sum_length.calls (a0 : Int) (r : Int) (w : World) (h : sum_length.f a0 = some r) :
    Calls Try.prog 28 #[.int .i64 a0] w fun e w' => e = .returned (.int .i64 r) ∧ Below w.heap.size w w' := by
  have HB := Aside0.mk (Below.refl w.heap.size w)
  have H : (some (mn (mx a0 0) 1048576)) = some r := h
  clear h
  obtain ⟨ji2, hji2⟩ : ∃ j_ : Int, (mx a0 0) = j_ := ⟨_, rfl⟩
  replace H : (some (mn (ji2) 1048576)) = some r := by first | (rw [hji2] at H; exact H) | (simp only [hji2] at H ⊢; exact H)
  (try (have hji2l : 0 ≤ ji2 := by (rw [← hji2]; unfold mx; (repeat' split) <;> omega)))
  (try (have hji2m : 0 ≤ ji2 := by omega))
  have hji2_ : (if a0 < 0 then 0 else a0) = ji2 := hji2
  obtain ⟨ji3, hji3⟩ : ∃ j_ : Int, (mn (ji2) 1048576) = j_ := ⟨_, rfl⟩
  replace H : (some ji3) = some r := by first | (rw [hji3] at H; exact H) | (simp only [hji3] at H ⊢; exact H)
  have hji3_ : (if 1048576 < (ji2) then 1048576 else (ji2)) = ji3 := hji3
  obtain rfl := Option.some.inj H
  go_enter Try.func28, Try.ntmps28
  go_wp2
  go_ret
  exact ⟨by first | rfl | (simp [errW_none, errW_some] <;> rfl) | (simp only [← hji2, ← hji3]; first | rfl | (simp [errW_none, errW_some] <;> rfl)) | (simp [*, errW_none, errW_some] <;> rfl), by repeat (first | (with_reducible first | exact HB.out | apply below_alloc | apply pw_below_drewN | apply below_drew1) | exact HB.out)⟩

/-! ### sum_Join: function 21 -/
def sum_Join.f (a0 : Int) (a1 : Int) (a2 : Int) : Option (Int) := (sum_length.f a2).bind fun t127 => ((sum_zeros.f a0 t127).bind fun t128 => (some (Go.bits .xor .u32 t128 a1)))
set_option maxHeartbeats 8000000 in
set_option maxRecDepth 100000 in
theorem sum_Join.calls (a0 : Int) (a1 : Int) (a2 : Int) (r : Int) (w : World) (h : sum_Join.f a0 a1 a2 = some r) :
    Calls Try.prog 21 #[.int .u32 a0, .int .u32 a1, .int .i64 a2] w fun e w' => e = .returned (.int .u32 r) ∧ Below w.heap.size w w' := by
  have HB := Aside0.mk (Below.refl w.heap.size w)
  have H : ((sum_length.f a2).bind fun t127 => ((sum_zeros.f a0 t127).bind fun t128 => (some (Go.bits .xor .u32 t128 a1)))) = some r := h
  clear h
  replace H := Option.bind_eq_some_iff.mp H
  obtain ⟨t127, A40, H⟩ := H
  replace H : ((sum_zeros.f a0 t127).bind fun t128 => (some (Go.bits .xor .u32 t128 a1))) = some r := H
  have A4 := Aside0.mk A40
  clear A40
  replace H := Option.bind_eq_some_iff.mp H
  obtain ⟨t128, A50, H⟩ := H
  replace H : (some (Go.bits .xor .u32 t128 a1)) = some r := H
  have A5 := Aside0.mk A50
  clear A50
  obtain rfl := Option.some.inj H
  go_enter Try.func21, Try.ntmps21
  go_wp2_with (first | ((with_reducible refine gate_callee (f := 28) rfl ?_); refine goesL_ (some 9) rfl rfl Try.func28 (by kernel_rfl) rfl #[.int .i64 a2] rfl (by (try simp only [List.map_toArray, List.map_cons, List.map_nil]); first | done | rfl | (simp only [List.length_drop, List.length_take]; rfl)) ?_; (with_reducible refine (sum_length.calls a2 t127 _ A4.out).mono ?_); rintro e w6 ⟨rfl, hb⟩; refine ⟨_, rfl, ?_⟩; have n0_ := Aside0.mk (below_step (by repeat (first | (with_reducible first | exact HB.out | apply below_alloc | apply pw_below_drewN | apply below_drew1) | exact HB.out)) hb); clear HB; have HB := n0_; clear n0_; (try clear hb); (try clear hb2); (try clear hk); (try clear hi)) | ((with_reducible refine gate_callee (f := 27) rfl ?_); refine goesL_ (some 10) rfl rfl Try.func27 (by kernel_rfl) rfl #[.int .u32 a0, .int .i64 t127] rfl (by (try simp only [List.map_toArray, List.map_cons, List.map_nil]); first | done | rfl | (simp only [List.length_drop, List.length_take]; rfl)) ?_; (with_reducible refine (sum_zeros.calls a0 t127 t128 _ A5.out).mono ?_); rintro e w7 ⟨rfl, hb⟩; refine ⟨_, rfl, ?_⟩; have n0_ := Aside0.mk (below_step (by repeat (first | (with_reducible first | exact HB.out | apply below_alloc | apply pw_below_drewN | apply below_drew1) | exact HB.out)) hb); clear HB; have HB := n0_; clear n0_; (try clear hb); (try clear hb2); (try clear hk); (try clear hi)))
  go_ret
  exact ⟨by first | rfl | (simp [errW_none, errW_some] <;> rfl) | (simp [*, errW_none, errW_some] <;> rfl), by repeat (first | (with_reducible first | exact HB.out | apply below_alloc | apply pw_below_drewN | apply below_drew1) | exact HB.out)⟩

/-! ### ours: sm_conv -/
theorem sm_below_freeze {w W : World} {g : Nat} (h : Below w.heap.size w W) (hg : w.heap.size ≤ g) (k n : Nat) : Below w.heap.size w (W.freeze ⟨g, k, none⟩ n) := by
  unfold World.freeze
  split
  · exact h
  · refine ⟨h.os, h.tape, h.output, by simpa using h.size, fun j hj => ?_⟩
    rw [← h.block j hj]
    simp only [Array.getElem?_modify]
    rw [if_neg (by show ¬ g = j; omega)]
theorem sm_cell_freeze (W : World) (g k n : Nat) (a : Addr) : (W.freeze ⟨g, k, none⟩ n).cell? a = W.cell? a := by
  unfold World.freeze
  split
  · rfl
  · unfold World.cell?
    simp only [Array.getElem?_modify]
    by_cases c : g = a.block
    · subst c
      cases W.heap[a.block]? with
      | none => simp
      | some o => cases o <;> simp
    · simp [c]
theorem sm_conv {W : World} {g n c : Nat} {cs : Array Value} (hg : W.heap[g]? = some (.cells cs 5 (0, 0))) :
    (convert 22 22 (.slice (some ⟨g, 0, none⟩) n c)).run Try.prog W = .ok (.slice (some ⟨g, 0, none⟩) n c) (W.freeze ⟨g, cs.size, none⟩ 1) := by
  have hsh : W.shape? g = some (5, cs.size) := by unfold World.shape?; rw [hg]
  simp [convert, run_underlying Try.underlying22, run_underlying Try.underlying5, markStringish, hsh]
/-- A row made of numbers, turned into its own type: what stands there may still be read. -/
theorem sm_conv_event {P : Program} {ops : Array Oper} {rest : List Oper} {o : Oper} {a : Act} {Q : Exit → Act → World → Prop} {w W : World} {ok : Nat → Prop} {A : Option Addr} {xs : List Int} {c : Nat} (hgd : o.guard = none) (HB : Below w.heap.size w W)
    (HR : (Kd.int .u8).R 5 W w.heap.size ok (.slice A xs.length c) xs) (hp : 0 < xs.length)
    (hrun : ∀ W', (convert 22 22 (.slice A xs.length c)).run P W = .ok (.slice A xs.length c) W' → (execOp a.eval o).run P W = .ok (.value (.slice A xs.length c)) W') (hP : P = Try.prog)
    (h : ∀ W', Below w.heap.size w W' → Kd.C (Kd.int .u8) W' A xs.length xs → (∀ A' n' ys, Kd.C (Kd.int .u8) W A' n' ys → Kd.C (Kd.int .u8) W' A' n' ys) → wpList P ops Q rest (a.put o.dst (.slice A xs.length c)) W') : wpList P ops Q (o :: rest) a W := by
  subst hP
  obtain ⟨g, cap, e, hb, hl, cs, hcs⟩ := Kd.R_form HR hp
  injection e with e1 e2 e3
  subst e1
  subst e3
  have hC : ∀ A' n' ys, Kd.C (Kd.int .u8) W A' n' ys → Kd.C (Kd.int .u8) (W.freeze ⟨g, cs.size, none⟩ 1) A' n' ys := fun A' n' ys h => by
    refine Kd.C_of_reads (d := 0) ?_
    obtain ⟨r1, r2, r3⟩ := Kd.reads_of_C (d := 0) h
    refine ⟨r1, r2, fun hn => ?_⟩
    obtain ⟨ad, ea, hc⟩ := r3 hn
    exact ⟨ad, ea, fun j hj => by rw [sm_cell_freeze]; exact hc j hj⟩
  exact Kd.event_run hgd (hrun _ (sm_conv hcs)) (h _ (sm_below_freeze HB hb _ _) (hC _ _ _ (Kd.R_reads' HR).2.2) hC)

/-! ### lienlaw01_awake: function 16 -/
-- BY HAND

def aw_seal : List Int := (sum_Seal.f 20 [97, 98]).getD []
def aw_c1 : Int := (sum_Of.f [49, 50, 51, 52]).getD 0
def aw_c2 : Int := (sum_Of.f [53, 54, 55, 56, 57]).getD 0
theorem aw_e1 : sum_Seal.f 20 [97, 98] = some aw_seal := by kernel_rfl
theorem aw_e2 : sum_Open.f 20 aw_seal = some ([97, 98], 0) := by kernel_rfl
theorem aw_e3 : sum_Open.f 20 [1, 2, 3, 4, 5] = some ([], 10) := by kernel_rfl
theorem aw_e4 : sum_Of.f [49, 50, 51, 52, 53, 54, 55, 56, 57] = some 3808858755 := by kernel_rfl
theorem aw_e5 : sum_Of.f [49, 50, 51, 52] = some aw_c1 := by kernel_rfl
theorem aw_e6 : sum_Of.f [53, 54, 55, 56, 57] = some aw_c2 := by kernel_rfl
theorem aw_e7 : sum_Join.f aw_c1 aw_c2 5 = some 3808858755 := by kernel_rfl
theorem aw_str : strOfNums ([97, 98] : List Int) = (⟨#[97, 98]⟩ : ByteArray) := by kernel_rfl
def lienlaw01_awake.f : Option Bool := some true
set_option maxHeartbeats 2000000 in
set_option maxRecDepth 100000 in
theorem aw_walk (w : World) (y6 y9 y13 y17 y22 y25 S : List Int) (b1 b2 : Int) (Y6 : Aside0 (y6 = [97, 98])) (Y13 : Aside0 (y13 = [1, 2, 3, 4, 5])) (Y17 : Aside0 (y17 = [49, 50, 51, 52, 53, 54, 55, 56, 57])) (Y22 : Aside0 (y22 = [49, 50, 51, 52])) (Y25 : Aside0 (y25 = [53, 54, 55, 56, 57]))
    (E1 : Aside0 (sum_Seal.f 20 y6 = some S)) (E2 : Aside0 (sum_Open.f 20 S = some (y9, 0))) (E3 : Aside0 (sum_Open.f 20 y13 = some ([], 10))) (E4 : Aside0 (sum_Of.f y17 = some 3808858755)) (E5 : Aside0 (sum_Of.f y22 = some b1)) (E6 : Aside0 (sum_Of.f y25 = some b2)) (E7 : Aside0 (sum_Join.f b1 b2 5 = some 3808858755)) (E8 : Aside0 (strOfNums y9 = (⟨#[97, 98]⟩ : ByteArray))) :
    Calls Try.prog 16 #[] w fun e w' => e = .returned (.bool true) ∧ Below w.heap.size w w' := by
  have HB := Aside0.mk (Below.refl w.heap.size w)
  go_enter Try.func16, Try.ntmps16
  go_wp2_with (first | ((with_reducible refine gate_dst (N := 6) rfl ?_); (try (refine gate_guard (by rfl) ?_; dsimp only)); refine Kd.R_lit (Kd.int .u8) _ 5 ?hg (N := 6) ?hd (xs := ([97, 98] : List Int)) (inner := [.int .u8 97, .int .u8 98]) (ok := fun _ => True) (okp := fun _ => True) ?hr ?hp (fun _ hk => hk) trivial (Below.refl _ _) (Nat.le_refl _) (by simp) ?_; (case hd => rfl); (case hg => rfl); (case hr => first | (go_simp; done) | (go_simp; rfl)); (case hp => exact (Reps.one (show Kd.M (Kd.int .u8) _ _ _ 97 [.int .u8 97] from rfl) (Reps.one (show Kd.M (Kd.int .u8) _ _ _ 98 [.int .u8 98] from rfl) (Reps.none _ _)))); intro v6 w6 ho hb hg_ hnew_; clear hg_ hnew_; rw [← Y6.out] at ho; have n0_ := Aside0.mk (Kd.R_lower ho (below_size (by repeat (first | (with_reducible first | exact HB.out | apply below_alloc | apply pw_below_drewN | apply below_drew1) | exact HB.out)))); have n1_ := Aside0.mk (below_step (by repeat (first | (with_reducible first | exact HB.out | apply below_alloc | apply pw_below_drewN | apply below_drew1) | exact HB.out)) hb); clear HB; have HR6 := n0_; have HB := n1_; clear n0_ n1_; clear hb ho; obtain ⟨A6, c6, eo⟩ := Kd.R_slice HR6.out; subst eo) | ((with_reducible refine gate_dst (N := 7) rfl ?_); (try (refine gate_guard (by rfl) ?_; dsimp only)); refine sm_conv_event (w := w) ?hg HB.out HR6.out (by rw [Y6.out]; decide) ?hrun rfl ?_; (case hg => rfl); (case hrun => intro W' hW; (first | (go_simp; done) | (go_simp; rfl))); intro w7 hb hc hcc; have n0_ := Aside0.mk hb; have n1_ := Aside0.mk hc; have n2_ := Aside0.mk (Kd.R_reads' HR6.out).2.1; clear HB HR6 hb hc hcc; have HB := n0_; have HC7 := n1_; have HL7 := n2_; clear n0_ n1_ n2_) | ((with_reducible refine gate_callee (f := 14) rfl ?_); refine goesL_ (some 8) rfl rfl Try.func14 (by kernel_rfl) rfl #[.slice A6 y6.length c6] rfl (by (try simp only [List.map_toArray, List.map_cons, List.map_nil]); first | done | rfl) ?_; (with_reducible refine (sum_Seal.calls 20 _ _ y6 S _ ?side1 ?side2 E1.out).mono ?_); (case side1 => exact (by (with_reducible repeat (first | apply Kd.C_alloc | apply Kd.C_drewN | apply Kd.C_drew)); exact HC7.out)); (case side2 => exact HL7.out); rintro e w8 ⟨v8, rfl, ho, hb⟩; refine ⟨_, rfl, ?_⟩; have HR8 := Aside0.mk ho; clear ho; obtain ⟨A8, c8, eo⟩ := Kd.R_slice HR8.out; subst eo; have n9_ := Aside0.mk (below_step (by repeat (first | (with_reducible first | exact HB.out | apply below_alloc | apply pw_below_drewN | apply below_drew1) | exact HB.out)) hb); clear HB; have HB := n9_; clear n9_; clear hb) | ((with_reducible refine gate_callee (f := 12) rfl ?_); refine goesL_ (some 9) rfl rfl Try.func12 (by kernel_rfl) rfl #[.slice A8 S.length c8] rfl (by (try simp only [List.map_toArray, List.map_cons, List.map_nil]); first | done | rfl) ?_; (with_reducible refine (sum_Open.calls 20 _ _ S y9 0 _ ?side1 ?side2 E2.out).mono ?_); (case side1 => exact (by (with_reducible repeat (first | apply Kd.C_alloc | apply Kd.C_drewN | apply Kd.C_drew)); exact (Kd.R_reads' HR8.out).2.2)); (case side2 => exact (Kd.R_reads' HR8.out).2.1); rintro e w9 ⟨v9, rfl, ho, hb⟩; refine ⟨_, rfl, ?_⟩; obtain ⟨A9, c9, eo⟩ := Kd.R_slice ho; subst eo; have HX := Aside0.mk (Kd.R_reads' ho).2.2; clear ho; have n9_ := Aside0.mk (below_step (by repeat (first | (with_reducible first | exact HB.out | apply below_alloc | apply pw_below_drewN | apply below_drew1) | exact HB.out)) hb); clear HB; have HB := n9_; clear n9_; clear hb) | ((with_reducible refine gate_dst (N := 13) rfl ?_); (try (refine gate_guard (by rfl) ?_; dsimp only)); refine Kd.R_lit (Kd.int .u8) _ 5 ?hg (N := 13) ?hd (xs := ([1, 2, 3, 4, 5] : List Int)) (inner := [.int .u8 1, .int .u8 2, .int .u8 3, .int .u8 4, .int .u8 5]) (ok := fun _ => True) (okp := fun _ => True) ?hr ?hp (fun _ hk => hk) trivial (Below.refl _ _) (Nat.le_refl _) (by simp) ?_; (case hd => rfl); (case hg => rfl); (case hr => first | (go_simp; done) | (go_simp; rfl)); (case hp => exact (Reps.one (show Kd.M (Kd.int .u8) _ _ _ 1 [.int .u8 1] from rfl) (Reps.one (show Kd.M (Kd.int .u8) _ _ _ 2 [.int .u8 2] from rfl) (Reps.one (show Kd.M (Kd.int .u8) _ _ _ 3 [.int .u8 3] from rfl) (Reps.one (show Kd.M (Kd.int .u8) _ _ _ 4 [.int .u8 4] from rfl) (Reps.one (show Kd.M (Kd.int .u8) _ _ _ 5 [.int .u8 5] from rfl) (Reps.none _ _))))))); intro v13 w13 ho hb hg_ hnew_; clear hg_ hnew_; rw [← Y13.out] at ho; have n0_ := Aside0.mk (Kd.R_lower ho (below_size (by repeat (first | (with_reducible first | exact HB.out | apply below_alloc | apply pw_below_drewN | apply below_drew1) | exact HB.out)))); have n1_ := Aside0.mk (below_step (by repeat (first | (with_reducible first | exact HB.out | apply below_alloc | apply pw_below_drewN | apply below_drew1) | exact HB.out)) hb); have x_ := Aside0.mk (Kd.C_below (by (with_reducible repeat (first | apply Kd.C_alloc | apply Kd.C_drewN | apply Kd.C_drew)); exact HX.out) hb); clear HX; have HX := x_; clear x_; clear HB; have HR13 := n0_; have HB := n1_; clear n0_ n1_; clear hb ho; obtain ⟨A13, c13, eo⟩ := Kd.R_slice HR13.out; subst eo) | ((with_reducible refine gate_callee (f := 12) rfl ?_); refine goesL_ (some 14) rfl rfl Try.func12 (by kernel_rfl) rfl #[.slice A13 y13.length c13] rfl (by (try simp only [List.map_toArray, List.map_cons, List.map_nil]); first | done | rfl) ?_; (with_reducible refine (sum_Open.calls 20 _ _ y13 [] 10 _ ?side1 ?side2 E3.out).mono ?_); (case side1 => exact (by (with_reducible repeat (first | apply Kd.C_alloc | apply Kd.C_drewN | apply Kd.C_drew)); exact (Kd.R_reads' HR13.out).2.2)); (case side2 => exact (Kd.R_reads' HR13.out).2.1); rintro e w14 ⟨v14, rfl, ho, hb⟩; refine ⟨_, rfl, ?_⟩; clear ho; have x_ := Aside0.mk (Kd.C_below (by (with_reducible repeat (first | apply Kd.C_alloc | apply Kd.C_drewN | apply Kd.C_drew)); exact HX.out) hb); clear HX; have HX := x_; clear x_; have n9_ := Aside0.mk (below_step (by repeat (first | (with_reducible first | exact HB.out | apply below_alloc | apply pw_below_drewN | apply below_drew1) | exact HB.out)) hb); clear HB; have HB := n9_; clear n9_; clear hb) | ((with_reducible refine gate_dst (N := 17) rfl ?_); (try (refine gate_guard (by rfl) ?_; dsimp only)); refine Kd.R_lit (Kd.int .u8) _ 5 ?hg (N := 17) ?hd (xs := ([49, 50, 51, 52, 53, 54, 55, 56, 57] : List Int)) (inner := [.int .u8 49, .int .u8 50, .int .u8 51, .int .u8 52, .int .u8 53, .int .u8 54, .int .u8 55, .int .u8 56, .int .u8 57]) (ok := fun _ => True) (okp := fun _ => True) ?hr ?hp (fun _ hk => hk) trivial (Below.refl _ _) (Nat.le_refl _) (by simp) ?_; (case hd => rfl); (case hg => rfl); (case hr => first | (go_simp; done) | (go_simp; rfl)); (case hp => exact (Reps.one (show Kd.M (Kd.int .u8) _ _ _ 49 [.int .u8 49] from rfl) (Reps.one (show Kd.M (Kd.int .u8) _ _ _ 50 [.int .u8 50] from rfl) (Reps.one (show Kd.M (Kd.int .u8) _ _ _ 51 [.int .u8 51] from rfl) (Reps.one (show Kd.M (Kd.int .u8) _ _ _ 52 [.int .u8 52] from rfl) (Reps.one (show Kd.M (Kd.int .u8) _ _ _ 53 [.int .u8 53] from rfl) (Reps.one (show Kd.M (Kd.int .u8) _ _ _ 54 [.int .u8 54] from rfl) (Reps.one (show Kd.M (Kd.int .u8) _ _ _ 55 [.int .u8 55] from rfl) (Reps.one (show Kd.M (Kd.int .u8) _ _ _ 56 [.int .u8 56] from rfl) (Reps.one (show Kd.M (Kd.int .u8) _ _ _ 57 [.int .u8 57] from rfl) (Reps.none _ _))))))))))); intro v17 w17 ho hb hg_ hnew_; clear hg_ hnew_; rw [← Y17.out] at ho; have n0_ := Aside0.mk (Kd.R_lower ho (below_size (by repeat (first | (with_reducible first | exact HB.out | apply below_alloc | apply pw_below_drewN | apply below_drew1) | exact HB.out)))); have n1_ := Aside0.mk (below_step (by repeat (first | (with_reducible first | exact HB.out | apply below_alloc | apply pw_below_drewN | apply below_drew1) | exact HB.out)) hb); have x_ := Aside0.mk (Kd.C_below (by (with_reducible repeat (first | apply Kd.C_alloc | apply Kd.C_drewN | apply Kd.C_drew)); exact HX.out) hb); clear HX; have HX := x_; clear x_; clear HB; have HR17 := n0_; have HB := n1_; clear n0_ n1_; clear hb ho; obtain ⟨A17, c17, eo⟩ := Kd.R_slice HR17.out; subst eo) | ((with_reducible refine gate_dst (N := 18) rfl ?_); (try (refine gate_guard (by rfl) ?_; dsimp only)); refine sm_conv_event (w := w) ?hg HB.out HR17.out (by rw [Y17.out]; decide) ?hrun rfl ?_; (case hg => rfl); (case hrun => intro W' hW; (first | (go_simp; done) | (go_simp; rfl))); intro w18 hb hc hcc; have n0_ := Aside0.mk hb; have n1_ := Aside0.mk hc; have n2_ := Aside0.mk (Kd.R_reads' HR17.out).2.1; have x_ := Aside0.mk (hcc _ _ _ (by (with_reducible repeat (first | apply Kd.C_alloc | apply Kd.C_drewN | apply Kd.C_drew)); exact HX.out)); clear HX; have HX := x_; clear x_; clear HB HR17 hb hc hcc; have HB := n0_; have HC18 := n1_; have HL18 := n2_; clear n0_ n1_ n2_) | ((with_reducible refine gate_callee (f := 17) rfl ?_); refine goesL_ (some 19) rfl rfl Try.func17 (by kernel_rfl) rfl #[.slice A17 y17.length c17] rfl (by (try simp only [List.map_toArray, List.map_cons, List.map_nil]); first | done | rfl) ?_; (with_reducible refine (sum_Of.calls _ _ y17 3808858755 _ ?side1 ?side2 E4.out).mono ?_); (case side1 => exact (by (with_reducible repeat (first | apply Kd.C_alloc | apply Kd.C_drewN | apply Kd.C_drew)); exact HC18.out)); (case side2 => exact HL18.out); rintro e w19 ⟨rfl, hb⟩; refine ⟨_, rfl, ?_⟩; have x_ := Aside0.mk (Kd.C_below (by (with_reducible repeat (first | apply Kd.C_alloc | apply Kd.C_drewN | apply Kd.C_drew)); exact HX.out) hb); clear HX; have HX := x_; clear x_; have n9_ := Aside0.mk (below_step (by repeat (first | (with_reducible first | exact HB.out | apply below_alloc | apply pw_below_drewN | apply below_drew1) | exact HB.out)) hb); clear HB; have HB := n9_; clear n9_; clear hb) | ((with_reducible refine gate_dst (N := 22) rfl ?_); (try (refine gate_guard (by rfl) ?_; dsimp only)); refine Kd.R_lit (Kd.int .u8) _ 5 ?hg (N := 22) ?hd (xs := ([49, 50, 51, 52] : List Int)) (inner := [.int .u8 49, .int .u8 50, .int .u8 51, .int .u8 52]) (ok := fun _ => True) (okp := fun _ => True) ?hr ?hp (fun _ hk => hk) trivial (Below.refl _ _) (Nat.le_refl _) (by simp) ?_; (case hd => rfl); (case hg => rfl); (case hr => first | (go_simp; done) | (go_simp; rfl)); (case hp => exact (Reps.one (show Kd.M (Kd.int .u8) _ _ _ 49 [.int .u8 49] from rfl) (Reps.one (show Kd.M (Kd.int .u8) _ _ _ 50 [.int .u8 50] from rfl) (Reps.one (show Kd.M (Kd.int .u8) _ _ _ 51 [.int .u8 51] from rfl) (Reps.one (show Kd.M (Kd.int .u8) _ _ _ 52 [.int .u8 52] from rfl) (Reps.none _ _)))))); intro v22 w22 ho hb hg_ hnew_; clear hg_ hnew_; rw [← Y22.out] at ho; have n0_ := Aside0.mk (Kd.R_lower ho (below_size (by repeat (first | (with_reducible first | exact HB.out | apply below_alloc | apply pw_below_drewN | apply below_drew1) | exact HB.out)))); have n1_ := Aside0.mk (below_step (by repeat (first | (with_reducible first | exact HB.out | apply below_alloc | apply pw_below_drewN | apply below_drew1) | exact HB.out)) hb); have x_ := Aside0.mk (Kd.C_below (by (with_reducible repeat (first | apply Kd.C_alloc | apply Kd.C_drewN | apply Kd.C_drew)); exact HX.out) hb); clear HX; have HX := x_; clear x_; clear HB; have HR22 := n0_; have HB := n1_; clear n0_ n1_; clear hb ho; obtain ⟨A22, c22, eo⟩ := Kd.R_slice HR22.out; subst eo) | ((with_reducible refine gate_dst (N := 23) rfl ?_); (try (refine gate_guard (by rfl) ?_; dsimp only)); refine sm_conv_event (w := w) ?hg HB.out HR22.out (by rw [Y22.out]; decide) ?hrun rfl ?_; (case hg => rfl); (case hrun => intro W' hW; (first | (go_simp; done) | (go_simp; rfl))); intro w23 hb hc hcc; have n0_ := Aside0.mk hb; have n1_ := Aside0.mk hc; have n2_ := Aside0.mk (Kd.R_reads' HR22.out).2.1; have x_ := Aside0.mk (hcc _ _ _ (by (with_reducible repeat (first | apply Kd.C_alloc | apply Kd.C_drewN | apply Kd.C_drew)); exact HX.out)); clear HX; have HX := x_; clear x_; clear HB HR22 hb hc hcc; have HB := n0_; have HC23 := n1_; have HL23 := n2_; clear n0_ n1_ n2_) | (go_at_call 17; (with_reducible refine (sum_Of.calls _ _ y22 b1 _ ?side1 ?side2 E5.out).mono ?_); (case side1 => exact (by (with_reducible repeat (first | apply Kd.C_alloc | apply Kd.C_drewN | apply Kd.C_drew)); exact HC23.out)); (case side2 => exact HL23.out); rintro e w24 ⟨rfl, hb⟩; have x_ := Aside0.mk (Kd.C_below (by (with_reducible repeat (first | apply Kd.C_alloc | apply Kd.C_drewN | apply Kd.C_drew)); exact HX.out) hb); clear HX; have HX := x_; clear x_; have n9_ := Aside0.mk (below_step (by repeat (first | (with_reducible first | exact HB.out | apply below_alloc | apply pw_below_drewN | apply below_drew1) | exact HB.out)) hb); clear HB; have HB := n9_; clear n9_; clear hb) | ((with_reducible refine gate_dst (N := 25) rfl ?_); (try (refine gate_guard (by rfl) ?_; dsimp only)); refine Kd.R_lit (Kd.int .u8) _ 5 ?hg (N := 25) ?hd (xs := ([53, 54, 55, 56, 57] : List Int)) (inner := [.int .u8 53, .int .u8 54, .int .u8 55, .int .u8 56, .int .u8 57]) (ok := fun _ => True) (okp := fun _ => True) ?hr ?hp (fun _ hk => hk) trivial (Below.refl _ _) (Nat.le_refl _) (by simp) ?_; (case hd => rfl); (case hg => rfl); (case hr => first | (go_simp; done) | (go_simp; rfl)); (case hp => exact (Reps.one (show Kd.M (Kd.int .u8) _ _ _ 53 [.int .u8 53] from rfl) (Reps.one (show Kd.M (Kd.int .u8) _ _ _ 54 [.int .u8 54] from rfl) (Reps.one (show Kd.M (Kd.int .u8) _ _ _ 55 [.int .u8 55] from rfl) (Reps.one (show Kd.M (Kd.int .u8) _ _ _ 56 [.int .u8 56] from rfl) (Reps.one (show Kd.M (Kd.int .u8) _ _ _ 57 [.int .u8 57] from rfl) (Reps.none _ _))))))); intro v25 w25 ho hb hg_ hnew_; clear hg_ hnew_; rw [← Y25.out] at ho; have n0_ := Aside0.mk (Kd.R_lower ho (below_size (by repeat (first | (with_reducible first | exact HB.out | apply below_alloc | apply pw_below_drewN | apply below_drew1) | exact HB.out)))); have n1_ := Aside0.mk (below_step (by repeat (first | (with_reducible first | exact HB.out | apply below_alloc | apply pw_below_drewN | apply below_drew1) | exact HB.out)) hb); have x_ := Aside0.mk (Kd.C_below (by (with_reducible repeat (first | apply Kd.C_alloc | apply Kd.C_drewN | apply Kd.C_drew)); exact HX.out) hb); clear HX; have HX := x_; clear x_; clear HB; have HR25 := n0_; have HB := n1_; clear n0_ n1_; clear hb ho; obtain ⟨A25, c25, eo⟩ := Kd.R_slice HR25.out; subst eo) | ((with_reducible refine gate_dst (N := 26) rfl ?_); (try (refine gate_guard (by rfl) ?_; dsimp only)); refine sm_conv_event (w := w) ?hg HB.out HR25.out (by rw [Y25.out]; decide) ?hrun rfl ?_; (case hg => rfl); (case hrun => intro W' hW; (first | (go_simp; done) | (go_simp; rfl))); intro w26 hb hc hcc; have n0_ := Aside0.mk hb; have n1_ := Aside0.mk hc; have n2_ := Aside0.mk (Kd.R_reads' HR25.out).2.1; have x_ := Aside0.mk (hcc _ _ _ (by (with_reducible repeat (first | apply Kd.C_alloc | apply Kd.C_drewN | apply Kd.C_drew)); exact HX.out)); clear HX; have HX := x_; clear x_; clear HB HR25 hb hc hcc; have HB := n0_; have HC26 := n1_; have HL26 := n2_; clear n0_ n1_ n2_) | (go_at_call 17; (with_reducible refine (sum_Of.calls _ _ y25 b2 _ ?side1 ?side2 E6.out).mono ?_); (case side1 => exact (by (with_reducible repeat (first | apply Kd.C_alloc | apply Kd.C_drewN | apply Kd.C_drew)); exact HC26.out)); (case side2 => exact HL26.out); rintro e w27 ⟨rfl, hb⟩; have x_ := Aside0.mk (Kd.C_below (by (with_reducible repeat (first | apply Kd.C_alloc | apply Kd.C_drewN | apply Kd.C_drew)); exact HX.out) hb); clear HX; have HX := x_; clear x_; have n9_ := Aside0.mk (below_step (by repeat (first | (with_reducible first | exact HB.out | apply below_alloc | apply pw_below_drewN | apply below_drew1) | exact HB.out)) hb); clear HB; have HB := n9_; clear n9_; clear hb) | (go_at_call 21; (with_reducible refine (sum_Join.calls b1 b2 5 3808858755 _ E7.out).mono ?_); rintro e w28 ⟨rfl, hb⟩; have x_ := Aside0.mk (Kd.C_below (by (with_reducible repeat (first | apply Kd.C_alloc | apply Kd.C_drewN | apply Kd.C_drew)); exact HX.out) hb); clear HX; have HX := x_; clear x_; have n9_ := Aside0.mk (below_step (by repeat (first | (with_reducible first | exact HB.out | apply below_alloc | apply pw_below_drewN | apply below_drew1) | exact HB.out)) hb); clear HB; have HB := n9_; clear n9_; clear hb; have hcv := Kd.C_string (P := Try.prog) (c := c9) Try.underlying22 Try.underlying5 Try.underlying9 HX.out; rw [E8.out] at hcv))
  go_ret
  exact ⟨by first | rfl | (simp <;> rfl), by repeat (first | (with_reducible first | exact HB.out | apply below_alloc | apply pw_below_drewN | apply below_drew1) | exact HB.out)⟩
theorem lienlaw01_awake.calls (r : Bool) (w : World) (h : lienlaw01_awake.f = some r) :
    Calls Try.prog 16 #[] w fun e w' => e = .returned (.bool r) ∧ Below w.heap.size w w' := by
  obtain rfl := Option.some.inj h
  exact aw_walk w _ _ _ _ _ _ _ _ _ ⟨rfl⟩ ⟨rfl⟩ ⟨rfl⟩ ⟨rfl⟩ ⟨rfl⟩ ⟨aw_e1⟩ ⟨aw_e2⟩ ⟨aw_e3⟩ ⟨aw_e4⟩ ⟨aw_e5⟩ ⟨aw_e6⟩ ⟨aw_e7⟩ ⟨aw_str⟩

/-! ### lienlaw01_SumBursts: function 5 -/
mutual
def lienlaw01_SumBursts.j0 : Nat → Int → Int → List Int → Bool → Option (Bool)
  | 0, _, _, _, _ => none
  | k + 1, x1, x2, x7, x23 => if x23 = true then (if (x7.length : Int) ≥ 4 then ((lienlaw01_awake.f).bind fun t135 => (some t135)) else (some false)) else (if (IntKind.u64.wrap (wrap64 (8 * (x7.length : Int)))) = 0 then (none) else (lienlaw01_SumBursts.l0 k x2 x7 (wrap64 (Int.tmod x1 (IntKind.u64.wrap (wrap64 (8 * (x7.length : Int)))))) false 0))
def lienlaw01_SumBursts.l0 : Nat → Int → List Int → Int → Bool → Int → Option (Bool)
  | 0, _, _, _, _, _ => none
  | k + 1, x2, x7, x8, x9, x10 => if x10 < 32 then (if 0 ≤ (IntKind.u64.wrap (x10)) then (if (Go.bits .and .u32 (shr .u32 x2 (IntKind.u64.wrap (x10))) 1) = 1 then (if (wrap64 (x8 + x10)) < (wrap64 (8 * (x7.length : Int))) then (if 0 ≤ (wrap64 (Int.tdiv (wrap64 (x8 + x10)) 8)) then (if (wrap64 (Int.tdiv (wrap64 (x8 + x10)) 8)) < (x7.length : Int) then (if 0 ≤ (IntKind.u64.wrap (Int.tmod (wrap64 (x8 + x10)) 8)) then (lienlaw01_SumBursts.l0 k x2 (x7.set ((wrap64 (Int.tdiv (wrap64 (x8 + x10)) 8)) : Int).toNat (Go.bits .xor .u8 (rd x7 (wrap64 (Int.tdiv (wrap64 (x8 + x10)) 8))) (shl .u8 1 (IntKind.u64.wrap (Int.tmod (wrap64 (x8 + x10)) 8))))) x8 true (wrap64 (x10 + 1))) else (none)) else (none)) else (none)) else (lienlaw01_SumBursts.l0 k x2 x7 x8 x9 (wrap64 (x10 + 1)))) else (lienlaw01_SumBursts.l0 k x2 x7 x8 x9 (wrap64 (x10 + 1)))) else (none)) else ((sum_Open.f k x7).bind fun bt138 => (if (x9 == (bt138.2 == 10)) = true then (if x9 = true then (if (bt138.1.length : Int) = 0 then ((lienlaw01_awake.f).bind fun t142 => (some t142)) else (some false)) else ((lienlaw01_awake.f).bind fun t143 => (some t143))) else (some false)))
end
def lienlaw01_SumBursts.f (k : Nat) (l0 : List Int) (a1 : Int) (a2 : Int) : Option (Bool) := (lienlaw01_cut.f l0).bind fun t129 => ((sum_Seal.f k t129).bind fun t132 => (if (t132.length : Int) < 4 then (lienlaw01_SumBursts.j0 k a1 a2 t132 true) else (lienlaw01_SumBursts.j0 k a1 a2 t132 (a2 == 0))))
theorem lienlaw01_SumBursts.mono_l : ∀ k, (∀ y0 y1 y2 y3, LeO (lienlaw01_SumBursts.j0 k y0 y1 y2 y3) (lienlaw01_SumBursts.j0 (k + 1) y0 y1 y2 y3)) ∧ (∀ y0 y1 y2 y3 y4, LeO (lienlaw01_SumBursts.l0 k y0 y1 y2 y3 y4) (lienlaw01_SumBursts.l0 (k + 1) y0 y1 y2 y3 y4))
  | 0 => ⟨fun _ _ _ _ r h => by simp [lienlaw01_SumBursts.j0] at h, fun _ _ _ _ _ r h => by simp [lienlaw01_SumBursts.l0] at h⟩
  | k + 1 => by
    obtain ⟨ih0, ih1⟩ := lienlaw01_SumBursts.mono_l k
    refine ⟨?_, ?_⟩
    · intro y0 y1 y2 y3
      unfold lienlaw01_SumBursts.j0
      repeat' first
      | (with_reducible exact ih0 _ _ _ _)
      | (with_reducible exact ih1 _ _ _ _ _)
      | (with_reducible exact sum_Open.mono _ _)
      | (with_reducible exact sum_Seal.mono _ _)
      | (with_reducible exact LeO.refl _)
      | (with_reducible exact LeO.none _)
      | (with_reducible refine LeO.ite ?_ ?_)
      | (with_reducible refine LeO.bind ?_ (fun _ => ?_))
      | exact ih0 _ _ _ _
      | exact ih1 _ _ _ _ _
      | exact sum_Open.mono _ _
      | exact sum_Seal.mono _ _
      | exact LeO.none _
      | refine LeO.ite ?_ ?_
      | refine LeO.bind ?_ (fun _ => ?_)
    · intro y0 y1 y2 y3 y4
      unfold lienlaw01_SumBursts.l0
      repeat' first
      | (with_reducible exact ih0 _ _ _ _)
      | (with_reducible exact ih1 _ _ _ _ _)
      | (with_reducible exact sum_Open.mono _ _)
      | (with_reducible exact sum_Seal.mono _ _)
      | (with_reducible exact LeO.refl _)
      | (with_reducible exact LeO.none _)
      | (with_reducible refine LeO.ite ?_ ?_)
      | (with_reducible refine LeO.bind ?_ (fun _ => ?_))
      | exact ih0 _ _ _ _
      | exact ih1 _ _ _ _ _
      | exact sum_Open.mono _ _
      | exact sum_Seal.mono _ _
      | exact LeO.none _
      | refine LeO.ite ?_ ?_
      | refine LeO.bind ?_ (fun _ => ?_)
theorem lienlaw01_SumBursts.mono : ∀ a0 a1 a2 k, LeO (lienlaw01_SumBursts.f k a0 a1 a2) (lienlaw01_SumBursts.f (k + 1) a0 a1 a2) := by
  intro a0 a1 a2 k
  obtain ⟨ih0, ih1⟩ := lienlaw01_SumBursts.mono_l k
  unfold lienlaw01_SumBursts.f
  repeat' first
      | (with_reducible exact ih0 _ _ _ _)
      | (with_reducible exact ih1 _ _ _ _ _)
      | (with_reducible exact sum_Open.mono _ _)
      | (with_reducible exact sum_Seal.mono _ _)
      | (with_reducible exact LeO.refl _)
      | (with_reducible exact LeO.none _)
      | (with_reducible refine LeO.ite ?_ ?_)
      | (with_reducible refine LeO.bind ?_ (fun _ => ?_))
      | exact ih0 _ _ _ _
      | exact ih1 _ _ _ _ _
      | exact sum_Open.mono _ _
      | exact sum_Seal.mono _ _
      | exact LeO.none _
      | refine LeO.ite ?_ ?_
      | refine LeO.bind ?_ (fun _ => ?_)
set_option maxHeartbeats 8000000 in
set_option maxRecDepth 100000 in
theorem lienlaw01_SumBursts.calls (k : Nat) (A0 : Option Addr) (c0 : Nat) (l0 : List Int) (a1 : Int) (a2 : Int) (r : Bool) (w : World) (hr0 : Kd.C (Kd.int .u8) w A0 l0.length l0) (hc0 : l0.length ≤ c0) (h : lienlaw01_SumBursts.f k l0 a1 a2 = some r) (hr_ : Aside0 (r = true)) :
    Calls Try.prog 5 #[.slice A0 l0.length c0, .int .u64 a1, .int .u32 a2] w fun e w' => e = .returned (.bool r) ∧ Below w.heap.size w w' := by
  have HR0 := Aside0.mk hr0
  have HC0 := Aside0.mk hc0
  clear hr0 hc0
  have HB := Aside0.mk (Below.refl w.heap.size w)
  have H : ((lienlaw01_cut.f l0).bind fun t129 => ((sum_Seal.f k t129).bind fun t132 => (if (t132.length : Int) < 4 then (lienlaw01_SumBursts.j0 k a1 a2 t132 true) else (lienlaw01_SumBursts.j0 k a1 a2 t132 (a2 == 0))))) = some r := h
  clear h
  replace H := Option.bind_eq_some_iff.mp H
  obtain ⟨t129, A40, H⟩ := H
  replace H : ((sum_Seal.f k t129).bind fun t132 => (if (t132.length : Int) < 4 then (lienlaw01_SumBursts.j0 k a1 a2 t132 true) else (lienlaw01_SumBursts.j0 k a1 a2 t132 (a2 == 0)))) = some r := H
  have A4 := Aside0.mk A40
  clear A40
  replace H := Option.bind_eq_some_iff.mp H
  obtain ⟨t132, A50, H⟩ := H
  replace H : (if (t132.length : Int) < 4 then (lienlaw01_SumBursts.j0 k a1 a2 t132 true) else (lienlaw01_SumBursts.j0 k a1 a2 t132 (a2 == 0))) = some r := H
  have A5 := Aside0.mk A50
  clear A50
  have HC6 := Aside0.mk H
  clear H
  go_enter Try.func5, Try.ntmps5
  go_upto_region 2 with (first | ((with_reducible refine gate_callee (f := 11) rfl ?_); refine goesL_ (some 15) rfl rfl Try.func11 (by kernel_rfl) rfl #[.slice A0 l0.length c0] rfl (by (try simp only [List.map_toArray, List.map_cons, List.map_nil]); first | done | rfl | (simp only [List.length_drop, List.length_take]; rfl)) ?_; (with_reducible refine (lienlaw01_cut.calls (fun k_ => k_ < w.heap.size) _ _ l0 t129 _ ?side1 A4.out).mono ?_); (case side1 => exact Kd.V_mk HC0.out (Kd.F_below (Kd.C_F (Kd.heap_int .u8) HR0.out) (by repeat (first | (with_reducible first | exact HB.out | apply below_alloc | apply pw_below_drewN | apply below_drew1) | exact HB.out)))); rintro e w7 ⟨v130, rfl, ho0, hb⟩; refine ⟨_, rfl, ?_⟩; have n0_ := Aside0.mk (Kd.V_lower (Kd.V_mono (ok' := fun k_ => True) ho0 (fun k_ hk_ => trivial)) (below_size (by repeat (first | (with_reducible first | exact HB.out | apply below_alloc | apply pw_below_drewN | apply below_drew1) | exact HB.out)))); have n1_ := Aside0.mk (below_step (by repeat (first | (with_reducible first | exact HB.out | apply below_alloc | apply pw_below_drewN | apply below_drew1) | exact HB.out)) hb); clear HB; have HO131 := n0_; have HB := n1_; clear n0_ n1_; (try clear hb); (try clear hb2); (try clear hk); (try clear hi); (try clear ho0); obtain ⟨Ao8, co8, eo8⟩ := Kd.V_slice HO131.out; subst eo8) | ((with_reducible refine gate_callee (f := 14) rfl ?_); refine goesL_ (some 16) rfl rfl Try.func14 (by kernel_rfl) rfl #[.slice Ao8 t129.length co8] rfl (by (try simp only [List.map_toArray, List.map_cons, List.map_nil]); first | done | rfl | (simp only [List.length_drop, List.length_take]; rfl)) ?_; (with_reducible refine (sum_Seal.calls k _ _ t129 t132 _ ?side1 ?side2 A5.out).mono ?_); (case side1 => repeat (first | exact (Kd.V_reads' HO131.out).2.2 | (with_reducible refine Kd.C_alloc ?_ _) | (with_reducible refine Kd.C_drewN ?_ _) | (with_reducible refine Kd.C_drew ?_))); (case side2 => exact (Kd.V_reads' HO131.out).2.1); rintro e w9 ⟨v133, rfl, ho0, hb⟩; refine ⟨_, rfl, ?_⟩; have n0_ := Aside0.mk (Kd.V_elder' (by (with_reducible repeat (first | apply Kd.V_alloc | apply Kd.V_drewN | apply Kd.V_drew)); exact HO131.out) (Kd.R_base ho0) hb); have n1_ := Aside0.mk (Kd.R_lower ho0 (below_size (by repeat (first | (with_reducible first | exact HB.out | apply below_alloc | apply pw_below_drewN | apply below_drew1) | exact HB.out)))); have n2_ := Aside0.mk (below_step (by repeat (first | (with_reducible first | exact HB.out | apply below_alloc | apply pw_below_drewN | apply below_drew1) | exact HB.out)) hb); clear HO131; clear HB; have HO131 := n0_; have HO134 := n1_; have HB := n2_; clear n0_ n1_ n2_; (try clear hb); (try clear hb2); (try clear hk); (try clear hi); (try clear ho0)))
  (try simp only [Act.put, List.setIfInBounds_toArray, List.set_cons_zero, List.set_cons_succ])
  go_cut [23] (fun v23 wc => ∃ (kq : Nat) (x23_5 : Bool), v23 = .bool x23_5 ∧ Aside0 (lienlaw01_SumBursts.j0 kq a1 a2 t132 x23_5 = some r) ∧ Aside0 (kq ≤ k) ∧ Aside0 (Kd.R (Kd.int .u8) 5 wc w.heap.size (fun _ => True) v133 t132) ∧ Aside0 (Below w.heap.size w wc))
  case first =>
    have H := HC6.out
    clear HC6
    by_cases c10 : (t132.length : Int) < 4
    · rw [if_pos c10] at H
      have c10b0 : decide ((t132.length : Int) < 4) = true := decide_eq_true c10
      have c10b1 : decide (t132.length < 4) = true := decide_eq_true (by omega)
      clear c10
      (first | rw [c10b0] | (simp only [i64_w, i32_w]; rw [c10b0]) | skip)
      have H' := Aside0.mk H
      clear H
      obtain ⟨Ao11, co11, eo11⟩ := Kd.R_slice HO134.out
      subst eo11
      go_wp2
      go_meet
      case rel => exact ⟨_, (true), (by first | rfl | (simp; done) | (simp [*]; done)), H', ⟨by first | omega | exact Nat.le_refl _⟩, ⟨by (with_reducible repeat (first | apply Kd.R_alloc | apply Kd.R_drewN | apply Kd.R_drew)); exact HO134.out⟩, ⟨by repeat (first | (with_reducible first | exact HB.out | apply below_alloc | apply pw_below_drewN | apply below_drew1) | exact HB.out)⟩⟩
    · rw [if_neg c10] at H
      have c10b0 : decide ((t132.length : Int) < 4) = false := decide_eq_false c10
      have c10b1 : decide (t132.length < 4) = false := decide_eq_false (by omega)
      clear c10
      (first | rw [c10b0] | (simp only [i64_w, i32_w]; rw [c10b0]) | skip)
      have H' := Aside0.mk H
      clear H
      obtain ⟨Ao12, co12, eo12⟩ := Kd.R_slice HO134.out
      subst eo12
      go_wp2
      go_meet
      case rel => exact ⟨_, ((a2 == 0)), (by first | rfl | (simp; done) | (simp [*]; done)), H', ⟨by first | omega | exact Nat.le_refl _⟩, ⟨by (with_reducible repeat (first | apply Kd.R_alloc | apply Kd.R_drewN | apply Kd.R_drew)); exact HO134.out⟩, ⟨by repeat (first | (with_reducible first | exact HB.out | apply below_alloc | apply pw_below_drewN | apply below_drew1) | exact HB.out)⟩⟩
  case rest =>
    clear HC6
    try clear c1
    try clear p2
    try clear c5
    try clear c10
    try clear c10b0
    try clear c10b1
    try clear c11
    obtain ⟨kq, x23_5, rfl, HA, HJ5, HO_7, HB⟩ := hcut
    cases kq with
    | zero => exact absurd HA.out (by simp [lienlaw01_SumBursts.j0])
    | succ kj5 =>
      have H := HA.out
      clear HA
      simp only [lienlaw01_SumBursts.j0] at H
      by_cases c13 : x23_5 = true
      · subst c13
        have H1 : (if (t132.length : Int) ≥ 4 then ((lienlaw01_awake.f).bind fun t135 => (some t135)) else (some false)) = some r := by rw [if_pos rfl] at H; exact H
        clear H
        have H := H1
        clear H1
        by_cases c14 : (t132.length : Int) ≥ 4
        · rw [if_pos c14] at H
          have c14b0 : decide (4 ≤ (t132.length : Int)) = true := decide_eq_true c14
          have c14b1 : decide (4 ≤ t132.length) = true := decide_eq_true (by omega)
          clear c14
          replace H := Option.bind_eq_some_iff.mp H
          obtain ⟨t135, A150, H⟩ := H
          replace H : (some t135) = some r := H
          have A15 := Aside0.mk A150
          clear A150
          obtain rfl := Option.some.inj H
          obtain ⟨Ao16, co16, eo16⟩ := Kd.R_slice HO_7.out
          subst eo16
          go_wp2_with (first | (go_at_call 16; (with_reducible refine (lienlaw01_awake.calls  t135 _ A15.out).mono ?_); rintro e w17 ⟨rfl, hb⟩; have n0_ := Aside0.mk (Kd.R_below (by (with_reducible repeat (first | apply Kd.R_alloc | apply Kd.R_drewN | apply Kd.R_drew)); exact HO_7.out) hb); have n1_ := Aside0.mk (below_step (by repeat (first | (with_reducible first | exact HB.out | apply below_alloc | apply pw_below_drewN | apply below_drew1) | exact HB.out)) hb); clear HO_7; clear HB; have HO_7 := n0_; have HB := n1_; clear n0_ n1_; (try clear hb); (try clear hb2); (try clear hk); (try clear hi)))
          go_ret
          exact ⟨by first | rfl | (simp [errW_none, errW_some] <;> rfl) | (simp [*, errW_none, errW_some] <;> rfl), by repeat (first | (with_reducible first | exact HB.out | apply below_alloc | apply pw_below_drewN | apply below_drew1) | exact HB.out)⟩
        · rw [if_neg c14] at H
          have c14b0 : decide (4 ≤ (t132.length : Int)) = false := decide_eq_false c14
          have c14b1 : decide (4 ≤ t132.length) = false := decide_eq_false (by omega)
          clear c14
          exact absurd ((Option.some.inj H).trans hr_.out) (by decide)
      · replace c13 := Bool.eq_false_iff.mpr c13
        subst c13
        have H1 : (if (IntKind.u64.wrap (wrap64 (8 * (t132.length : Int)))) = 0 then (none) else (lienlaw01_SumBursts.l0 kj5 a2 t132 (wrap64 (Int.tmod a1 (IntKind.u64.wrap (wrap64 (8 * (t132.length : Int)))))) false 0)) = some r := by rw [if_neg (show ¬ (false = true) by decide)] at H; exact H
        clear H
        have H := H1
        clear H1
        by_cases c18 : (IntKind.u64.wrap (wrap64 (8 * (t132.length : Int)))) = 0
        · rw [if_pos c18] at H
          exact absurd H (by simp)
        · rw [if_neg c18] at H
          have c18b0 : ((IntKind.u64.wrap (wrap64 (8 * (t132.length : Int)))) == 0) = false := beq_eq_false_iff_ne.mpr c18
          have c18b1 : ((IntKind.u64.wrap (wrap64 (8 * (t132.length : Int)))) != 0) = true := bne_iff_ne.mpr c18
          have H' := Aside0.mk H
          clear H
          obtain ⟨Ao19, co19, eo19⟩ := Kd.R_slice HO_7.out
          subst eo19
          go_wp2
          go_loopg [9, 10] kj5 (fun kq v9 v10 w' => ∃ (x7_2 : List Int) (x9_2 : Bool) (x10_2 : Int), v9 = .bool x9_2 ∧ v10 = .int .i64 x10_2 ∧ Aside0 (lienlaw01_SumBursts.l0 kq a2 x7_2 (wrap64 (Int.tmod a1 (IntKind.u64.wrap (wrap64 (8 * (t132.length : Int)))))) x9_2 x10_2 = some r) ∧ Aside0 (kq ≤ kj5) ∧ Aside0 (Kd.R (Kd.int .u8) 5 w' w.heap.size (fun _ => True) (.slice Ao19 t132.length co19) x7_2) ∧ Aside0 (Below w.heap.size w w'))
          case atStart => exact ⟨(t132), (false), (0), (by first | rfl | (simp; done) | (simp [*]; done)), (by first | rfl | (simp; done) | (simp [*]; done)), H', ⟨Nat.le_refl _⟩, ⟨by (with_reducible repeat (first | apply Kd.R_alloc | apply Kd.R_drewN | apply Kd.R_drew)); exact HO_7.out⟩, ⟨by repeat (first | (with_reducible first | exact HB.out | apply below_alloc | apply pw_below_drewN | apply below_drew1) | exact HB.out)⟩⟩
          case round =>
            clear H'
            try clear c1
            try clear p2
            try clear c5
            try clear p6
            try clear c10
            try clear c10b0
            try clear c10b1
            try clear c11
            try clear c13
            try clear c14
            try clear c14b0
            try clear c14b1
            try clear c18
            try clear c18b0
            try clear c18b1
            try clear p2
            obtain ⟨x7_2, x9_2, x10_2, rfl, rfl, HA, HK2, HO_7, HB⟩ := hrel
            have hl7_2 := (Kd.R_reads' HO_7.out).1
            rw [hl7_2] at HO_7
            (try simp only [hl7_2])
            cases gk with
            | zero => exact absurd HA.out (by simp [lienlaw01_SumBursts.l0])
            | succ k2 =>
              have H := HA.out
              clear HA
              simp only [lienlaw01_SumBursts.l0] at H
              by_cases c20 : x10_2 < 32
              · rw [if_pos c20] at H
                have c20b0 : decide (x10_2 < 32) = true := decide_eq_true c20
                clear c20
                obtain ⟨ji21, hji21⟩ : ∃ j_ : Int, (IntKind.u64.wrap (x10_2)) = j_ := ⟨_, rfl⟩
                replace H : (if 0 ≤ (ji21) then (if (Go.bits .and .u32 (shr .u32 a2 (ji21)) 1) = 1 then (if (wrap64 ((wrap64 (Int.tmod a1 (IntKind.u64.wrap (wrap64 (8 * (t132.length : Int)))))) + x10_2)) < (wrap64 (8 * (x7_2.length : Int))) then (if 0 ≤ (wrap64 (Int.tdiv (wrap64 ((wrap64 (Int.tmod a1 (IntKind.u64.wrap (wrap64 (8 * (t132.length : Int)))))) + x10_2)) 8)) then (if (wrap64 (Int.tdiv (wrap64 ((wrap64 (Int.tmod a1 (IntKind.u64.wrap (wrap64 (8 * (t132.length : Int)))))) + x10_2)) 8)) < (x7_2.length : Int) then (if 0 ≤ (IntKind.u64.wrap (Int.tmod (wrap64 ((wrap64 (Int.tmod a1 (IntKind.u64.wrap (wrap64 (8 * (t132.length : Int)))))) + x10_2)) 8)) then (lienlaw01_SumBursts.l0 k2 a2 (x7_2.set ((wrap64 (Int.tdiv (wrap64 ((wrap64 (Int.tmod a1 (IntKind.u64.wrap (wrap64 (8 * (t132.length : Int)))))) + x10_2)) 8)) : Int).toNat (Go.bits .xor .u8 (rd x7_2 (wrap64 (Int.tdiv (wrap64 ((wrap64 (Int.tmod a1 (IntKind.u64.wrap (wrap64 (8 * (t132.length : Int)))))) + x10_2)) 8))) (shl .u8 1 (IntKind.u64.wrap (Int.tmod (wrap64 ((wrap64 (Int.tmod a1 (IntKind.u64.wrap (wrap64 (8 * (t132.length : Int)))))) + x10_2)) 8))))) (wrap64 (Int.tmod a1 (IntKind.u64.wrap (wrap64 (8 * (t132.length : Int)))))) true (wrap64 (x10_2 + 1))) else (none)) else (none)) else (none)) else (lienlaw01_SumBursts.l0 k2 a2 x7_2 (wrap64 (Int.tmod a1 (IntKind.u64.wrap (wrap64 (8 * (t132.length : Int)))))) x9_2 (wrap64 (x10_2 + 1)))) else (lienlaw01_SumBursts.l0 k2 a2 x7_2 (wrap64 (Int.tmod a1 (IntKind.u64.wrap (wrap64 (8 * (t132.length : Int)))))) x9_2 (wrap64 (x10_2 + 1)))) else (none)) = some r := by first | (rw [hji21] at H; exact H) | (simp only [hji21] at H ⊢; exact H)
                by_cases c22 : 0 ≤ (ji21)
                · rw [if_pos c22] at H
                  have c22b0 := eq_true c22
                  have c22b1 : decide (0 ≤ (ji21)) = true := decide_eq_true c22
                  clear c22
                  obtain ⟨ji23, hji23⟩ : ∃ j_ : Int, (shr .u32 a2 (ji21)) = j_ := ⟨_, rfl⟩
                  replace H : (if (Go.bits .and .u32 (ji23) 1) = 1 then (if (wrap64 ((wrap64 (Int.tmod a1 (IntKind.u64.wrap (wrap64 (8 * (t132.length : Int)))))) + x10_2)) < (wrap64 (8 * (x7_2.length : Int))) then (if 0 ≤ (wrap64 (Int.tdiv (wrap64 ((wrap64 (Int.tmod a1 (IntKind.u64.wrap (wrap64 (8 * (t132.length : Int)))))) + x10_2)) 8)) then (if (wrap64 (Int.tdiv (wrap64 ((wrap64 (Int.tmod a1 (IntKind.u64.wrap (wrap64 (8 * (t132.length : Int)))))) + x10_2)) 8)) < (x7_2.length : Int) then (if 0 ≤ (IntKind.u64.wrap (Int.tmod (wrap64 ((wrap64 (Int.tmod a1 (IntKind.u64.wrap (wrap64 (8 * (t132.length : Int)))))) + x10_2)) 8)) then (lienlaw01_SumBursts.l0 k2 a2 (x7_2.set ((wrap64 (Int.tdiv (wrap64 ((wrap64 (Int.tmod a1 (IntKind.u64.wrap (wrap64 (8 * (t132.length : Int)))))) + x10_2)) 8)) : Int).toNat (Go.bits .xor .u8 (rd x7_2 (wrap64 (Int.tdiv (wrap64 ((wrap64 (Int.tmod a1 (IntKind.u64.wrap (wrap64 (8 * (t132.length : Int)))))) + x10_2)) 8))) (shl .u8 1 (IntKind.u64.wrap (Int.tmod (wrap64 ((wrap64 (Int.tmod a1 (IntKind.u64.wrap (wrap64 (8 * (t132.length : Int)))))) + x10_2)) 8))))) (wrap64 (Int.tmod a1 (IntKind.u64.wrap (wrap64 (8 * (t132.length : Int)))))) true (wrap64 (x10_2 + 1))) else (none)) else (none)) else (none)) else (lienlaw01_SumBursts.l0 k2 a2 x7_2 (wrap64 (Int.tmod a1 (IntKind.u64.wrap (wrap64 (8 * (t132.length : Int)))))) x9_2 (wrap64 (x10_2 + 1)))) else (lienlaw01_SumBursts.l0 k2 a2 x7_2 (wrap64 (Int.tmod a1 (IntKind.u64.wrap (wrap64 (8 * (t132.length : Int)))))) x9_2 (wrap64 (x10_2 + 1)))) = some r := by first | (rw [hji23] at H; exact H) | (simp only [hji23] at H ⊢; exact H)
                  have hji23_ : (a2 / 2 ^ min (ji21).toNat 32) = ji23 := hji23
                  have hji23z : (ji21) ≤ 32 → (a2 / 2 ^ (ji21).toNat) = ji23 := shr_small hji23
                  by_cases c24 : (Go.bits .and .u32 (ji23) 1) = 1
                  · rw [if_pos c24] at H
                    have c24b0 : ((Go.bits .and .u32 (ji23) 1) == 1) = true := beq_iff_eq.mpr c24
                    have c24b1 : ((Go.bits .and .u32 (ji23) 1) != 1) = false := bne_eq_false_iff_eq.mpr c24
                    clear c24
                    by_cases c25 : (wrap64 ((wrap64 (Int.tmod a1 (IntKind.u64.wrap (wrap64 (8 * (t132.length : Int)))))) + x10_2)) < (wrap64 (8 * (x7_2.length : Int)))
                    · rw [if_pos c25] at H
                      have c25b0 : decide ((wrap64 ((wrap64 (Int.tmod a1 (IntKind.u64.wrap (wrap64 (8 * (t132.length : Int)))))) + x10_2)) < (wrap64 (8 * (x7_2.length : Int)))) = true := decide_eq_true c25
                      have c25b0z := c25b0; (try rw [hl7_2] at c25b0z)
                      clear c25
                      obtain ⟨ji26, hji26⟩ : ∃ j_ : Int, (wrap64 (Int.tdiv (wrap64 ((wrap64 (Int.tmod a1 (IntKind.u64.wrap (wrap64 (8 * (t132.length : Int)))))) + x10_2)) 8)) = j_ := ⟨_, rfl⟩
                      have hji26q := hji26; (try simp only [hl7_2] at hji26q); have hji26r := (i64_w _).trans hji26q
                      replace H : (if 0 ≤ (ji26) then (if (ji26) < (x7_2.length : Int) then (if 0 ≤ (IntKind.u64.wrap (Int.tmod (wrap64 ((wrap64 (Int.tmod a1 (IntKind.u64.wrap (wrap64 (8 * (t132.length : Int)))))) + x10_2)) 8)) then (lienlaw01_SumBursts.l0 k2 a2 (x7_2.set ((ji26) : Int).toNat (Go.bits .xor .u8 (rd x7_2 (ji26)) (shl .u8 1 (IntKind.u64.wrap (Int.tmod (wrap64 ((wrap64 (Int.tmod a1 (IntKind.u64.wrap (wrap64 (8 * (t132.length : Int)))))) + x10_2)) 8))))) (wrap64 (Int.tmod a1 (IntKind.u64.wrap (wrap64 (8 * (t132.length : Int)))))) true (wrap64 (x10_2 + 1))) else (none)) else (none)) else (none)) = some r := by first | (rw [hji26] at H; exact H) | (simp only [hji26] at H ⊢; exact H)
                      have hji26w : (IntKind.i64.wrap (Int.tdiv (wrap64 ((wrap64 (Int.tmod a1 (IntKind.u64.wrap (wrap64 (8 * (t132.length : Int)))))) + x10_2)) 8)) = ji26 := (i64_w _).trans hji26
                      by_cases c27 : 0 ≤ (ji26)
                      · rw [if_pos c27] at H
                        have c27b0 : decide (0 ≤ (ji26)) = true := decide_eq_true c27
                        clear c27
                        by_cases c28 : (ji26) < (x7_2.length : Int)
                        · rw [if_pos c28] at H
                          have c28b0 : decide ((ji26) < (x7_2.length : Int)) = true := decide_eq_true c28
                          have c28b0z := c28b0; (try rw [hl7_2] at c28b0z)
                          clear c28
                          obtain ⟨ji29, hji29⟩ : ∃ j_ : Int, (IntKind.u64.wrap (Int.tmod (wrap64 ((wrap64 (Int.tmod a1 (IntKind.u64.wrap (wrap64 (8 * (t132.length : Int)))))) + x10_2)) 8)) = j_ := ⟨_, rfl⟩
                          have hji29q := hji29; (try simp only [hl7_2] at hji29q)
                          replace H : (if 0 ≤ (ji29) then (lienlaw01_SumBursts.l0 k2 a2 (x7_2.set ((ji26) : Int).toNat (Go.bits .xor .u8 (rd x7_2 (ji26)) (shl .u8 1 (ji29)))) (wrap64 (Int.tmod a1 (IntKind.u64.wrap (wrap64 (8 * (t132.length : Int)))))) true (wrap64 (x10_2 + 1))) else (none)) = some r := by first | (rw [hji29] at H; exact H) | (simp only [hji29] at H ⊢; exact H)
                          by_cases c30 : 0 ≤ (ji29)
                          · rw [if_pos c30] at H
                            have c30b0 := eq_true c30
                            have c30b1 : decide (0 ≤ (ji29)) = true := decide_eq_true c30
                            clear c30
                            obtain ⟨ji31, hji31⟩ : ∃ j_ : Int, (shl .u8 1 (ji29)) = j_ := ⟨_, rfl⟩
                            replace H : (lienlaw01_SumBursts.l0 k2 a2 (x7_2.set ((ji26) : Int).toNat (Go.bits .xor .u8 (rd x7_2 (ji26)) (ji31))) (wrap64 (Int.tmod a1 (IntKind.u64.wrap (wrap64 (8 * (t132.length : Int)))))) true (wrap64 (x10_2 + 1))) = some r := by first | (rw [hji31] at H; exact H) | (simp only [hji31] at H ⊢; exact H)
                            have hji31_ : (IntKind.u8.wrap (1 * 2 ^ min (ji29).toNat 8)) = ji31 := hji31
                            have hji31z : (ji29) ≤ 8 → (IntKind.u8.wrap (1 * 2 ^ (ji29).toNat)) = ji31 := shl_small hji31
                            have hji31u : (IntKind.u8.wrap (2 ^ min (ji29).toNat 8)) = ji31 := by have h_ := hji31_; rw [Int.one_mul] at h_; exact h_
                            have hji31v : (ji29) ≤ 8 → (IntKind.u8.wrap (2 ^ (ji29).toNat)) = ji31 := fun hle_ => by have h_ := hji31z hle_; rw [Int.one_mul] at h_; exact h_
                            obtain ⟨y137, hy137⟩ : ∃ y_ : List Int, y_ = (x7_2.set ((ji26) : Int).toNat (Go.bits .xor .u8 (rd x7_2 (ji26)) (ji31))) := ⟨_, rfl⟩
                            replace H : (lienlaw01_SumBursts.l0 k2 a2 y137 (wrap64 (Int.tmod a1 (IntKind.u64.wrap (wrap64 (8 * (t132.length : Int)))))) true (wrap64 (x10_2 + 1))) = some r := by first | (rw [hy137]; with_reducible exact H) | (have H2_ := (Option.bind_some _ _).symm.trans H; rw [hy137]; with_reducible exact H2_) | (have H2_ := (Option.bind_some _ _).symm.trans H; with_reducible exact H2_) | with_reducible exact H | (rw [hy137]; exact H) | exact H
                            have Ny137 := Aside0.mk hy137
                            clear hy137
                            have H' := Aside0.mk H
                            clear H
                            have p136 : 0 ≤ ((ji26) : Int) := of_decide_eq_true (by first | (with_reducible assumption) | assumption)
                            have q136 : (ji26) < (x7_2.length : Int) := of_decide_eq_true (by first | (with_reducible assumption) | assumption)
                            obtain ⟨ad136, e136, hx136_0⟩ := Kd.at_int (Kd.R_reads' HO_7.out).2.2 (ji26) p136 q136
                            cases e136
                            replace p136 := eq_true p136
                            replace q136 := eq_true q136
                            have p32 : 0 ≤ ((ji26) : Int) := of_decide_eq_true (by first | (with_reducible assumption) | assumption)
                            have q32 : ((ji26) : Int) < ((x7_2.length : Int) : Int) := of_decide_eq_true (by first | (with_reducible assumption) | assumption)
                            obtain ⟨go32, co32, eo32, gb32, gl32, cl32, HG32⟩ := Kd.R_form HO_7.out (by omega)
                            (first | cases eo32 | (injection eo32 with ea_ en_ ec_; (first | subst ea_ | (injection ea_ with ea_; subst ea_)); subst ec_; clear en_))
                            have GB32 := Aside0.mk gb32
                            have GG32 := Aside0.mk HG32
                            clear gb32 gl32 HG32
                            (first | simp only [add_plain] at hx136_0 | skip)
                            obtain ⟨hx32_0, hf32_0⟩ := Kd.R_celln 0 HO_7.out ((ji26) : Int) p32 q32
                            replace p32 := eq_true p32
                            replace q32 := eq_true q32
                            have HP33 := Kd.R_putg HO_7.out ((ji26) : Int) (Go.bits .xor .u8 (rd x7_2 (ji26)) (ji31))
                            go_wp2_with (first | ((with_reducible refine gate_dst (N := 61) rfl ?_); simp only [hji26]) | ((with_reducible refine gate_store (t := 5) (p := 67) rfl ?_); refine store_event (t := 5) (p := 67) (v := ?vo_w34) (w1 := (wr.setCell ⟨go32, ((ji26) : Int).toNat, none⟩ (.int .u8 (Go.bits .xor .u8 (rd x7_2 (ji26)) (ji31))))) ?hg ?ho ?hn ?hr ?_; (case ho => rfl); (case hg => rfl); (case hn => rfl); (case hr => first | (go_simp; done) | (go_simp; rfl)); intro w34 hw; have hg : wr.grownBy w34 (some go32) := (by rw [hw]; exact HP33.2); have hp_ : Kd.R (Kd.int .u8) 5 w34 w.heap.size (fun _ => True) (.slice (some ⟨go32, 0, none⟩) x7_2.length co19) y137 := (by rw [hw, Ny137.out]; exact HP33.1); clear HP33; have n0_ := Aside0.mk (hp_); have n1_ := Aside0.mk ((by rw [hw]; exact below_set (HB.out) GB32.out : Below w.heap.size w w34)); clear HO_7; clear HB; have HO_7 := n0_; have HB := n1_; clear n0_ n1_; clear hg hw hp_))
                            (try simp only [← hl7_2])
                            go_roundg k2
                            case measure => have := HJ5.out; have := HK2.out; omega
                            case rel => exact ⟨(y137), (true), (wrap64 (x10_2 + 1)), (by first | rfl | (simp; done) | (simp [*]; done)), (by first | rfl | (simp; done) | (simp [*]; done)), H', ⟨by have := HJ5.out; have := HK2.out; omega⟩, ⟨by (try simp only [hl7_2]); (with_reducible repeat (first | apply Kd.R_alloc | apply Kd.R_drewN | apply Kd.R_drew)); exact HO_7.out⟩, ⟨by repeat (first | (with_reducible first | exact HB.out | apply below_alloc | apply pw_below_drewN | apply below_drew1) | exact HB.out)⟩⟩
                          · rw [if_neg c30] at H
                            exact absurd H (by simp)
                        · rw [if_neg c28] at H
                          exact absurd H (by simp)
                      · rw [if_neg c27] at H
                        exact absurd H (by simp)
                    · rw [if_neg c25] at H
                      have c25b0 : decide ((wrap64 ((wrap64 (Int.tmod a1 (IntKind.u64.wrap (wrap64 (8 * (t132.length : Int)))))) + x10_2)) < (wrap64 (8 * (x7_2.length : Int)))) = false := decide_eq_false c25
                      have c25b0z := c25b0; (try rw [hl7_2] at c25b0z)
                      clear c25
                      have H' := Aside0.mk H
                      clear H
                      go_wp2
                      (try simp only [← hl7_2])
                      go_roundg k2
                      case measure => have := HJ5.out; have := HK2.out; omega
                      case rel => exact ⟨(x7_2), (x9_2), (wrap64 (x10_2 + 1)), (by first | rfl | (simp; done) | (simp [*]; done)), (by first | rfl | (simp; done) | (simp [*]; done)), H', ⟨by have := HJ5.out; have := HK2.out; omega⟩, ⟨by (try simp only [hl7_2]); (with_reducible repeat (first | apply Kd.R_alloc | apply Kd.R_drewN | apply Kd.R_drew)); exact HO_7.out⟩, ⟨by repeat (first | (with_reducible first | exact HB.out | apply below_alloc | apply pw_below_drewN | apply below_drew1) | exact HB.out)⟩⟩
                  · rw [if_neg c24] at H
                    have c24b0 : ((Go.bits .and .u32 (ji23) 1) == 1) = false := beq_eq_false_iff_ne.mpr c24
                    have c24b1 : ((Go.bits .and .u32 (ji23) 1) != 1) = true := bne_iff_ne.mpr c24
                    have H' := Aside0.mk H
                    clear H
                    go_wp2
                    (try simp only [← hl7_2])
                    go_roundg k2
                    case measure => have := HJ5.out; have := HK2.out; omega
                    case rel => exact ⟨(x7_2), (x9_2), (wrap64 (x10_2 + 1)), (by first | rfl | (simp; done) | (simp [*]; done)), (by first | rfl | (simp; done) | (simp [*]; done)), H', ⟨by have := HJ5.out; have := HK2.out; omega⟩, ⟨by (try simp only [hl7_2]); (with_reducible repeat (first | apply Kd.R_alloc | apply Kd.R_drewN | apply Kd.R_drew)); exact HO_7.out⟩, ⟨by repeat (first | (with_reducible first | exact HB.out | apply below_alloc | apply pw_below_drewN | apply below_drew1) | exact HB.out)⟩⟩
                · rw [if_neg c22] at H
                  exact absurd H (by simp)
              · rw [if_neg c20] at H
                have c20b0 : decide (x10_2 < 32) = false := decide_eq_false c20
                clear c20
                replace H := Option.bind_eq_some_iff.mp H
                obtain ⟨⟨t138, t139⟩, A350, H⟩ := H
                replace H : (if (x9_2 == (t139 == 10)) = true then (if x9_2 = true then (if (t138.length : Int) = 0 then ((lienlaw01_awake.f).bind fun t142 => (some t142)) else (some false)) else ((lienlaw01_awake.f).bind fun t143 => (some t143))) else (some false)) = some r := H
                have A35 := Aside0.mk A350
                clear A350
                by_cases c36 : (x9_2 == (t139 == 10)) = true
                · rw [if_pos c36] at H
                  have c36b0 : (x9_2 == (t139 == 10)) = true := c36
                  (try (have c36b1 : decide (x9_2 = (t139 == 10)) = true := by simpa using c36))
                  (try (have c36b2 : (x9_2 == (t139 == 10)) = true := by simpa using c36))
                  clear c36
                  by_cases c37 : x9_2 = true
                  · subst c37
                    have H1 : (if (t138.length : Int) = 0 then ((lienlaw01_awake.f).bind fun t142 => (some t142)) else (some false)) = some r := by rw [if_pos rfl] at H; exact H
                    clear H
                    have H := H1
                    clear H1
                    by_cases c38 : (t138.length : Int) = 0
                    · rw [if_pos c38] at H
                      have c38b0 : ((t138.length : Int) == 0) = true := beq_iff_eq.mpr c38
                      have c38b1 : ((t138.length : Int) != 0) = false := bne_eq_false_iff_eq.mpr c38
                      clear c38
                      replace H := Option.bind_eq_some_iff.mp H
                      obtain ⟨t142, A390, H⟩ := H
                      replace H : (some t142) = some r := H
                      have A39 := Aside0.mk A390
                      clear A390
                      obtain rfl := Option.some.inj H
                      go_wp2_with (first | ((with_reducible refine gate_callee (f := 12) rfl ?_); refine goesL_ (some 70) rfl rfl Try.func12 (by kernel_rfl) rfl #[.slice Ao19 x7_2.length co19] rfl (by (try simp only [List.map_toArray, List.map_cons, List.map_nil]); first | done | rfl | (simp only [List.length_drop, List.length_take]; rfl)) ?_; (with_reducible refine (sum_Open.calls k2 _ _ x7_2 t138 t139 _ ?side1 ?side2 A35.out).mono ?_); (case side1 => repeat (first | exact (Kd.R_reads' HO_7.out).2.2 | (with_reducible refine Kd.C_alloc ?_ _) | (with_reducible refine Kd.C_drewN ?_ _) | (with_reducible refine Kd.C_drew ?_))); (case side2 => exact (Kd.R_reads' HO_7.out).2.1); rintro e w40 ⟨v140, rfl, ho0, hb⟩; refine ⟨_, rfl, ?_⟩; have n0_ := Aside0.mk (Kd.R_elder' (by (with_reducible repeat (first | apply Kd.R_alloc | apply Kd.R_drewN | apply Kd.R_drew)); exact HO_7.out) (Kd.R_base ho0) hb); have n1_ := Aside0.mk (Kd.R_lower (Kd.R_new' ho0 (Kd.R_lt (by (with_reducible repeat (first | apply Kd.R_alloc | apply Kd.R_drewN | apply Kd.R_drew)); exact HO_7.out))) (below_size (by repeat (first | (with_reducible first | exact HB.out | apply below_alloc | apply pw_below_drewN | apply below_drew1) | exact HB.out)))); have n2_ := Aside0.mk (below_step (by repeat (first | (with_reducible first | exact HB.out | apply below_alloc | apply pw_below_drewN | apply below_drew1) | exact HB.out)) hb); clear HO_7; clear HB; have HO_7 := n0_; have HO141 := n1_; have HB := n2_; clear n0_ n1_ n2_; (try clear hb); (try clear hb2); (try clear hk); (try clear hi); (try clear ho0); obtain ⟨Ao41, co41, eo41⟩ := Kd.R_slice HO141.out; subst eo41) | (go_at_call 16; (with_reducible refine (lienlaw01_awake.calls  t142 _ A39.out).mono ?_); rintro e w42 ⟨rfl, hb⟩; have n0_ := Aside0.mk (Kd.R_below (by (with_reducible repeat (first | apply Kd.R_alloc | apply Kd.R_drewN | apply Kd.R_drew)); exact HO_7.out) hb); have n1_ := Aside0.mk (Kd.R_below (by (with_reducible repeat (first | apply Kd.R_alloc | apply Kd.R_drewN | apply Kd.R_drew)); exact HO141.out) hb); have n2_ := Aside0.mk (below_step (by repeat (first | (with_reducible first | exact HB.out | apply below_alloc | apply pw_below_drewN | apply below_drew1) | exact HB.out)) hb); clear HO_7; clear HO141; clear HB; have HO_7 := n0_; have HO141 := n1_; have HB := n2_; clear n0_ n1_ n2_; (try clear hb); (try clear hb2); (try clear hk); (try clear hi)))
                      go_ret
                      exact ⟨by first | rfl | (simp [errW_none, errW_some] <;> rfl) | (simp [*, errW_none, errW_some] <;> rfl), by repeat (first | (with_reducible first | exact HB.out | apply below_alloc | apply pw_below_drewN | apply below_drew1) | exact HB.out)⟩
                    · rw [if_neg c38] at H
                      have c38b0 : ((t138.length : Int) == 0) = false := beq_eq_false_iff_ne.mpr c38
                      have c38b1 : ((t138.length : Int) != 0) = true := bne_iff_ne.mpr c38
                      have c38b2 : ¬ (t138 = []) := fun h_ => c38 (by rw [h_]; rfl)
                      exact absurd ((Option.some.inj H).trans hr_.out) (by decide)
                  · replace c37 := Bool.eq_false_iff.mpr c37
                    subst c37
                    have H1 : ((lienlaw01_awake.f).bind fun t143 => (some t143)) = some r := by rw [if_neg (show ¬ (false = true) by decide)] at H; exact H
                    clear H
                    have H := H1
                    clear H1
                    replace H := Option.bind_eq_some_iff.mp H
                    obtain ⟨t143, A430, H⟩ := H
                    replace H : (some t143) = some r := H
                    have A43 := Aside0.mk A430
                    clear A430
                    obtain rfl := Option.some.inj H
                    go_wp2_with (first | ((with_reducible refine gate_callee (f := 12) rfl ?_); refine goesL_ (some 70) rfl rfl Try.func12 (by kernel_rfl) rfl #[.slice Ao19 x7_2.length co19] rfl (by (try simp only [List.map_toArray, List.map_cons, List.map_nil]); first | done | rfl | (simp only [List.length_drop, List.length_take]; rfl)) ?_; (with_reducible refine (sum_Open.calls k2 _ _ x7_2 t138 t139 _ ?side1 ?side2 A35.out).mono ?_); (case side1 => repeat (first | exact (Kd.R_reads' HO_7.out).2.2 | (with_reducible refine Kd.C_alloc ?_ _) | (with_reducible refine Kd.C_drewN ?_ _) | (with_reducible refine Kd.C_drew ?_))); (case side2 => exact (Kd.R_reads' HO_7.out).2.1); rintro e w44 ⟨v140, rfl, ho0, hb⟩; refine ⟨_, rfl, ?_⟩; have n0_ := Aside0.mk (Kd.R_elder' (by (with_reducible repeat (first | apply Kd.R_alloc | apply Kd.R_drewN | apply Kd.R_drew)); exact HO_7.out) (Kd.R_base ho0) hb); have n1_ := Aside0.mk (Kd.R_lower (Kd.R_new' ho0 (Kd.R_lt (by (with_reducible repeat (first | apply Kd.R_alloc | apply Kd.R_drewN | apply Kd.R_drew)); exact HO_7.out))) (below_size (by repeat (first | (with_reducible first | exact HB.out | apply below_alloc | apply pw_below_drewN | apply below_drew1) | exact HB.out)))); have n2_ := Aside0.mk (below_step (by repeat (first | (with_reducible first | exact HB.out | apply below_alloc | apply pw_below_drewN | apply below_drew1) | exact HB.out)) hb); clear HO_7; clear HB; have HO_7 := n0_; have HO141 := n1_; have HB := n2_; clear n0_ n1_ n2_; (try clear hb); (try clear hb2); (try clear hk); (try clear hi); (try clear ho0)) | (go_at_call 16; (with_reducible refine (lienlaw01_awake.calls  t143 _ A43.out).mono ?_); rintro e w45 ⟨rfl, hb⟩; have n0_ := Aside0.mk (Kd.R_below (by (with_reducible repeat (first | apply Kd.R_alloc | apply Kd.R_drewN | apply Kd.R_drew)); exact HO_7.out) hb); have n1_ := Aside0.mk (Kd.R_below (by (with_reducible repeat (first | apply Kd.R_alloc | apply Kd.R_drewN | apply Kd.R_drew)); exact HO141.out) hb); have n2_ := Aside0.mk (below_step (by repeat (first | (with_reducible first | exact HB.out | apply below_alloc | apply pw_below_drewN | apply below_drew1) | exact HB.out)) hb); clear HO_7; clear HO141; clear HB; have HO_7 := n0_; have HO141 := n1_; have HB := n2_; clear n0_ n1_ n2_; (try clear hb); (try clear hb2); (try clear hk); (try clear hi)))
                    go_ret
                    exact ⟨by first | rfl | (simp [errW_none, errW_some] <;> rfl) | (simp [*, errW_none, errW_some] <;> rfl), by repeat (first | (with_reducible first | exact HB.out | apply below_alloc | apply pw_below_drewN | apply below_drew1) | exact HB.out)⟩
                · rw [if_neg c36] at H
                  have c36b0 : (x9_2 == (t139 == 10)) = false := by simpa using c36
                  (try (have c36b1 : decide (x9_2 = (t139 == 10)) = false := by simpa using c36))
                  (try (have c36b2 : (x9_2 == (t139 == 10)) = false := by simpa using c36))
                  (try (have c36b3 : ¬ (x9_2 = (t139 == 10)) := by simpa using c36))
                  clear c36
                  exact absurd ((Option.some.inj H).trans hr_.out) (by decide)

/-- THE ONE PURE STATEMENT of lienlaw01_SumBursts: yours. -/
def lienlaw01_SumBursts.Pure : Prop := ∀ (l0 : List Int) (a1 : Int) (a2 : Int), l0.length ≤ maxLen → l0.length * 1 ≤ 140737488351232 → (∀ x ∈ l0, (Lit.int .u8 x).wf = true) → (Lit.int .u64 a1).wf = true → (Lit.int .u32 a2).wf = true → ∃ k, lienlaw01_SumBursts.f k l0 a1 a2 = some true
theorem lienlaw01_SumBursts.walk (P : lienlaw01_SumBursts.Pure) (a0 : Option Addr) (len0 cap0 : Nat) (z0 : List Int) (a1 : Int) (a2 : Int) (w : World) (w0 : (a0 = none ∧ len0 = 0 ∧ cap0 = 0 ∧ z0 = []) ∨ ∃ x, a0 = some x ∧ len0 ≤ cap0 ∧ cap0 ≤ maxLen ∧ z0.length = cap0 ∧ (∀ i, i < z0.length → w.cell? (x.add i) = some (.int .u8 (z0.getD i 0))) ∧ ∀ n ∈ z0, (Lit.int .u8 n).wf = true) (y0 : len0 * 1 ≤ 140737488351232) (w1 : (Lit.int .u64 a1).wf = true) (w2 : (Lit.int .u32 a2).wf = true) :
    Calls Try.prog 5 #[.slice a0 len0 cap0, .int .u64 a1, .int .u32 a2] w fun e w' => e = .returned (.bool true) ∧ Below w.heap.size w w' := by
  obtain ⟨l0, rfl, hr0, hm0, hw0, hc0⟩ := ReadsInt.ofRowC w0
  obtain ⟨k, h⟩ := P l0 a1 a2 hm0 y0 hw0 w1 w2
  refine (lienlaw01_SumBursts.calls k _ _ l0 a1 a2 true w (Kd.C_of_reads (d := (0 : Int)) (h1 := fun _ => rfl) hr0) hc0 h ⟨rfl⟩).mono ?_
  rintro e w' ⟨rfl, hd⟩
  exact ⟨rfl, hd⟩

end Go.Proofs.Ythpclknekfjnkaa.PSumBursts
