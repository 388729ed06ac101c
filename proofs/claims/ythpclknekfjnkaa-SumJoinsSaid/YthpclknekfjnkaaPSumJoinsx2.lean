-- Written by wip/xprint of this repo (our own program) out of the translation; what is marked BY HAND is ours. Not trusted: Lean checks it.
import Derived.Test.YthpclknekfjnkaaPSumJoinsx0
import Derived.Test.YthpclknekfjnkaaPSumJoinsx1
namespace Go.Proofs.Ythpclknekfjnkaa.PSumJoins
open Go.RowKit Go.Proofs.YthpclknekfjnkaaW.PrintWords Go.Proofs.YthpclknekfjnkaaW.PrintLast Go.Proofs.YthpclknekfjnkaaW.PrintMore
attribute [local go_sem] max2_int min2_int max_two min_two max_three min_three max_four min_four   -- for this text's walks alone
set_option linter.unusedVariables false
set_option linter.unusedSimpArgs false

/-! ### sum_zeros: function 27 -/
-- BY HAND

def sum_zeros.f (a0 a1 : Int) : Option Int := if (u32ok a0 && decide (0 ≤ a1 ∧ a1 ≤ 1048576)) = true then some ((stn (8 * a1.toNat) a0.toNat : Nat) : Int) else none
set_option maxHeartbeats 8000000 in
set_option maxRecDepth 100000 in
theorem sum_zeros.calls (a0 : Int) (a1 : Int) (r : Int) (w : World) (h : sum_zeros.f a0 a1 = some r) :
    Calls Try.prog 27 #[.int .u32 a0, .int .i64 a1] w fun e w' => e = .returned (.int .u32 r) ∧ Below w.heap.size w w' := by
  have hu50 := Try.underlying50
  unfold sum_zeros.f at h
  by_cases hk : (u32ok a0 && decide (0 ≤ a1 ∧ a1 ≤ 1048576)) = true
  case neg => rw [if_neg hk] at h; cases h
  rw [if_pos hk] at h
  obtain rfl := Option.some.inj h
  clear h
  rw [Bool.and_eq_true, decide_eq_true_eq] at hk
  obtain ⟨hk1, hk2⟩ := hk
  obtain ⟨n0, rfl, hn0⟩ := u32ok_nat hk1
  obtain ⟨n, rfl⟩ : ∃ n : Nat, a1 = (n : Int) := ⟨a1.toNat, by omega⟩
  rw [Int.toNat_natCast, Int.toNat_natCast]
  have hnm : n ≤ 1048576 := by omega
  have HNM := Aside0.mk hnm
  clear hk1 hk2 hnm
  obtain ⟨R, hR⟩ : ∃ R, stn (8 * n) n0 = R := ⟨_, rfl⟩
  rw [hR]
  have HR0 := Aside0.mk hR
  have HN0 := Aside0.mk hn0
  clear hR hn0
  have HB := Aside0.mk (Below.refl w.heap.size w)
  go_enter Try.func27, Try.ntmps27
  go_wp2_with (first | ((with_reducible refine gate_dst (N := 5) rfl ?_); (try (refine gate_guard (by rfl) ?_; dsimp only)); refine box_event ?hg (N := 5) ?hd (cs := gridTab 1 0) (t := 50) ?hr ?_; (case hd => rfl); (case hg => rfl); (case hr => first | (go_simp; done) | (go_simp; rfl)); intro g5 hg w1 hbox hb; have m0 := Aside0.mk (below_step (by repeat (first | (with_reducible first | exact HB.out | apply below_alloc | apply pw_below_drewN | apply below_drew1) | exact HB.out)) hb); have m1 := Aside0.mk hbox; have m2 := Aside0.mk ((by rw [hg]; exact (below_size (by repeat (first | (with_reducible first | exact HB.out | apply below_alloc | apply pw_below_drewN | apply below_drew1) | exact HB.out))) : w.heap.size ≤ g5)); clear HB ; have HB := m0; have B5 := m1; have G5 := m2; clear m0 m1 m2; clear hb hbox hg) | ((with_reducible refine gate_store (t := 50) (p := 5) rfl ?_); refine wpList_store_row rfl 50 _ _ rfl g5 (gridTab 1 1) rfl (by rfl) 50 (gridTab 1 0) B5.out (by rw [gridTab_size]; rfl) (by rw [gridTab_size, gridTab_size]) (gridTab_one 1 1) ?_))
  have B6 := Aside0.mk (setRow_heap w1 g5 (gridTab 1 0) (gridTab 1 1) 50 (0, 0) B5.out)
  have HB6 := Aside0.mk (sm_below_setRow HB.out G5.out (gridTab 1 1))
  clear HB B5
  generalize w1.setRow g5 (gridTab 1 1) = w6 at B6 HB6 ⊢
  go_loopg [6] 31 (fun kq v6 w' => ∃ (i : Nat), v6 = .int .i64 (i : Int) ∧ Aside0 (kq + i = 32) ∧ Aside0 (1 ≤ i) ∧ Aside0 (w'.heap[g5]? = some (.cells (gridTab 1 i) 50 (0, 0))) ∧ Aside0 (Below w.heap.size w w'))
  case atStart => exact ⟨1, rfl, ⟨rfl⟩, ⟨Nat.le_refl _⟩, B6, HB6⟩
  case round =>
    clear B6 HB6
    obtain ⟨i, rfl, HK, H1, B5, HB⟩ := hrel
    cases gk with
    | succ d =>
      have hi : i < 32 := by have := HK.out; omega
      have h1 := H1.out
      have hib : decide ((i : Int) < 32) = true := decide_eq_true (by omega)
      have hib' : decide (i < 32) = true := decide_eq_true hi
      have hc3 := blk_cell B5.out i
      rw [gridTab_at 1 i i hi, if_neg (Nat.lt_irrefl i)] at hc3
      have hf3 := blk_frozen B5.out i
      have hsub : ((i : Int) - 1) = ((i - 1 : Nat) : Int) := by omega
      have hpw : (2 : Int) ^ (i - 1) % 4294967296 = ((stn 1 (2 ^ i) : Nat) : Int) := by
        rw [stn_one_pow i h1]
        have h9 : 2 ^ (i - 1) < 4294967296 := Nat.pow_lt_pow_right (show 1 < 2 by decide) (show i - 1 < 32 by omega)
        have e : ((2 ^ (i - 1) : Nat) : Int) = (2 : Int) ^ (i - 1) := by simp
        rw [← e]
        generalize 2 ^ (i - 1) = q at h9
        omega
      go_wp2
      go_roundg d
      case measure => omega
      case rel => exact ⟨i + 1, by first | rfl | (rw [show wrap64 ((i : Int) + 1) = ((i + 1 : Nat) : Int) from by unfold wrap64; omega]), ⟨by have := HK.out; omega⟩, ⟨by omega⟩, ⟨by rw [← gridTab_put 1 i hi]; exact blk_set B5.out i _⟩, ⟨below_set HB.out G5.out⟩⟩
    | zero =>
      have ei : i = 32 := by have := HK.out; omega
      subst ei
      go_wp2
      go_loopg [17] 3 (fun kq v17 w' => ∃ (t m : Nat), v17 = .int .i64 (t : Int) ∧ Aside0 (kq + t = 3) ∧ Aside0 (m = 2 ^ t) ∧ Aside0 (w'.heap[g5]? = some (.cells (gridTab m 32) 50 (0, 0))) ∧ Aside0 (Below w.heap.size w w'))
      case atStart => exact ⟨0, 1, rfl, ⟨rfl⟩, ⟨rfl⟩, B5, HB⟩
      case round =>
        clear B5 HB
        obtain ⟨t, m, rfl, HT, HM, B5, HB⟩ := hrel
        cases gk with
        | succ d =>
          have ht : t < 3 := by have := HT.out; omega
          have htb : decide ((t : Int) < 3) = true := decide_eq_true (by omega)
          have htb' : decide (t < 3) = true := decide_eq_true ht
          go_wp2_with (first | ((with_reducible refine gate_callee (f := 32) rfl ?_); refine goesL_ (some 19) rfl rfl Try.func32 (by kernel_rfl) rfl #[.pointer (some ⟨g5, 0, none⟩)] rfl (by (try simp only [List.map_toArray, List.map_cons, List.map_nil]); first | done | rfl) ?_; (refine (sm_twice m g5 _ B5.out).mono ?_); rintro e w5 ⟨rfl, hb⟩; refine ⟨_, rfl, ?_⟩; have m0 := Aside0.mk (below_step (by repeat (first | (with_reducible first | exact HB.out | apply below_alloc | apply pw_below_drewN | apply below_drew1 | refine below_set ?_ G5.out) | exact HB.out)) hb); have m1 := Aside0.mk (blk_below (g := g5) (o := .cells (gridTab m 32) 50 (0, 0)) B5.out hb); clear HB B5 hb; have HB := m0; have B5 := m1; clear m0 m1) | ((with_reducible refine gate_store (t := 50) (p := 5) rfl ?_); refine wpList_store_row rfl 50 _ _ rfl g5 (gridTab (m + m) 32) rfl rfl 50 (gridTab m 32) B5.out (by rw [gridTab_size]; rfl) (by rw [gridTab_size, gridTab_size]) (gridTab_one _ 32) ?_))
          go_roundg d
          case measure => omega
          case rel => exact ⟨t + 1, m + m, by first | rfl | (rw [show wrap64 ((t : Int) + 1) = ((t + 1 : Nat) : Int) from by unfold wrap64; omega]), ⟨by have := HT.out; omega⟩, ⟨by rw [Nat.pow_succ, ← HM.out]; omega⟩, ⟨setRow_heap _ g5 _ _ _ _ B5.out⟩, ⟨sm_below_setRow HB.out G5.out _⟩⟩
        | zero =>
          have et : t = 3 := by have := HT.out; omega
          subst et
          have hm8 : m = 8 := HM.out
          subst hm8
          clear HM
          go_wp2
          go_loopg [0, 1] n (fun kq v0 v1 w' => ∃ (a m : Nat), v0 = .int .u32 (a : Int) ∧ v1 = .int .i64 (kq : Int) ∧ Aside0 (a < 2 ^ 32) ∧ Aside0 (kq ≤ 1048576) ∧ Aside0 (stn (m * kq) a = R) ∧ Aside0 (w'.heap[g5]? = some (.cells (gridTab m 32) 50 (0, 0))) ∧ Aside0 (Below w.heap.size w w'))
          case atStart => exact ⟨n0, 8, rfl, rfl, HN0, HNM, HR0, B5, HB⟩
          case round =>
            clear B5 HB HR0 HN0 HNM
            obtain ⟨a, m, rfl, rfl, HA, HQ, HS, B5, HB⟩ := hrel
            cases gk with
            | zero =>
              have hs := HS.out
              rw [Nat.mul_zero] at hs
              have hs' : a = R := hs
              subst hs'
              clear hs HS
              go_wp2
              go_ret
              exact ⟨rfl, HB.out⟩
            | succ d =>
              obtain ⟨e, he⟩ : ∃ e, d + 1 = e := ⟨_, rfl⟩
              have he0 : 0 < e := by omega
              have hlt : e / 2 < d + 1 := by omega
              have hq := HQ.out
              have hs := HS.out
              rw [he] at hq hs ⊢
              have HE := Aside0.mk he
              clear HQ HS he
              have hpos : decide ((0 : Int) < (e : Int)) = true := decide_eq_true (by omega)
              have hpos' : decide (0 < e) = true := decide_eq_true he0
              have hand := i64_and1 (a := e) (by omega)
              rcases (show e % 2 = 1 ∨ e % 2 = 0 by omega) with h2 | h2
              · rw [h2] at hand
                have hand' : Go.bits .and .i64 (e : Int) 1 = 1 := hand
                clear hand
                rw [odd_mul m e h2, stn_add] at hs
                have HS := Aside0.mk hs
                clear hs
                go_wp2_with (first | ((with_reducible refine gate_callee (f := 33) rfl ?_); refine goesL_ (some 29) rfl rfl Try.func33 (by kernel_rfl) rfl #[.pointer (some ⟨g5, 0, none⟩), .int .u32 (a : Int)] rfl (by (try simp only [List.map_toArray, List.map_cons, List.map_nil]); first | done | rfl) ?_; (refine (sm_of m g5 a _ B5.out HA.out).mono ?_); rintro e w5 ⟨rfl, rfl⟩; refine ⟨_, rfl, ?_⟩) | ((with_reducible refine gate_callee (f := 32) rfl ?_); refine goesL_ (some 30) rfl rfl Try.func32 (by kernel_rfl) rfl #[.pointer (some ⟨g5, 0, none⟩)] rfl (by (try simp only [List.map_toArray, List.map_cons, List.map_nil]); first | done | rfl) ?_; (refine (sm_twice m g5 _ B5.out).mono ?_); rintro e w5 ⟨rfl, hb⟩; refine ⟨_, rfl, ?_⟩; have m0 := Aside0.mk (below_step (by repeat (first | (with_reducible first | exact HB.out | apply below_alloc | apply pw_below_drewN | apply below_drew1 | refine below_set ?_ G5.out) | exact HB.out)) hb); have m1 := Aside0.mk (blk_below (g := g5) (o := .cells (gridTab m 32) 50 (0, 0)) B5.out hb); clear HB B5 hb; have HB := m0; have B5 := m1; clear m0 m1) | ((with_reducible refine gate_store (t := 50) (p := 5) rfl ?_); refine wpList_store_row rfl 50 _ _ rfl g5 (gridTab (m + m) 32) rfl rfl 50 (gridTab m 32) B5.out (by rw [gridTab_size]; rfl) (by rw [gridTab_size, gridTab_size]) (gridTab_one _ 32) ?_))
                rw [← HE.out]
                go_roundg (e / 2)
                case measure => exact hlt
                case rel => exact ⟨stn m a, m + m, rfl, by first | rfl | (rw [show ((d + 1 : Nat) : Int) / 2 = ((e / 2 : Nat) : Int) by have := HE.out; omega]), ⟨stn_lt m HA.out⟩, ⟨by omega⟩, HS, ⟨setRow_heap _ g5 _ _ _ _ B5.out⟩, ⟨sm_below_setRow HB.out G5.out _⟩⟩
              · rw [h2] at hand
                have hand' : Go.bits .and .i64 (e : Int) 1 = 0 := hand
                clear hand
                rw [even_mul m e h2] at hs
                have HS := Aside0.mk hs
                clear hs
                go_wp2_with (first | ((with_reducible refine gate_callee (f := 32) rfl ?_); refine goesL_ (some 30) rfl rfl Try.func32 (by kernel_rfl) rfl #[.pointer (some ⟨g5, 0, none⟩)] rfl (by (try simp only [List.map_toArray, List.map_cons, List.map_nil]); first | done | rfl) ?_; (refine (sm_twice m g5 _ B5.out).mono ?_); rintro e w5 ⟨rfl, hb⟩; refine ⟨_, rfl, ?_⟩; have m0 := Aside0.mk (below_step (by repeat (first | (with_reducible first | exact HB.out | apply below_alloc | apply pw_below_drewN | apply below_drew1 | refine below_set ?_ G5.out) | exact HB.out)) hb); have m1 := Aside0.mk (blk_below (g := g5) (o := .cells (gridTab m 32) 50 (0, 0)) B5.out hb); clear HB B5 hb; have HB := m0; have B5 := m1; clear m0 m1) | ((with_reducible refine gate_store (t := 50) (p := 5) rfl ?_); refine wpList_store_row rfl 50 _ _ rfl g5 (gridTab (m + m) 32) rfl rfl 50 (gridTab m 32) B5.out (by rw [gridTab_size]; rfl) (by rw [gridTab_size, gridTab_size]) (gridTab_one _ 32) ?_))
                rw [← HE.out]
                go_roundg (e / 2)
                case measure => exact hlt
                case rel => exact ⟨a, m + m, rfl, by first | rfl | (rw [show ((d + 1 : Nat) : Int) / 2 = ((e / 2 : Nat) : Int) by have := HE.out; omega]), HA, ⟨by omega⟩, HS, ⟨setRow_heap _ g5 _ _ _ _ B5.out⟩, ⟨sm_below_setRow HB.out G5.out _⟩⟩

/-! ### sum_length: function 28 -/
def sum_length.f (a0 : Int) : Option (Int) := some (mn (mx a0 0) 1048576)
set_option maxHeartbeats 8000000 in
set_option maxRecDepth 100000 in
theorem sum_length.calls (a0 : Int) (r : Int) (w : World) (h : sum_length.f a0 = some r) :
    Calls Try.prog 28 #[.int .i64 a0] w fun e w' => e = .returned (.int .i64 r) ∧ Below w.heap.size w w' := by
  have HB := Aside0.mk (Below.refl w.heap.size w)
  have H : (some (mn (mx a0 0) 1048576)) = some r := h
  clear h
  obtain ⟨ji2, hji2⟩ : ∃ j_ : Int, (mx a0 0) = j_ := ⟨_, rfl⟩
  replace H : (some (mn (ji2) 1048576)) = some r := by first | (rw [hji2] at H; exact H) | (simp only [hji2] at H ⊢; exact H)
  (try (have hji2l : 0 ≤ ji2 := by (rw [← hji2]; unfold mx; (repeat' split) <;> omega)))
  (try (have hji2m : 0 ≤ ji2 := by omega))
  have hji2_ : (if a0 < 0 then 0 else a0) = ji2 := hji2
  obtain ⟨ji3, hji3⟩ : ∃ j_ : Int, (mn (ji2) 1048576) = j_ := ⟨_, rfl⟩
  replace H : (some ji3) = some r := by first | (rw [hji3] at H; exact H) | (simp only [hji3] at H ⊢; exact H)
  have hji3_ : (if 1048576 < (ji2) then 1048576 else (ji2)) = ji3 := hji3
  obtain rfl := Option.some.inj H
  go_enter Try.func28, Try.ntmps28
  go_wp2
  go_ret
  exact ⟨by first | rfl | (simp [errW_none, errW_some] <;> rfl) | (simp only [← hji2, ← hji3]; first | rfl | (simp [errW_none, errW_some] <;> rfl)) | (simp [*, errW_none, errW_some] <;> rfl), by repeat (first | (with_reducible first | exact HB.out | apply below_alloc | apply pw_below_drewN | apply below_drew1) | exact HB.out)⟩

/-! ### sum_Join: function 21 -/
def sum_Join.f (a0 : Int) (a1 : Int) (a2 : Int) : Option (Int) := (sum_length.f a2).bind fun t122 => ((sum_zeros.f a0 t122).bind fun t123 => (some (Go.bits .xor .u32 t123 a1)))
set_option maxHeartbeats 8000000 in
set_option maxRecDepth 100000 in
theorem sum_Join.calls (a0 : Int) (a1 : Int) (a2 : Int) (r : Int) (w : World) (h : sum_Join.f a0 a1 a2 = some r) :
    Calls Try.prog 21 #[.int .u32 a0, .int .u32 a1, .int .i64 a2] w fun e w' => e = .returned (.int .u32 r) ∧ Below w.heap.size w w' := by
  have HB := Aside0.mk (Below.refl w.heap.size w)
  have H : ((sum_length.f a2).bind fun t122 => ((sum_zeros.f a0 t122).bind fun t123 => (some (Go.bits .xor .u32 t123 a1)))) = some r := h
  clear h
  replace H := Option.bind_eq_some_iff.mp H
  obtain ⟨t122, A40, H⟩ := H
  replace H : ((sum_zeros.f a0 t122).bind fun t123 => (some (Go.bits .xor .u32 t123 a1))) = some r := H
  have A4 := Aside0.mk A40
  clear A40
  replace H := Option.bind_eq_some_iff.mp H
  obtain ⟨t123, A50, H⟩ := H
  replace H : (some (Go.bits .xor .u32 t123 a1)) = some r := H
  have A5 := Aside0.mk A50
  clear A50
  obtain rfl := Option.some.inj H
  go_enter Try.func21, Try.ntmps21
  go_wp2_with (first | ((with_reducible refine gate_callee (f := 28) rfl ?_); refine goesL_ (some 9) rfl rfl Try.func28 (by kernel_rfl) rfl #[.int .i64 a2] rfl (by (try simp only [List.map_toArray, List.map_cons, List.map_nil]); first | done | rfl | (simp only [List.length_drop, List.length_take]; rfl)) ?_; (with_reducible refine (sum_length.calls a2 t122 _ A4.out).mono ?_); rintro e w6 ⟨rfl, hb⟩; refine ⟨_, rfl, ?_⟩; have n0_ := Aside0.mk (below_step (by repeat (first | (with_reducible first | exact HB.out | apply below_alloc | apply pw_below_drewN | apply below_drew1) | exact HB.out)) hb); clear HB; have HB := n0_; clear n0_; (try clear hb); (try clear hb2); (try clear hk); (try clear hi)) | ((with_reducible refine gate_callee (f := 27) rfl ?_); refine goesL_ (some 10) rfl rfl Try.func27 (by kernel_rfl) rfl #[.int .u32 a0, .int .i64 t122] rfl (by (try simp only [List.map_toArray, List.map_cons, List.map_nil]); first | done | rfl | (simp only [List.length_drop, List.length_take]; rfl)) ?_; (with_reducible refine (sum_zeros.calls a0 t122 t123 _ A5.out).mono ?_); rintro e w7 ⟨rfl, hb⟩; refine ⟨_, rfl, ?_⟩; have n0_ := Aside0.mk (below_step (by repeat (first | (with_reducible first | exact HB.out | apply below_alloc | apply pw_below_drewN | apply below_drew1) | exact HB.out)) hb); clear HB; have HB := n0_; clear n0_; (try clear hb); (try clear hb2); (try clear hk); (try clear hi)))
  go_ret
  exact ⟨by first | rfl | (simp [errW_none, errW_some] <;> rfl) | (simp [*, errW_none, errW_some] <;> rfl), by repeat (first | (with_reducible first | exact HB.out | apply below_alloc | apply pw_below_drewN | apply below_drew1) | exact HB.out)⟩

/-! ### ours: sm_conv -/
theorem sm_below_freeze {w W : World} {g : Nat} (h : Below w.heap.size w W) (hg : w.heap.size ≤ g) (k n : Nat) : Below w.heap.size w (W.freeze ⟨g, k, none⟩ n) := by
  unfold World.freeze
  split
  · exact h
  · refine ⟨h.os, h.tape, h.output, by simpa using h.size, fun j hj => ?_⟩
    rw [← h.block j hj]
    simp only [Array.getElem?_modify]
    rw [if_neg (by show ¬ g = j; omega)]
theorem sm_cell_freeze (W : World) (g k n : Nat) (a : Addr) : (W.freeze ⟨g, k, none⟩ n).cell? a = W.cell? a := by
  unfold World.freeze
  split
  · rfl
  · unfold World.cell?
    simp only [Array.getElem?_modify]
    by_cases c : g = a.block
    · subst c
      cases W.heap[a.block]? with
      | none => simp
      | some o => cases o <;> simp
    · simp [c]
theorem sm_conv {W : World} {g n c : Nat} {cs : Array Value} (hg : W.heap[g]? = some (.cells cs 5 (0, 0))) :
    (convert 22 22 (.slice (some ⟨g, 0, none⟩) n c)).run Try.prog W = .ok (.slice (some ⟨g, 0, none⟩) n c) (W.freeze ⟨g, cs.size, none⟩ 1) := by
  have hsh : W.shape? g = some (5, cs.size) := by unfold World.shape?; rw [hg]
  simp [convert, run_underlying Try.underlying22, run_underlying Try.underlying5, markStringish, hsh]
/-- A row made of numbers, turned into its own type: what stands there may still be read. -/
theorem sm_conv_event {P : Program} {ops : Array Oper} {rest : List Oper} {o : Oper} {a : Act} {Q : Exit → Act → World → Prop} {w W : World} {ok : Nat → Prop} {A : Option Addr} {xs : List Int} {c : Nat} (hgd : o.guard = none) (HB : Below w.heap.size w W)
    (HR : (Kd.int .u8).R 5 W w.heap.size ok (.slice A xs.length c) xs) (hp : 0 < xs.length)
    (hrun : ∀ W', (convert 22 22 (.slice A xs.length c)).run P W = .ok (.slice A xs.length c) W' → (execOp a.eval o).run P W = .ok (.value (.slice A xs.length c)) W') (hP : P = Try.prog)
    (h : ∀ W', Below w.heap.size w W' → Kd.C (Kd.int .u8) W' A xs.length xs → (∀ A' n' ys, Kd.C (Kd.int .u8) W A' n' ys → Kd.C (Kd.int .u8) W' A' n' ys) → wpList P ops Q rest (a.put o.dst (.slice A xs.length c)) W') : wpList P ops Q (o :: rest) a W := by
  subst hP
  obtain ⟨g, cap, e, hb, hl, cs, hcs⟩ := Kd.R_form HR hp
  injection e with e1 e2 e3
  subst e1
  subst e3
  have hC : ∀ A' n' ys, Kd.C (Kd.int .u8) W A' n' ys → Kd.C (Kd.int .u8) (W.freeze ⟨g, cs.size, none⟩ 1) A' n' ys := fun A' n' ys h => by
    refine Kd.C_of_reads (d := 0) ?_
    obtain ⟨r1, r2, r3⟩ := Kd.reads_of_C (d := 0) h
    refine ⟨r1, r2, fun hn => ?_⟩
    obtain ⟨ad, ea, hc⟩ := r3 hn
    exact ⟨ad, ea, fun j hj => by rw [sm_cell_freeze]; exact hc j hj⟩
  exact Kd.event_run hgd (hrun _ (sm_conv hcs)) (h _ (sm_below_freeze HB hb _ _) (hC _ _ _ (Kd.R_reads' HR).2.2) hC)

/-! ### lienlaw01_awake: function 16 -/
-- BY HAND

def aw_seal : List Int := (sum_Seal.f 20 [97, 98]).getD []
def aw_c1 : Int := (sum_Of.f [49, 50, 51, 52]).getD 0
def aw_c2 : Int := (sum_Of.f [53, 54, 55, 56, 57]).getD 0
theorem aw_e1 : sum_Seal.f 20 [97, 98] = some aw_seal := by kernel_rfl
theorem aw_e2 : sum_Open.f 20 aw_seal = some ([97, 98], 0) := by kernel_rfl
theorem aw_e3 : sum_Open.f 20 [1, 2, 3, 4, 5] = some ([], 10) := by kernel_rfl
theorem aw_e4 : sum_Of.f [49, 50, 51, 52, 53, 54, 55, 56, 57] = some 3808858755 := by kernel_rfl
theorem aw_e5 : sum_Of.f [49, 50, 51, 52] = some aw_c1 := by kernel_rfl
theorem aw_e6 : sum_Of.f [53, 54, 55, 56, 57] = some aw_c2 := by kernel_rfl
theorem aw_e7 : sum_Join.f aw_c1 aw_c2 5 = some 3808858755 := by kernel_rfl
theorem aw_str : strOfNums ([97, 98] : List Int) = (⟨#[97, 98]⟩ : ByteArray) := by kernel_rfl
def lienlaw01_awake.f : Option Bool := some true
set_option maxHeartbeats 2000000 in
set_option maxRecDepth 100000 in
theorem aw_walk (w : World) (y6 y9 y13 y17 y22 y25 S : List Int) (b1 b2 : Int) (Y6 : Aside0 (y6 = [97, 98])) (Y13 : Aside0 (y13 = [1, 2, 3, 4, 5])) (Y17 : Aside0 (y17 = [49, 50, 51, 52, 53, 54, 55, 56, 57])) (Y22 : Aside0 (y22 = [49, 50, 51, 52])) (Y25 : Aside0 (y25 = [53, 54, 55, 56, 57]))
    (E1 : Aside0 (sum_Seal.f 20 y6 = some S)) (E2 : Aside0 (sum_Open.f 20 S = some (y9, 0))) (E3 : Aside0 (sum_Open.f 20 y13 = some ([], 10))) (E4 : Aside0 (sum_Of.f y17 = some 3808858755)) (E5 : Aside0 (sum_Of.f y22 = some b1)) (E6 : Aside0 (sum_Of.f y25 = some b2)) (E7 : Aside0 (sum_Join.f b1 b2 5 = some 3808858755)) (E8 : Aside0 (strOfNums y9 = (⟨#[97, 98]⟩ : ByteArray))) :
    Calls Try.prog 16 #[] w fun e w' => e = .returned (.bool true) ∧ Below w.heap.size w w' := by
  have HB := Aside0.mk (Below.refl w.heap.size w)
  go_enter Try.func16, Try.ntmps16
  go_wp2_with (first | ((with_reducible refine gate_dst (N := 6) rfl ?_); (try (refine gate_guard (by rfl) ?_; dsimp only)); refine Kd.R_lit (Kd.int .u8) _ 5 ?hg (N := 6) ?hd (xs := ([97, 98] : List Int)) (inner := [.int .u8 97, .int .u8 98]) (ok := fun _ => True) (okp := fun _ => True) ?hr ?hp (fun _ hk => hk) trivial (Below.refl _ _) (Nat.le_refl _) (by simp) ?_; (case hd => rfl); (case hg => rfl); (case hr => first | (go_simp; done) | (go_simp; rfl)); (case hp => exact (Reps.one (show Kd.M (Kd.int .u8) _ _ _ 97 [.int .u8 97] from rfl) (Reps.one (show Kd.M (Kd.int .u8) _ _ _ 98 [.int .u8 98] from rfl) (Reps.none _ _)))); intro v6 w6 ho hb hg_ hnew_; clear hg_ hnew_; rw [← Y6.out] at ho; have n0_ := Aside0.mk (Kd.R_lower ho (below_size (by repeat (first | (with_reducible first | exact HB.out | apply below_alloc | apply pw_below_drewN | apply below_drew1) | exact HB.out)))); have n1_ := Aside0.mk (below_step (by repeat (first | (with_reducible first | exact HB.out | apply below_alloc | apply pw_below_drewN | apply below_drew1) | exact HB.out)) hb); clear HB; have HR6 := n0_; have HB := n1_; clear n0_ n1_; clear hb ho; obtain ⟨A6, c6, eo⟩ := Kd.R_slice HR6.out; subst eo) | ((with_reducible refine gate_dst (N := 7) rfl ?_); (try (refine gate_guard (by rfl) ?_; dsimp only)); refine sm_conv_event (w := w) ?hg HB.out HR6.out (by rw [Y6.out]; decide) ?hrun rfl ?_; (case hg => rfl); (case hrun => intro W' hW; (first | (go_simp; done) | (go_simp; rfl))); intro w7 hb hc hcc; have n0_ := Aside0.mk hb; have n1_ := Aside0.mk hc; have n2_ := Aside0.mk (Kd.R_reads' HR6.out).2.1; clear HB HR6 hb hc hcc; have HB := n0_; have HC7 := n1_; have HL7 := n2_; clear n0_ n1_ n2_) | ((with_reducible refine gate_callee (f := 14) rfl ?_); refine goesL_ (some 8) rfl rfl Try.func14 (by kernel_rfl) rfl #[.slice A6 y6.length c6] rfl (by (try simp only [List.map_toArray, List.map_cons, List.map_nil]); first | done | rfl) ?_; (with_reducible refine (sum_Seal.calls 20 _ _ y6 S _ ?side1 ?side2 E1.out).mono ?_); (case side1 => exact (by (with_reducible repeat (first | apply Kd.C_alloc | apply Kd.C_drewN | apply Kd.C_drew)); exact HC7.out)); (case side2 => exact HL7.out); rintro e w8 ⟨v8, rfl, ho, hb⟩; refine ⟨_, rfl, ?_⟩; have HR8 := Aside0.mk ho; clear ho; obtain ⟨A8, c8, eo⟩ := Kd.R_slice HR8.out; subst eo; have n9_ := Aside0.mk (below_step (by repeat (first | (with_reducible first | exact HB.out | apply below_alloc | apply pw_below_drewN | apply below_drew1) | exact HB.out)) hb); clear HB; have HB := n9_; clear n9_; clear hb) | ((with_reducible refine gate_callee (f := 12) rfl ?_); refine goesL_ (some 9) rfl rfl Try.func12 (by kernel_rfl) rfl #[.slice A8 S.length c8] rfl (by (try simp only [List.map_toArray, List.map_cons, List.map_nil]); first | done | rfl) ?_; (with_reducible refine (sum_Open.calls 20 _ _ S y9 0 _ ?side1 ?side2 E2.out).mono ?_); (case side1 => exact (by (with_reducible repeat (first | apply Kd.C_alloc | apply Kd.C_drewN | apply Kd.C_drew)); exact (Kd.R_reads' HR8.out).2.2)); (case side2 => exact (Kd.R_reads' HR8.out).2.1); rintro e w9 ⟨v9, rfl, ho, hb⟩; refine ⟨_, rfl, ?_⟩; obtain ⟨A9, c9, eo⟩ := Kd.R_slice ho; subst eo; have HX := Aside0.mk (Kd.R_reads' ho).2.2; clear ho; have n9_ := Aside0.mk (below_step (by repeat (first | (with_reducible first | exact HB.out | apply below_alloc | apply pw_below_drewN | apply below_drew1) | exact HB.out)) hb); clear HB; have HB := n9_; clear n9_; clear hb) | ((with_reducible refine gate_dst (N := 13) rfl ?_); (try (refine gate_guard (by rfl) ?_; dsimp only)); refine Kd.R_lit (Kd.int .u8) _ 5 ?hg (N := 13) ?hd (xs := ([1, 2, 3, 4, 5] : List Int)) (inner := [.int .u8 1, .int .u8 2, .int .u8 3, .int .u8 4, .int .u8 5]) (ok := fun _ => True) (okp := fun _ => True) ?hr ?hp (fun _ hk => hk) trivial (Below.refl _ _) (Nat.le_refl _) (by simp) ?_; (case hd => rfl); (case hg => rfl); (case hr => first | (go_simp; done) | (go_simp; rfl)); (case hp => exact (Reps.one (show Kd.M (Kd.int .u8) _ _ _ 1 [.int .u8 1] from rfl) (Reps.one (show Kd.M (Kd.int .u8) _ _ _ 2 [.int .u8 2] from rfl) (Reps.one (show Kd.M (Kd.int .u8) _ _ _ 3 [.int .u8 3] from rfl) (Reps.one (show Kd.M (Kd.int .u8) _ _ _ 4 [.int .u8 4] from rfl) (Reps.one (show Kd.M (Kd.int .u8) _ _ _ 5 [.int .u8 5] from rfl) (Reps.none _ _))))))); intro v13 w13 ho hb hg_ hnew_; clear hg_ hnew_; rw [← Y13.out] at ho; have n0_ := Aside0.mk (Kd.R_lower ho (below_size (by repeat (first | (with_reducible first | exact HB.out | apply below_alloc | apply pw_below_drewN | apply below_drew1) | exact HB.out)))); have n1_ := Aside0.mk (below_step (by repeat (first | (with_reducible first | exact HB.out | apply below_alloc | apply pw_below_drewN | apply below_drew1) | exact HB.out)) hb); have x_ := Aside0.mk (Kd.C_below (by (with_reducible repeat (first | apply Kd.C_alloc | apply Kd.C_drewN | apply Kd.C_drew)); exact HX.out) hb); clear HX; have HX := x_; clear x_; clear HB; have HR13 := n0_; have HB := n1_; clear n0_ n1_; clear hb ho; obtain ⟨A13, c13, eo⟩ := Kd.R_slice HR13.out; subst eo) | ((with_reducible refine gate_callee (f := 12) rfl ?_); refine goesL_ (some 14) rfl rfl Try.func12 (by kernel_rfl) rfl #[.slice A13 y13.length c13] rfl (by (try simp only [List.map_toArray, List.map_cons, List.map_nil]); first | done | rfl) ?_; (with_reducible refine (sum_Open.calls 20 _ _ y13 [] 10 _ ?side1 ?side2 E3.out).mono ?_); (case side1 => exact (by (with_reducible repeat (first | apply Kd.C_alloc | apply Kd.C_drewN | apply Kd.C_drew)); exact (Kd.R_reads' HR13.out).2.2)); (case side2 => exact (Kd.R_reads' HR13.out).2.1); rintro e w14 ⟨v14, rfl, ho, hb⟩; refine ⟨_, rfl, ?_⟩; clear ho; have x_ := Aside0.mk (Kd.C_below (by (with_reducible repeat (first | apply Kd.C_alloc | apply Kd.C_drewN | apply Kd.C_drew)); exact HX.out) hb); clear HX; have HX := x_; clear x_; have n9_ := Aside0.mk (below_step (by repeat (first | (with_reducible first | exact HB.out | apply below_alloc | apply pw_below_drewN | apply below_drew1) | exact HB.out)) hb); clear HB; have HB := n9_; clear n9_; clear hb) | ((with_reducible refine gate_dst (N := 17) rfl ?_); (try (refine gate_guard (by rfl) ?_; dsimp only)); refine Kd.R_lit (Kd.int .u8) _ 5 ?hg (N := 17) ?hd (xs := ([49, 50, 51, 52, 53, 54, 55, 56, 57] : List Int)) (inner := [.int .u8 49, .int .u8 50, .int .u8 51, .int .u8 52, .int .u8 53, .int .u8 54, .int .u8 55, .int .u8 56, .int .u8 57]) (ok := fun _ => True) (okp := fun _ => True) ?hr ?hp (fun _ hk => hk) trivial (Below.refl _ _) (Nat.le_refl _) (by simp) ?_; (case hd => rfl); (case hg => rfl); (case hr => first | (go_simp; done) | (go_simp; rfl)); (case hp => exact (Reps.one (show Kd.M (Kd.int .u8) _ _ _ 49 [.int .u8 49] from rfl) (Reps.one (show Kd.M (Kd.int .u8) _ _ _ 50 [.int .u8 50] from rfl) (Reps.one (show Kd.M (Kd.int .u8) _ _ _ 51 [.int .u8 51] from rfl) (Reps.one (show Kd.M (Kd.int .u8) _ _ _ 52 [.int .u8 52] from rfl) (Reps.one (show Kd.M (Kd.int .u8) _ _ _ 53 [.int .u8 53] from rfl) (Reps.one (show Kd.M (Kd.int .u8) _ _ _ 54 [.int .u8 54] from rfl) (Reps.one (show Kd.M (Kd.int .u8) _ _ _ 55 [.int .u8 55] from rfl) (Reps.one (show Kd.M (Kd.int .u8) _ _ _ 56 [.int .u8 56] from rfl) (Reps.one (show Kd.M (Kd.int .u8) _ _ _ 57 [.int .u8 57] from rfl) (Reps.none _ _))))))))))); intro v17 w17 ho hb hg_ hnew_; clear hg_ hnew_; rw [← Y17.out] at ho; have n0_ := Aside0.mk (Kd.R_lower ho (below_size (by repeat (first | (with_reducible first | exact HB.out | apply below_alloc | apply pw_below_drewN | apply below_drew1) | exact HB.out)))); have n1_ := Aside0.mk (below_step (by repeat (first | (with_reducible first | exact HB.out | apply below_alloc | apply pw_below_drewN | apply below_drew1) | exact HB.out)) hb); have x_ := Aside0.mk (Kd.C_below (by (with_reducible repeat (first | apply Kd.C_alloc | apply Kd.C_drewN | apply Kd.C_drew)); exact HX.out) hb); clear HX; have HX := x_; clear x_; clear HB; have HR17 := n0_; have HB := n1_; clear n0_ n1_; clear hb ho; obtain ⟨A17, c17, eo⟩ := Kd.R_slice HR17.out; subst eo) | ((with_reducible refine gate_dst (N := 18) rfl ?_); (try (refine gate_guard (by rfl) ?_; dsimp only)); refine sm_conv_event (w := w) ?hg HB.out HR17.out (by rw [Y17.out]; decide) ?hrun rfl ?_; (case hg => rfl); (case hrun => intro W' hW; (first | (go_simp; done) | (go_simp; rfl))); intro w18 hb hc hcc; have n0_ := Aside0.mk hb; have n1_ := Aside0.mk hc; have n2_ := Aside0.mk (Kd.R_reads' HR17.out).2.1; have x_ := Aside0.mk (hcc _ _ _ (by (with_reducible repeat (first | apply Kd.C_alloc | apply Kd.C_drewN | apply Kd.C_drew)); exact HX.out)); clear HX; have HX := x_; clear x_; clear HB HR17 hb hc hcc; have HB := n0_; have HC18 := n1_; have HL18 := n2_; clear n0_ n1_ n2_) | ((with_reducible refine gate_callee (f := 17) rfl ?_); refine goesL_ (some 19) rfl rfl Try.func17 (by kernel_rfl) rfl #[.slice A17 y17.length c17] rfl (by (try simp only [List.map_toArray, List.map_cons, List.map_nil]); first | done | rfl) ?_; (with_reducible refine (sum_Of.calls _ _ y17 3808858755 _ ?side1 ?side2 E4.out).mono ?_); (case side1 => exact (by (with_reducible repeat (first | apply Kd.C_alloc | apply Kd.C_drewN | apply Kd.C_drew)); exact HC18.out)); (case side2 => exact HL18.out); rintro e w19 ⟨rfl, hb⟩; refine ⟨_, rfl, ?_⟩; have x_ := Aside0.mk (Kd.C_below (by (with_reducible repeat (first | apply Kd.C_alloc | apply Kd.C_drewN | apply Kd.C_drew)); exact HX.out) hb); clear HX; have HX := x_; clear x_; have n9_ := Aside0.mk (below_step (by repeat (first | (with_reducible first | exact HB.out | apply below_alloc | apply pw_below_drewN | apply below_drew1) | exact HB.out)) hb); clear HB; have HB := n9_; clear n9_; clear hb) | ((with_reducible refine gate_dst (N := 22) rfl ?_); (try (refine gate_guard (by rfl) ?_; dsimp only)); refine Kd.R_lit (Kd.int .u8) _ 5 ?hg (N := 22) ?hd (xs := ([49, 50, 51, 52] : List Int)) (inner := [.int .u8 49, .int .u8 50, .int .u8 51, .int .u8 52]) (ok := fun _ => True) (okp := fun _ => True) ?hr ?hp (fun _ hk => hk) trivial (Below.refl _ _) (Nat.le_refl _) (by simp) ?_; (case hd => rfl); (case hg => rfl); (case hr => first | (go_simp; done) | (go_simp; rfl)); (case hp => exact (Reps.one (show Kd.M (Kd.int .u8) _ _ _ 49 [.int .u8 49] from rfl) (Reps.one (show Kd.M (Kd.int .u8) _ _ _ 50 [.int .u8 50] from rfl) (Reps.one (show Kd.M (Kd.int .u8) _ _ _ 51 [.int .u8 51] from rfl) (Reps.one (show Kd.M (Kd.int .u8) _ _ _ 52 [.int .u8 52] from rfl) (Reps.none _ _)))))); intro v22 w22 ho hb hg_ hnew_; clear hg_ hnew_; rw [← Y22.out] at ho; have n0_ := Aside0.mk (Kd.R_lower ho (below_size (by repeat (first | (with_reducible first | exact HB.out | apply below_alloc | apply pw_below_drewN | apply below_drew1) | exact HB.out)))); have n1_ := Aside0.mk (below_step (by repeat (first | (with_reducible first | exact HB.out | apply below_alloc | apply pw_below_drewN | apply below_drew1) | exact HB.out)) hb); have x_ := Aside0.mk (Kd.C_below (by (with_reducible repeat (first | apply Kd.C_alloc | apply Kd.C_drewN | apply Kd.C_drew)); exact HX.out) hb); clear HX; have HX := x_; clear x_; clear HB; have HR22 := n0_; have HB := n1_; clear n0_ n1_; clear hb ho; obtain ⟨A22, c22, eo⟩ := Kd.R_slice HR22.out; subst eo) | ((with_reducible refine gate_dst (N := 23) rfl ?_); (try (refine gate_guard (by rfl) ?_; dsimp only)); refine sm_conv_event (w := w) ?hg HB.out HR22.out (by rw [Y22.out]; decide) ?hrun rfl ?_; (case hg => rfl); (case hrun => intro W' hW; (first | (go_simp; done) | (go_simp; rfl))); intro w23 hb hc hcc; have n0_ := Aside0.mk hb; have n1_ := Aside0.mk hc; have n2_ := Aside0.mk (Kd.R_reads' HR22.out).2.1; have x_ := Aside0.mk (hcc _ _ _ (by (with_reducible repeat (first | apply Kd.C_alloc | apply Kd.C_drewN | apply Kd.C_drew)); exact HX.out)); clear HX; have HX := x_; clear x_; clear HB HR22 hb hc hcc; have HB := n0_; have HC23 := n1_; have HL23 := n2_; clear n0_ n1_ n2_) | (go_at_call 17; (with_reducible refine (sum_Of.calls _ _ y22 b1 _ ?side1 ?side2 E5.out).mono ?_); (case side1 => exact (by (with_reducible repeat (first | apply Kd.C_alloc | apply Kd.C_drewN | apply Kd.C_drew)); exact HC23.out)); (case side2 => exact HL23.out); rintro e w24 ⟨rfl, hb⟩; have x_ := Aside0.mk (Kd.C_below (by (with_reducible repeat (first | apply Kd.C_alloc | apply Kd.C_drewN | apply Kd.C_drew)); exact HX.out) hb); clear HX; have HX := x_; clear x_; have n9_ := Aside0.mk (below_step (by repeat (first | (with_reducible first | exact HB.out | apply below_alloc | apply pw_below_drewN | apply below_drew1) | exact HB.out)) hb); clear HB; have HB := n9_; clear n9_; clear hb) | ((with_reducible refine gate_dst (N := 25) rfl ?_); (try (refine gate_guard (by rfl) ?_; dsimp only)); refine Kd.R_lit (Kd.int .u8) _ 5 ?hg (N := 25) ?hd (xs := ([53, 54, 55, 56, 57] : List Int)) (inner := [.int .u8 53, .int .u8 54, .int .u8 55, .int .u8 56, .int .u8 57]) (ok := fun _ => True) (okp := fun _ => True) ?hr ?hp (fun _ hk => hk) trivial (Below.refl _ _) (Nat.le_refl _) (by simp) ?_; (case hd => rfl); (case hg => rfl); (case hr => first | (go_simp; done) | (go_simp; rfl)); (case hp => exact (Reps.one (show Kd.M (Kd.int .u8) _ _ _ 53 [.int .u8 53] from rfl) (Reps.one (show Kd.M (Kd.int .u8) _ _ _ 54 [.int .u8 54] from rfl) (Reps.one (show Kd.M (Kd.int .u8) _ _ _ 55 [.int .u8 55] from rfl) (Reps.one (show Kd.M (Kd.int .u8) _ _ _ 56 [.int .u8 56] from rfl) (Reps.one (show Kd.M (Kd.int .u8) _ _ _ 57 [.int .u8 57] from rfl) (Reps.none _ _))))))); intro v25 w25 ho hb hg_ hnew_; clear hg_ hnew_; rw [← Y25.out] at ho; have n0_ := Aside0.mk (Kd.R_lower ho (below_size (by repeat (first | (with_reducible first | exact HB.out | apply below_alloc | apply pw_below_drewN | apply below_drew1) | exact HB.out)))); have n1_ := Aside0.mk (below_step (by repeat (first | (with_reducible first | exact HB.out | apply below_alloc | apply pw_below_drewN | apply below_drew1) | exact HB.out)) hb); have x_ := Aside0.mk (Kd.C_below (by (with_reducible repeat (first | apply Kd.C_alloc | apply Kd.C_drewN | apply Kd.C_drew)); exact HX.out) hb); clear HX; have HX := x_; clear x_; clear HB; have HR25 := n0_; have HB := n1_; clear n0_ n1_; clear hb ho; obtain ⟨A25, c25, eo⟩ := Kd.R_slice HR25.out; subst eo) | ((with_reducible refine gate_dst (N := 26) rfl ?_); (try (refine gate_guard (by rfl) ?_; dsimp only)); refine sm_conv_event (w := w) ?hg HB.out HR25.out (by rw [Y25.out]; decide) ?hrun rfl ?_; (case hg => rfl); (case hrun => intro W' hW; (first | (go_simp; done) | (go_simp; rfl))); intro w26 hb hc hcc; have n0_ := Aside0.mk hb; have n1_ := Aside0.mk hc; have n2_ := Aside0.mk (Kd.R_reads' HR25.out).2.1; have x_ := Aside0.mk (hcc _ _ _ (by (with_reducible repeat (first | apply Kd.C_alloc | apply Kd.C_drewN | apply Kd.C_drew)); exact HX.out)); clear HX; have HX := x_; clear x_; clear HB HR25 hb hc hcc; have HB := n0_; have HC26 := n1_; have HL26 := n2_; clear n0_ n1_ n2_) | (go_at_call 17; (with_reducible refine (sum_Of.calls _ _ y25 b2 _ ?side1 ?side2 E6.out).mono ?_); (case side1 => exact (by (with_reducible repeat (first | apply Kd.C_alloc | apply Kd.C_drewN | apply Kd.C_drew)); exact HC26.out)); (case side2 => exact HL26.out); rintro e w27 ⟨rfl, hb⟩; have x_ := Aside0.mk (Kd.C_below (by (with_reducible repeat (first | apply Kd.C_alloc | apply Kd.C_drewN | apply Kd.C_drew)); exact HX.out) hb); clear HX; have HX := x_; clear x_; have n9_ := Aside0.mk (below_step (by repeat (first | (with_reducible first | exact HB.out | apply below_alloc | apply pw_below_drewN | apply below_drew1) | exact HB.out)) hb); clear HB; have HB := n9_; clear n9_; clear hb) | (go_at_call 21; (with_reducible refine (sum_Join.calls b1 b2 5 3808858755 _ E7.out).mono ?_); rintro e w28 ⟨rfl, hb⟩; have x_ := Aside0.mk (Kd.C_below (by (with_reducible repeat (first | apply Kd.C_alloc | apply Kd.C_drewN | apply Kd.C_drew)); exact HX.out) hb); clear HX; have HX := x_; clear x_; have n9_ := Aside0.mk (below_step (by repeat (first | (with_reducible first | exact HB.out | apply below_alloc | apply pw_below_drewN | apply below_drew1) | exact HB.out)) hb); clear HB; have HB := n9_; clear n9_; clear hb; have hcv := Kd.C_string (P := Try.prog) (c := c9) Try.underlying22 Try.underlying5 Try.underlying9 HX.out; rw [E8.out] at hcv))
  go_ret
  exact ⟨by first | rfl | (simp <;> rfl), by repeat (first | (with_reducible first | exact HB.out | apply below_alloc | apply pw_below_drewN | apply below_drew1) | exact HB.out)⟩
theorem lienlaw01_awake.calls (r : Bool) (w : World) (h : lienlaw01_awake.f = some r) :
    Calls Try.prog 16 #[] w fun e w' => e = .returned (.bool r) ∧ Below w.heap.size w w' := by
  obtain rfl := Option.some.inj h
  exact aw_walk w _ _ _ _ _ _ _ _ _ ⟨rfl⟩ ⟨rfl⟩ ⟨rfl⟩ ⟨rfl⟩ ⟨rfl⟩ ⟨aw_e1⟩ ⟨aw_e2⟩ ⟨aw_e3⟩ ⟨aw_e4⟩ ⟨aw_e5⟩ ⟨aw_e6⟩ ⟨aw_e7⟩ ⟨aw_str⟩

/-! ### lienref01_step: function 31 -/
def lienref01_step.f (a0 : Int) : Option (Int) := if (Int.tmod a0 2) = 1 then (some (Go.bits .xor .u32 ((Int.tdiv a0 2) % 4294967296) 2197175160)) else (some ((Int.tdiv a0 2) % 4294967296))
set_option maxHeartbeats 8000000 in
set_option maxRecDepth 100000 in
theorem lienref01_step.calls (a0 : Int) (r : Int) (w : World) (h : lienref01_step.f a0 = some r) :
    Calls Try.prog 31 #[.int .u32 a0] w fun e w' => e = .returned (.int .u32 r) ∧ Drawn0 w w' := by
  have H : (if (Int.tmod a0 2) = 1 then (some (Go.bits .xor .u32 ((Int.tdiv a0 2) % 4294967296) 2197175160)) else (some ((Int.tdiv a0 2) % 4294967296))) = some r := h
  clear h
  by_cases c2 : (Int.tmod a0 2) = 1
  · rw [if_pos c2] at H
    have c2b0 : ((Int.tmod a0 2) == 1) = true := beq_iff_eq.mpr c2
    have c2b1 : ((Int.tmod a0 2) != 1) = false := bne_eq_false_iff_eq.mpr c2
    clear c2
    obtain rfl := Option.some.inj H
    go_enter Try.func31, Try.ntmps31
    go_wp2
    go_ret
    exact ⟨by first | rfl | (simp; done) | (simp [*]; done), by repeat (first | exact Drawn0.refl _ | apply Drawn0.step)⟩
  · rw [if_neg c2] at H
    have c2b0 : ((Int.tmod a0 2) == 1) = false := beq_eq_false_iff_ne.mpr c2
    have c2b1 : ((Int.tmod a0 2) != 1) = true := bne_iff_ne.mpr c2
    obtain rfl := Option.some.inj H
    go_enter Try.func31, Try.ntmps31
    go_wp2
    go_ret
    exact ⟨by first | rfl | (simp; done) | (simp [*]; done), by repeat (first | exact Drawn0.refl _ | apply Drawn0.step)⟩

/-! ### lienref01_in: function 26 -/
def lienref01_in.l0 : Nat → Int → Int → Option (Int)
  | 0, _, _ => none
  | k + 1, x0, x5 => if x5 < 8 then ((lienref01_step.f x0).bind fun t124 => (lienref01_in.l0 k t124 (wrap64 (x5 + 1)))) else (some x0)
def lienref01_in.f (k : Nat) (a0 : Int) (a1 : Int) : Option (Int) := lienref01_in.l0 k (Go.bits .xor .u32 a0 ((a1) % 4294967296)) 0
theorem lienref01_in.mono_l : ∀ k, (∀ y0 y1, LeO (lienref01_in.l0 k y0 y1) (lienref01_in.l0 (k + 1) y0 y1))
  | 0 => fun _ _ r h => by simp [lienref01_in.l0] at h
  | k + 1 => by
    have ih0 := lienref01_in.mono_l k
    · intro y0 y1
      unfold lienref01_in.l0
      repeat' first
      | (with_reducible exact ih0 _ _)
      | (with_reducible exact LeO.refl _)
      | (with_reducible exact LeO.none _)
      | (with_reducible refine LeO.ite ?_ ?_)
      | (with_reducible refine LeO.bind ?_ (fun _ => ?_))
      | exact ih0 _ _
      | exact LeO.none _
      | refine LeO.ite ?_ ?_
      | refine LeO.bind ?_ (fun _ => ?_)
theorem lienref01_in.mono : ∀ a0 a1 k, LeO (lienref01_in.f k a0 a1) (lienref01_in.f (k + 1) a0 a1) := by
  intro a0 a1 k
  have ih0 := lienref01_in.mono_l k
  unfold lienref01_in.f
  repeat' first
      | (with_reducible exact ih0 _ _)
      | (with_reducible exact LeO.refl _)
      | (with_reducible exact LeO.none _)
      | (with_reducible refine LeO.ite ?_ ?_)
      | (with_reducible refine LeO.bind ?_ (fun _ => ?_))
      | exact ih0 _ _
      | exact LeO.none _
      | refine LeO.ite ?_ ?_
      | refine LeO.bind ?_ (fun _ => ?_)
set_option maxHeartbeats 8000000 in
set_option maxRecDepth 100000 in
theorem lienref01_in.calls (k : Nat) (a0 : Int) (a1 : Int) (r : Int) (w : World) (h : lienref01_in.f k a0 a1 = some r) :
    Calls Try.prog 26 #[.int .u32 a0, .int .u8 a1] w fun e w' => e = .returned (.int .u32 r) ∧ Drawn0 w w' := by
  have H : (lienref01_in.l0 k (Go.bits .xor .u32 a0 ((a1) % 4294967296)) 0) = some r := h
  clear h
  have H' := Aside0.mk H
  clear H
  go_enter Try.func26, Try.ntmps26
  go_wp2
  go_loopg [0, 5] k (fun kq v0 v5 w' => ∃ (x0_1 : Int) (x5_1 : Int), v0 = .int .u32 x0_1 ∧ v5 = .int .i64 x5_1 ∧ Aside0 (lienref01_in.l0 kq x0_1 x5_1 = some r) ∧ Aside0 (kq ≤ k) ∧ Drawn0 w w')
  case atStart => exact ⟨(Go.bits .xor .u32 a0 ((a1) % 4294967296)), (0), (by first | rfl | (simp; done) | (simp [*]; done)), (by first | rfl | (simp; done) | (simp [*]; done)), H', ⟨Nat.le_refl _⟩, by repeat (first | exact Drawn0.refl _ | apply Drawn0.step)⟩
  case round =>
    clear H'
    try clear c2
    try clear p2
    obtain ⟨x0_1, x5_1, rfl, rfl, HA, HK1, ⟨m1, rfl⟩⟩ := hrel
    cases gk with
    | zero => exact absurd HA.out (by simp [lienref01_in.l0])
    | succ k1 =>
      have H := HA.out
      clear HA
      simp only [lienref01_in.l0] at H
      by_cases c3 : x5_1 < 8
      · rw [if_pos c3] at H
        have c3b0 : decide (x5_1 < 8) = true := decide_eq_true c3
        clear c3
        replace H := Option.bind_eq_some_iff.mp H
        obtain ⟨t124, A40, H⟩ := H
        replace H : (lienref01_in.l0 k1 t124 (wrap64 (x5_1 + 1))) = some r := H
        have A4 := Aside0.mk A40
        clear A40
        have H' := Aside0.mk H
        clear H
        go_wp2_with (first | ((with_reducible refine gate_callee (f := 31) rfl ?_); refine goesL_ (some 15) rfl rfl Try.func31 (by kernel_rfl) rfl #[.int .u32 x0_1] rfl (by (try simp only [List.map_toArray, List.map_cons, List.map_nil]); first | done | rfl | (simp only [List.length_drop, List.length_take]; rfl)) ?_; (with_reducible refine (lienref01_step.calls x0_1 t124 _ A4.out).mono ?_); rintro e w' ⟨rfl, ⟨nd, rfl⟩⟩; refine ⟨_, rfl, ?_⟩))
        go_roundg k1
        case measure => have := HK1.out; omega
        case rel => exact ⟨(t124), (wrap64 (x5_1 + 1)), (by first | rfl | (simp; done) | (simp [*]; done)), (by first | rfl | (simp; done) | (simp [*]; done)), H', ⟨by have := HK1.out; omega⟩, by repeat (first | exact Drawn0.refl _ | apply Drawn0.step)⟩
      · rw [if_neg c3] at H
        have c3b0 : decide (x5_1 < 8) = false := decide_eq_false c3
        clear c3
        obtain rfl := Option.some.inj H
        go_wp2
        go_ret
        exact ⟨by first | rfl | (simp; done) | (simp [*]; done), by repeat (first | exact Drawn0.refl _ | apply Drawn0.step)⟩

/-! ### lienref01_Length: function 29 -/
def lienref01_Length.f (a0 : Int) : Option (Int) := some (mn (mx a0 0) 1048576)
set_option maxHeartbeats 8000000 in
set_option maxRecDepth 100000 in
theorem lienref01_Length.calls (a0 : Int) (r : Int) (w : World) (h : lienref01_Length.f a0 = some r) :
    Calls Try.prog 29 #[.int .i64 a0] w fun e w' => e = .returned (.int .i64 r) ∧ Below w.heap.size w w' := by
  have HB := Aside0.mk (Below.refl w.heap.size w)
  have H : (some (mn (mx a0 0) 1048576)) = some r := h
  clear h
  obtain ⟨ji2, hji2⟩ : ∃ j_ : Int, (mx a0 0) = j_ := ⟨_, rfl⟩
  replace H : (some (mn (ji2) 1048576)) = some r := by first | (rw [hji2] at H; exact H) | (simp only [hji2] at H ⊢; exact H)
  (try (have hji2l : 0 ≤ ji2 := by (rw [← hji2]; unfold mx; (repeat' split) <;> omega)))
  (try (have hji2m : 0 ≤ ji2 := by omega))
  have hji2_ : (if a0 < 0 then 0 else a0) = ji2 := hji2
  obtain ⟨ji3, hji3⟩ : ∃ j_ : Int, (mn (ji2) 1048576) = j_ := ⟨_, rfl⟩
  replace H : (some ji3) = some r := by first | (rw [hji3] at H; exact H) | (simp only [hji3] at H ⊢; exact H)
  have hji3_ : (if 1048576 < (ji2) then 1048576 else (ji2)) = ji3 := hji3
  obtain rfl := Option.some.inj H
  go_enter Try.func29, Try.ntmps29
  go_wp2
  go_ret
  exact ⟨by first | rfl | (simp [errW_none, errW_some] <;> rfl) | (simp only [← hji2, ← hji3]; first | rfl | (simp [errW_none, errW_some] <;> rfl)) | (simp [*, errW_none, errW_some] <;> rfl), by repeat (first | (with_reducible first | exact HB.out | apply below_alloc | apply pw_below_drewN | apply below_drew1) | exact HB.out)⟩

/-! ### lienref01_Join: function 22 -/
def lienref01_Join.l0 : Nat → Int → Int → Int → Int → Option (Int)
  | 0, _, _, _, _ => none
  | k + 1, x0, x1, x2, x7 => (lienref01_Length.f x2).bind fun t125 => (if x7 < t125 then ((lienref01_in.f k x0 0).bind fun t126 => (lienref01_Join.l0 k t126 x1 x2 (wrap64 (x7 + 1)))) else (some (Go.bits .xor .u32 x0 x1)))
def lienref01_Join.f (k : Nat) (a0 : Int) (a1 : Int) (a2 : Int) : Option (Int) := lienref01_Join.l0 k a0 a1 a2 0
theorem lienref01_Join.mono_l : ∀ k, (∀ y0 y1 y2 y3, LeO (lienref01_Join.l0 k y0 y1 y2 y3) (lienref01_Join.l0 (k + 1) y0 y1 y2 y3))
  | 0 => fun _ _ _ _ r h => by simp [lienref01_Join.l0] at h
  | k + 1 => by
    have ih0 := lienref01_Join.mono_l k
    · intro y0 y1 y2 y3
      unfold lienref01_Join.l0
      repeat' first
      | (with_reducible exact ih0 _ _ _ _)
      | (with_reducible exact lienref01_in.mono _ _ _)
      | (with_reducible exact LeO.refl _)
      | (with_reducible exact LeO.none _)
      | (with_reducible refine LeO.ite ?_ ?_)
      | (with_reducible refine LeO.bind ?_ (fun _ => ?_))
      | exact ih0 _ _ _ _
      | exact lienref01_in.mono _ _ _
      | exact LeO.none _
      | refine LeO.ite ?_ ?_
      | refine LeO.bind ?_ (fun _ => ?_)
theorem lienref01_Join.mono : ∀ a0 a1 a2 k, LeO (lienref01_Join.f k a0 a1 a2) (lienref01_Join.f (k + 1) a0 a1 a2) := by
  intro a0 a1 a2 k
  have ih0 := lienref01_Join.mono_l k
  unfold lienref01_Join.f
  repeat' first
      | (with_reducible exact ih0 _ _ _ _)
      | (with_reducible exact lienref01_in.mono _ _ _)
      | (with_reducible exact LeO.refl _)
      | (with_reducible exact LeO.none _)
      | (with_reducible refine LeO.ite ?_ ?_)
      | (with_reducible refine LeO.bind ?_ (fun _ => ?_))
      | exact ih0 _ _ _ _
      | exact lienref01_in.mono _ _ _
      | exact LeO.none _
      | refine LeO.ite ?_ ?_
      | refine LeO.bind ?_ (fun _ => ?_)
set_option maxHeartbeats 8000000 in
set_option maxRecDepth 100000 in
theorem lienref01_Join.calls (k : Nat) (a0 : Int) (a1 : Int) (a2 : Int) (r : Int) (w : World) (h : lienref01_Join.f k a0 a1 a2 = some r) :
    Calls Try.prog 22 #[.int .u32 a0, .int .u32 a1, .int .i64 a2] w fun e w' => e = .returned (.int .u32 r) ∧ Below w.heap.size w w' := by
  have HB := Aside0.mk (Below.refl w.heap.size w)
  have H : (lienref01_Join.l0 k a0 a1 a2 0) = some r := h
  clear h
  have H' := Aside0.mk H
  clear H
  go_enter Try.func22, Try.ntmps22
  go_wp2
  go_loopg [0, 7] k (fun kq v0 v7 w' => ∃ (x0_1 : Int) (x7_1 : Int), v0 = .int .u32 x0_1 ∧ v7 = .int .i64 x7_1 ∧ Aside0 (lienref01_Join.l0 kq x0_1 a1 a2 x7_1 = some r) ∧ Aside0 (kq ≤ k) ∧ Aside0 (Below w.heap.size w w'))
  case atStart => exact ⟨(a0), (0), (by first | rfl | (simp; done) | (simp [*]; done)), (by first | rfl | (simp; done) | (simp [*]; done)), H', ⟨Nat.le_refl _⟩, ⟨by repeat (first | (with_reducible first | exact HB.out | apply below_alloc | apply pw_below_drewN | apply below_drew1) | exact HB.out)⟩⟩
  case round =>
    clear H'
    try clear c2
    try clear p2
    obtain ⟨x0_1, x7_1, rfl, rfl, HA, HK1, HB⟩ := hrel
    cases gk with
    | zero => exact absurd HA.out (by simp [lienref01_Join.l0])
    | succ k1 =>
      have H := HA.out
      clear HA
      simp only [lienref01_Join.l0] at H
      replace H := Option.bind_eq_some_iff.mp H
      obtain ⟨t125, A40, H⟩ := H
      replace H : (if x7_1 < t125 then ((lienref01_in.f k1 x0_1 0).bind fun t126 => (lienref01_Join.l0 k1 t126 a1 a2 (wrap64 (x7_1 + 1)))) else (some (Go.bits .xor .u32 x0_1 a1))) = some r := H
      have A4 := Aside0.mk A40
      clear A40
      by_cases c5 : x7_1 < t125
      · rw [if_pos c5] at H
        have c5b0 : decide (x7_1 < t125) = true := decide_eq_true c5
        clear c5
        replace H := Option.bind_eq_some_iff.mp H
        obtain ⟨t126, A60, H⟩ := H
        replace H : (lienref01_Join.l0 k1 t126 a1 a2 (wrap64 (x7_1 + 1))) = some r := H
        have A6 := Aside0.mk A60
        clear A60
        have H' := Aside0.mk H
        clear H
        go_wp2_with (first | ((with_reducible refine gate_callee (f := 29) rfl ?_); refine goesL_ (some 10) rfl rfl Try.func29 (by kernel_rfl) rfl #[.int .i64 a2] rfl (by (try simp only [List.map_toArray, List.map_cons, List.map_nil]); first | done | rfl | (simp only [List.length_drop, List.length_take]; rfl)) ?_; (with_reducible refine (lienref01_Length.calls a2 t125 _ A4.out).mono ?_); rintro e w7 ⟨rfl, hb⟩; refine ⟨_, rfl, ?_⟩; have n0_ := Aside0.mk (below_step (by repeat (first | (with_reducible first | exact HB.out | apply below_alloc | apply pw_below_drewN | apply below_drew1) | exact HB.out)) hb); clear HB; have HB := n0_; clear n0_; (try clear hb); (try clear hb2); (try clear hk); (try clear hi)) | ((with_reducible refine gate_callee (f := 26) rfl ?_); refine goesL_ (some 15) rfl rfl Try.func26 (by kernel_rfl) rfl #[.int .u32 x0_1, .int .u8 0] rfl (by (try simp only [List.map_toArray, List.map_cons, List.map_nil]); first | done | rfl | (simp only [List.length_drop, List.length_take]; rfl)) ?_; (with_reducible refine (lienref01_in.calls k1 x0_1 0 t126 _ A6.out).mono ?_); rintro e w' ⟨rfl, ⟨nd, rfl⟩⟩; refine ⟨_, rfl, ?_⟩))
        go_roundg k1
        case measure => have := HK1.out; omega
        case rel => exact ⟨(t126), (wrap64 (x7_1 + 1)), (by first | rfl | (simp; done) | (simp [*]; done)), (by first | rfl | (simp; done) | (simp [*]; done)), H', ⟨by have := HK1.out; omega⟩, ⟨by repeat (first | (with_reducible first | exact HB.out | apply below_alloc | apply pw_below_drewN | apply below_drew1) | exact HB.out)⟩⟩
      · rw [if_neg c5] at H
        have c5b0 : decide (x7_1 < t125) = false := decide_eq_false c5
        clear c5
        obtain rfl := Option.some.inj H
        go_wp2_with (first | ((with_reducible refine gate_callee (f := 29) rfl ?_); refine goesL_ (some 10) rfl rfl Try.func29 (by kernel_rfl) rfl #[.int .i64 a2] rfl (by (try simp only [List.map_toArray, List.map_cons, List.map_nil]); first | done | rfl | (simp only [List.length_drop, List.length_take]; rfl)) ?_; (with_reducible refine (lienref01_Length.calls a2 t125 _ A4.out).mono ?_); rintro e w8 ⟨rfl, hb⟩; refine ⟨_, rfl, ?_⟩; have n0_ := Aside0.mk (below_step (by repeat (first | (with_reducible first | exact HB.out | apply below_alloc | apply pw_below_drewN | apply below_drew1) | exact HB.out)) hb); clear HB; have HB := n0_; clear n0_; (try clear hb); (try clear hb2); (try clear hk); (try clear hi)))
        go_ret
        exact ⟨by first | rfl | (simp [errW_none, errW_some] <;> rfl) | (simp [*, errW_none, errW_some] <;> rfl), by repeat (first | (with_reducible first | exact HB.out | apply below_alloc | apply pw_below_drewN | apply below_drew1) | exact HB.out)⟩

/-! ### sum_Bent: function 23 -/
def sum_Bent.j0 : Nat → Int → Int → Bool → Option (Int)
  | 0, _, _, _ => none
  | k + 1, x0, x1, x15 => if x15 = true then (some 0) else (if 0 ≤ (Int.tmod x1 8) then ((sum_feed.f 0 (([shl .u8 1 (Int.tmod x1 8)] : List Int))).bind fun t131 => ((sum_zeros.f t131 (wrap64 ((wrap64 (x0 - 1)) - (wrap64 (Int.tdiv x1 8))))).bind fun t132 => (some t132))) else (none))
def sum_Bent.f (k : Nat) (a0 : Int) (a1 : Int) : Option (Int) := (sum_length.f a0).bind fun t127 => (if a1 < 0 then (sum_Bent.j0 k t127 a1 true) else (sum_Bent.j0 k t127 a1 (decide (a1 ≥ (wrap64 (8 * t127))))))
theorem sum_Bent.mono_l : ∀ k, (∀ y0 y1 y2, LeO (sum_Bent.j0 k y0 y1 y2) (sum_Bent.j0 (k + 1) y0 y1 y2))
  | 0 => fun _ _ _ r h => by simp [sum_Bent.j0] at h
  | k + 1 => by
    have ih0 := sum_Bent.mono_l k
    · intro y0 y1 y2
      unfold sum_Bent.j0
      repeat' first
      | (with_reducible exact ih0 _ _ _)
      | (with_reducible exact LeO.refl _)
      | (with_reducible exact LeO.none _)
      | (with_reducible refine LeO.ite ?_ ?_)
      | (with_reducible refine LeO.bind ?_ (fun _ => ?_))
      | exact ih0 _ _ _
      | exact LeO.none _
      | refine LeO.ite ?_ ?_
      | refine LeO.bind ?_ (fun _ => ?_)
theorem sum_Bent.mono : ∀ a0 a1 k, LeO (sum_Bent.f k a0 a1) (sum_Bent.f (k + 1) a0 a1) := by
  intro a0 a1 k
  have ih0 := sum_Bent.mono_l k
  unfold sum_Bent.f
  repeat' first
      | (with_reducible exact ih0 _ _ _)
      | (with_reducible exact LeO.refl _)
      | (with_reducible exact LeO.none _)
      | (with_reducible refine LeO.ite ?_ ?_)
      | (with_reducible refine LeO.bind ?_ (fun _ => ?_))
      | exact ih0 _ _ _
      | exact LeO.none _
      | refine LeO.ite ?_ ?_
      | refine LeO.bind ?_ (fun _ => ?_)
set_option maxHeartbeats 8000000 in
set_option maxRecDepth 100000 in
theorem sum_Bent.calls (k : Nat) (a0 : Int) (a1 : Int) (r : Int) (w : World) (h : sum_Bent.f k a0 a1 = some r) :
    Calls Try.prog 23 #[.int .i64 a0, .int .i64 a1] w fun e w' => e = .returned (.int .u32 r) ∧ Below w.heap.size w w' := by
  have HB := Aside0.mk (Below.refl w.heap.size w)
  have H : ((sum_length.f a0).bind fun t127 => (if a1 < 0 then (sum_Bent.j0 k t127 a1 true) else (sum_Bent.j0 k t127 a1 (decide (a1 ≥ (wrap64 (8 * t127))))))) = some r := h
  clear h
  replace H := Option.bind_eq_some_iff.mp H
  obtain ⟨t127, A30, H⟩ := H
  replace H : (if a1 < 0 then (sum_Bent.j0 k t127 a1 true) else (sum_Bent.j0 k t127 a1 (decide (a1 ≥ (wrap64 (8 * t127)))))) = some r := H
  have A3 := Aside0.mk A30
  clear A30
  have HC4 := Aside0.mk H
  clear H
  go_enter Try.func23, Try.ntmps23
  go_upto_region 2 with (first | ((with_reducible refine gate_callee (f := 28) rfl ?_); refine goesL_ (some 7) rfl rfl Try.func28 (by kernel_rfl) rfl #[.int .i64 a0] rfl (by (try simp only [List.map_toArray, List.map_cons, List.map_nil]); first | done | rfl | (simp only [List.length_drop, List.length_take]; rfl)) ?_; (with_reducible refine (sum_length.calls a0 t127 _ A3.out).mono ?_); rintro e w5 ⟨rfl, hb⟩; refine ⟨_, rfl, ?_⟩; have n0_ := Aside0.mk (below_step (by repeat (first | (with_reducible first | exact HB.out | apply below_alloc | apply pw_below_drewN | apply below_drew1) | exact HB.out)) hb); clear HB; have HB := n0_; clear n0_; (try clear hb); (try clear hb2); (try clear hk); (try clear hi)))
  (try simp only [Act.put, List.setIfInBounds_toArray, List.set_cons_zero, List.set_cons_succ])
  go_cut [15] (fun v15 wc => ∃ (kq : Nat) (x15_3 : Bool), v15 = .bool x15_3 ∧ Aside0 (sum_Bent.j0 kq t127 a1 x15_3 = some r) ∧ Aside0 (kq ≤ k) ∧ Aside0 (Below w.heap.size w wc))
  case first =>
    have H := HC4.out
    clear HC4
    by_cases c6 : a1 < 0
    · rw [if_pos c6] at H
      have c6b0 : decide (a1 < 0) = true := decide_eq_true c6
      clear c6
      (first | rw [c6b0] | (simp only [i64_w, i32_w]; rw [c6b0]) | skip)
      have H' := Aside0.mk H
      clear H
      go_wp2
      go_meet
      case rel => exact ⟨_, (true), (by first | rfl | (simp; done) | (simp [*]; done)), H', ⟨by first | omega | exact Nat.le_refl _⟩, ⟨by repeat (first | (with_reducible first | exact HB.out | apply below_alloc | apply pw_below_drewN | apply below_drew1) | exact HB.out)⟩⟩
    · rw [if_neg c6] at H
      have c6b0 : decide (a1 < 0) = false := decide_eq_false c6
      clear c6
      (first | rw [c6b0] | (simp only [i64_w, i32_w]; rw [c6b0]) | skip)
      have H' := Aside0.mk H
      clear H
      go_wp2
      go_meet
      case rel => exact ⟨_, (decide (a1 ≥ (wrap64 (8 * t127)))), (by first | rfl | (simp; done) | (simp [*]; done)), H', ⟨by first | omega | exact Nat.le_refl _⟩, ⟨by repeat (first | (with_reducible first | exact HB.out | apply below_alloc | apply pw_below_drewN | apply below_drew1) | exact HB.out)⟩⟩
  case rest =>
    clear HC4
    try clear c2
    try clear p2
    try clear c6
    try clear c6b0
    try clear p6
    obtain ⟨kq, x15_3, rfl, HA, HJ3, HB⟩ := hcut
    cases kq with
    | zero => exact absurd HA.out (by simp [sum_Bent.j0])
    | succ kj3 =>
      have H := HA.out
      clear HA
      simp only [sum_Bent.j0] at H
      by_cases c7 : x15_3 = true
      · subst c7
        have H1 : (some 0) = some r := by rw [if_pos rfl] at H; exact H
        clear H
        have H := H1
        clear H1
        obtain rfl := Option.some.inj H
        go_wp2
        go_ret
        exact ⟨by first | rfl | (simp [errW_none, errW_some] <;> rfl) | (simp [*, errW_none, errW_some] <;> rfl), by repeat (first | (with_reducible first | exact HB.out | apply below_alloc | apply pw_below_drewN | apply below_drew1) | exact HB.out)⟩
      · replace c7 := Bool.eq_false_iff.mpr c7
        subst c7
        have H1 : (if 0 ≤ (Int.tmod a1 8) then ((sum_feed.f 0 (([shl .u8 1 (Int.tmod a1 8)] : List Int))).bind fun t131 => ((sum_zeros.f t131 (wrap64 ((wrap64 (t127 - 1)) - (wrap64 (Int.tdiv a1 8))))).bind fun t132 => (some t132))) else (none)) = some r := by rw [if_neg (show ¬ (false = true) by decide)] at H; exact H
        clear H
        have H := H1
        clear H1
        obtain ⟨ji8, hji8⟩ : ∃ j_ : Int, (Int.tmod a1 8) = j_ := ⟨_, rfl⟩
        replace H : (if 0 ≤ (ji8) then ((sum_feed.f 0 (([shl .u8 1 (ji8)] : List Int))).bind fun t131 => ((sum_zeros.f t131 (wrap64 ((wrap64 (t127 - 1)) - (wrap64 (Int.tdiv a1 8))))).bind fun t132 => (some t132))) else (none)) = some r := by first | (rw [hji8] at H; exact H) | (simp only [hji8] at H ⊢; exact H)
        by_cases c9 : 0 ≤ (ji8)
        · rw [if_pos c9] at H
          have c9b0 := eq_true c9
          have c9b1 : decide (0 ≤ (ji8)) = true := decide_eq_true c9
          clear c9
          obtain ⟨ji10, hji10⟩ : ∃ j_ : Int, (shl .u8 1 (ji8)) = j_ := ⟨_, rfl⟩
          replace H : ((sum_feed.f 0 (([ji10] : List Int))).bind fun t131 => ((sum_zeros.f t131 (wrap64 ((wrap64 (t127 - 1)) - (wrap64 (Int.tdiv a1 8))))).bind fun t132 => (some t132))) = some r := by first | (rw [hji10] at H; exact H) | (simp only [hji10] at H ⊢; exact H)
          have hji10_ : (IntKind.u8.wrap (1 * 2 ^ min (ji8).toNat 8)) = ji10 := hji10
          have hji10z : (ji8) ≤ 8 → (IntKind.u8.wrap (1 * 2 ^ (ji8).toNat)) = ji10 := shl_small hji10
          have hji10u : (IntKind.u8.wrap (2 ^ min (ji8).toNat 8)) = ji10 := by have h_ := hji10_; rw [Int.one_mul] at h_; exact h_
          have hji10v : (ji8) ≤ 8 → (IntKind.u8.wrap (2 ^ (ji8).toNat)) = ji10 := fun hle_ => by have h_ := hji10z hle_; rw [Int.one_mul] at h_; exact h_
          obtain ⟨y128, hy128⟩ : ∃ y_ : List Int, y_ = (([ji10] : List Int)) := ⟨_, rfl⟩
          replace H : ((sum_feed.f 0 y128).bind fun t131 => ((sum_zeros.f t131 (wrap64 ((wrap64 (t127 - 1)) - (wrap64 (Int.tdiv a1 8))))).bind fun t132 => (some t132))) = some r := by first | (rw [hy128]; with_reducible exact H) | (have H2_ := (Option.bind_some _ _).symm.trans H; rw [hy128]; with_reducible exact H2_) | (have H2_ := (Option.bind_some _ _).symm.trans H; with_reducible exact H2_) | with_reducible exact H | (rw [hy128]; exact H) | exact H
          have Ny128 := Aside0.mk hy128
          clear hy128
          replace H := Option.bind_eq_some_iff.mp H
          obtain ⟨t131, A110, H⟩ := H
          replace H : ((sum_zeros.f t131 (wrap64 ((wrap64 (t127 - 1)) - (wrap64 (Int.tdiv a1 8))))).bind fun t132 => (some t132)) = some r := H
          have A11 := Aside0.mk A110
          clear A110
          replace H := Option.bind_eq_some_iff.mp H
          obtain ⟨t132, A120, H⟩ := H
          replace H : (some t132) = some r := H
          have A12 := Aside0.mk A120
          clear A120
          obtain rfl := Option.some.inj H
          go_wp2_with (first | ((with_reducible refine gate_dst (N := 19) rfl ?_); refine Kd.R_lit (Kd.int .u8) _ 5 ?hg (N := 19) ?hd (xs := ([ji10] : List Int)) (inner := [.int .u8 ji10]) (ok := fun _ => True) (okp := fun _ => True) ?hr ?hp (fun _ hk => hk) trivial (Below.refl _ _) (Nat.le_refl _) (by simp) ?_; (case hd => rfl); (case hg => rfl); (case hr => first | (go_simp; done) | (go_simp; rfl)); (case hp => exact (Reps.one (show Kd.M (Kd.int .u8) _ _ _ ji10 [.int .u8 ji10] from rfl) (Reps.none _ _))); intro v129 w13 ho14 hb hg_ hnew_; clear hg_ hnew_; (first | rw [← Ny128.out] at ho14 | (simp only [Int.reduceToNat] at ho14; rw [← Ny128.out] at ho14)); have n0_ := Aside0.mk (Kd.R_lower ho14 (below_size (by repeat (first | (with_reducible first | exact HB.out | apply below_alloc | apply pw_below_drewN | apply below_drew1) | exact HB.out)))); have n1_ := Aside0.mk (below_step (by repeat (first | (with_reducible first | exact HB.out | apply below_alloc | apply pw_below_drewN | apply below_drew1) | exact HB.out)) hb); clear HB; have HO130 := n0_; have HB := n1_; clear n0_ n1_; clear hb ho14; obtain ⟨Ao15, co15, eo15⟩ := Kd.R_slice HO130.out; subst eo15) | ((with_reducible refine gate_callee (f := 25) rfl ?_); refine goesL_ (some 20) rfl rfl Try.func25 (by kernel_rfl) rfl #[.int .u32 0, .slice Ao15 y128.length co15] rfl (by (try simp only [List.map_toArray, List.map_cons, List.map_nil]); first | done | rfl | (simp only [List.length_drop, List.length_take]; rfl)) ?_; (with_reducible refine (sum_feed.calls 0 _ _ y128 t131 _ ?side1 ?side2 A11.out).mono ?_); (case side1 => repeat (first | exact (Kd.R_reads' HO130.out).2.2 | (with_reducible refine Kd.C_alloc ?_ _) | (with_reducible refine Kd.C_drewN ?_ _) | (with_reducible refine Kd.C_drew ?_))); (case side2 => exact (Kd.R_reads' HO130.out).2.1); rintro e w16 ⟨rfl, hb⟩; refine ⟨_, rfl, ?_⟩; have n0_ := Aside0.mk (Kd.R_below (by (with_reducible repeat (first | apply Kd.R_alloc | apply Kd.R_drewN | apply Kd.R_drew)); exact HO130.out) hb); have n1_ := Aside0.mk (below_step (by repeat (first | (with_reducible first | exact HB.out | apply below_alloc | apply pw_below_drewN | apply below_drew1) | exact HB.out)) hb); clear HO130; clear HB; have HO130 := n0_; have HB := n1_; clear n0_ n1_; (try clear hb); (try clear hb2); (try clear hk); (try clear hi)) | ((with_reducible refine gate_callee (f := 27) rfl ?_); refine goesL_ (some 27) rfl rfl Try.func27 (by kernel_rfl) rfl #[.int .u32 t131, .int .i64 (wrap64 ((wrap64 (t127 - 1)) - (wrap64 (Int.tdiv a1 8))))] rfl (by (try simp only [List.map_toArray, List.map_cons, List.map_nil]); first | done | rfl | (simp only [List.length_drop, List.length_take]; rfl)) ?_; (with_reducible refine (sum_zeros.calls t131 (wrap64 ((wrap64 (t127 - 1)) - (wrap64 (Int.tdiv a1 8)))) t132 _ A12.out).mono ?_); rintro e w17 ⟨rfl, hb⟩; refine ⟨_, rfl, ?_⟩; have n0_ := Aside0.mk (Kd.R_below (by (with_reducible repeat (first | apply Kd.R_alloc | apply Kd.R_drewN | apply Kd.R_drew)); exact HO130.out) hb); have n1_ := Aside0.mk (below_step (by repeat (first | (with_reducible first | exact HB.out | apply below_alloc | apply pw_below_drewN | apply below_drew1) | exact HB.out)) hb); clear HO130; clear HB; have HO130 := n0_; have HB := n1_; clear n0_ n1_; (try clear hb); (try clear hb2); (try clear hk); (try clear hi)))
          go_ret
          exact ⟨by first | rfl | (simp [errW_none, errW_some] <;> rfl) | (simp only [← hji8, ← hji10]; first | rfl | (simp [errW_none, errW_some] <;> rfl)) | (simp [*, errW_none, errW_some] <;> rfl), by repeat (first | (with_reducible first | exact HB.out | apply below_alloc | apply pw_below_drewN | apply below_drew1) | exact HB.out)⟩
        · rw [if_neg c9] at H
          exact absurd H (by simp)

/-! ### lienref01_Bent: function 24 -/
mutual
def lienref01_Bent.j0 : Nat → Int → Int → Bool → Option (Int)
  | 0, _, _, _ => none
  | k + 1, x0, x1, x16 => if x16 = true then (some 0) else (if 0 ≤ (IntKind.u64.wrap (Int.tmod x1 8)) then ((lienref01_in.f k 0 (shl .u8 1 (IntKind.u64.wrap (Int.tmod x1 8)))).bind fun t134 => (lienref01_Bent.l0 k x0 t134 (wrap64 ((wrap64 (Int.tdiv x1 8)) + 1)))) else (none))
def lienref01_Bent.l0 : Nat → Int → Int → Int → Option (Int)
  | 0, _, _, _ => none
  | k + 1, x0, x5, x6 => if x6 < x0 then ((lienref01_in.f k x5 0).bind fun t135 => (lienref01_Bent.l0 k x0 t135 (wrap64 (x6 + 1)))) else (some x5)
end
def lienref01_Bent.f (k : Nat) (a0 : Int) (a1 : Int) : Option (Int) := (lienref01_Length.f a0).bind fun t133 => (if a1 < 0 then (lienref01_Bent.j0 k t133 a1 true) else (lienref01_Bent.j0 k t133 a1 (decide (a1 ≥ (wrap64 (8 * t133))))))
theorem lienref01_Bent.mono_l : ∀ k, (∀ y0 y1 y2, LeO (lienref01_Bent.j0 k y0 y1 y2) (lienref01_Bent.j0 (k + 1) y0 y1 y2)) ∧ (∀ y0 y1 y2, LeO (lienref01_Bent.l0 k y0 y1 y2) (lienref01_Bent.l0 (k + 1) y0 y1 y2))
  | 0 => ⟨fun _ _ _ r h => by simp [lienref01_Bent.j0] at h, fun _ _ _ r h => by simp [lienref01_Bent.l0] at h⟩
  | k + 1 => by
    obtain ⟨ih0, ih1⟩ := lienref01_Bent.mono_l k
    refine ⟨?_, ?_⟩
    · intro y0 y1 y2
      unfold lienref01_Bent.j0
      repeat' first
      | (with_reducible exact ih0 _ _ _)
      | (with_reducible exact ih1 _ _ _)
      | (with_reducible exact lienref01_in.mono _ _ _)
      | (with_reducible exact LeO.refl _)
      | (with_reducible exact LeO.none _)
      | (with_reducible refine LeO.ite ?_ ?_)
      | (with_reducible refine LeO.bind ?_ (fun _ => ?_))
      | exact ih0 _ _ _
      | exact ih1 _ _ _
      | exact lienref01_in.mono _ _ _
      | exact LeO.none _
      | refine LeO.ite ?_ ?_
      | refine LeO.bind ?_ (fun _ => ?_)
    · intro y0 y1 y2
      unfold lienref01_Bent.l0
      repeat' first
      | (with_reducible exact ih0 _ _ _)
      | (with_reducible exact ih1 _ _ _)
      | (with_reducible exact lienref01_in.mono _ _ _)
      | (with_reducible exact LeO.refl _)
      | (with_reducible exact LeO.none _)
      | (with_reducible refine LeO.ite ?_ ?_)
      | (with_reducible refine LeO.bind ?_ (fun _ => ?_))
      | exact ih0 _ _ _
      | exact ih1 _ _ _
      | exact lienref01_in.mono _ _ _
      | exact LeO.none _
      | refine LeO.ite ?_ ?_
      | refine LeO.bind ?_ (fun _ => ?_)
theorem lienref01_Bent.mono : ∀ a0 a1 k, LeO (lienref01_Bent.f k a0 a1) (lienref01_Bent.f (k + 1) a0 a1) := by
  intro a0 a1 k
  obtain ⟨ih0, ih1⟩ := lienref01_Bent.mono_l k
  unfold lienref01_Bent.f
  repeat' first
      | (with_reducible exact ih0 _ _ _)
      | (with_reducible exact ih1 _ _ _)
      | (with_reducible exact lienref01_in.mono _ _ _)
      | (with_reducible exact LeO.refl _)
      | (with_reducible exact LeO.none _)
      | (with_reducible refine LeO.ite ?_ ?_)
      | (with_reducible refine LeO.bind ?_ (fun _ => ?_))
      | exact ih0 _ _ _
      | exact ih1 _ _ _
      | exact lienref01_in.mono _ _ _
      | exact LeO.none _
      | refine LeO.ite ?_ ?_
      | refine LeO.bind ?_ (fun _ => ?_)
set_option maxHeartbeats 8000000 in
set_option maxRecDepth 100000 in
theorem lienref01_Bent.calls (k : Nat) (a0 : Int) (a1 : Int) (r : Int) (w : World) (h : lienref01_Bent.f k a0 a1 = some r) :
    Calls Try.prog 24 #[.int .i64 a0, .int .i64 a1] w fun e w' => e = .returned (.int .u32 r) ∧ Below w.heap.size w w' := by
  have HB := Aside0.mk (Below.refl w.heap.size w)
  have H : ((lienref01_Length.f a0).bind fun t133 => (if a1 < 0 then (lienref01_Bent.j0 k t133 a1 true) else (lienref01_Bent.j0 k t133 a1 (decide (a1 ≥ (wrap64 (8 * t133))))))) = some r := h
  clear h
  replace H := Option.bind_eq_some_iff.mp H
  obtain ⟨t133, A30, H⟩ := H
  replace H : (if a1 < 0 then (lienref01_Bent.j0 k t133 a1 true) else (lienref01_Bent.j0 k t133 a1 (decide (a1 ≥ (wrap64 (8 * t133)))))) = some r := H
  have A3 := Aside0.mk A30
  clear A30
  have HC4 := Aside0.mk H
  clear H
  go_enter Try.func24, Try.ntmps24
  go_upto_region 2 with (first | ((with_reducible refine gate_callee (f := 29) rfl ?_); refine goesL_ (some 8) rfl rfl Try.func29 (by kernel_rfl) rfl #[.int .i64 a0] rfl (by (try simp only [List.map_toArray, List.map_cons, List.map_nil]); first | done | rfl | (simp only [List.length_drop, List.length_take]; rfl)) ?_; (with_reducible refine (lienref01_Length.calls a0 t133 _ A3.out).mono ?_); rintro e w5 ⟨rfl, hb⟩; refine ⟨_, rfl, ?_⟩; have n0_ := Aside0.mk (below_step (by repeat (first | (with_reducible first | exact HB.out | apply below_alloc | apply pw_below_drewN | apply below_drew1) | exact HB.out)) hb); clear HB; have HB := n0_; clear n0_; (try clear hb); (try clear hb2); (try clear hk); (try clear hi)))
  (try simp only [Act.put, List.setIfInBounds_toArray, List.set_cons_zero, List.set_cons_succ])
  go_cut [16] (fun v16 wc => ∃ (kq : Nat) (x16_3 : Bool), v16 = .bool x16_3 ∧ Aside0 (lienref01_Bent.j0 kq t133 a1 x16_3 = some r) ∧ Aside0 (kq ≤ k) ∧ Aside0 (Below w.heap.size w wc))
  case first =>
    have H := HC4.out
    clear HC4
    by_cases c6 : a1 < 0
    · rw [if_pos c6] at H
      have c6b0 : decide (a1 < 0) = true := decide_eq_true c6
      clear c6
      (first | rw [c6b0] | (simp only [i64_w, i32_w]; rw [c6b0]) | skip)
      have H' := Aside0.mk H
      clear H
      go_wp2
      go_meet
      case rel => exact ⟨_, (true), (by first | rfl | (simp; done) | (simp [*]; done)), H', ⟨by first | omega | exact Nat.le_refl _⟩, ⟨by repeat (first | (with_reducible first | exact HB.out | apply below_alloc | apply pw_below_drewN | apply below_drew1) | exact HB.out)⟩⟩
    · rw [if_neg c6] at H
      have c6b0 : decide (a1 < 0) = false := decide_eq_false c6
      clear c6
      (first | rw [c6b0] | (simp only [i64_w, i32_w]; rw [c6b0]) | skip)
      have H' := Aside0.mk H
      clear H
      go_wp2
      go_meet
      case rel => exact ⟨_, (decide (a1 ≥ (wrap64 (8 * t133)))), (by first | rfl | (simp; done) | (simp [*]; done)), H', ⟨by first | omega | exact Nat.le_refl _⟩, ⟨by repeat (first | (with_reducible first | exact HB.out | apply below_alloc | apply pw_below_drewN | apply below_drew1) | exact HB.out)⟩⟩
  case rest =>
    clear HC4
    try clear c2
    try clear p2
    try clear c6
    try clear c6b0
    try clear p6
    obtain ⟨kq, x16_3, rfl, HA, HJ3, HB⟩ := hcut
    cases kq with
    | zero => exact absurd HA.out (by simp [lienref01_Bent.j0])
    | succ kj3 =>
      have H := HA.out
      clear HA
      simp only [lienref01_Bent.j0] at H
      by_cases c7 : x16_3 = true
      · subst c7
        have H1 : (some 0) = some r := by rw [if_pos rfl] at H; exact H
        clear H
        have H := H1
        clear H1
        obtain rfl := Option.some.inj H
        go_wp2
        go_ret
        exact ⟨by first | rfl | (simp [errW_none, errW_some] <;> rfl) | (simp [*, errW_none, errW_some] <;> rfl), by repeat (first | (with_reducible first | exact HB.out | apply below_alloc | apply pw_below_drewN | apply below_drew1) | exact HB.out)⟩
      · replace c7 := Bool.eq_false_iff.mpr c7
        subst c7
        have H1 : (if 0 ≤ (IntKind.u64.wrap (Int.tmod a1 8)) then ((lienref01_in.f kj3 0 (shl .u8 1 (IntKind.u64.wrap (Int.tmod a1 8)))).bind fun t134 => (lienref01_Bent.l0 kj3 t133 t134 (wrap64 ((wrap64 (Int.tdiv a1 8)) + 1)))) else (none)) = some r := by rw [if_neg (show ¬ (false = true) by decide)] at H; exact H
        clear H
        have H := H1
        clear H1
        obtain ⟨ji8, hji8⟩ : ∃ j_ : Int, (IntKind.u64.wrap (Int.tmod a1 8)) = j_ := ⟨_, rfl⟩
        replace H : (if 0 ≤ (ji8) then ((lienref01_in.f kj3 0 (shl .u8 1 (ji8))).bind fun t134 => (lienref01_Bent.l0 kj3 t133 t134 (wrap64 ((wrap64 (Int.tdiv a1 8)) + 1)))) else (none)) = some r := by first | (rw [hji8] at H; exact H) | (simp only [hji8] at H ⊢; exact H)
        by_cases c9 : 0 ≤ (ji8)
        · rw [if_pos c9] at H
          have c9b0 := eq_true c9
          have c9b1 : decide (0 ≤ (ji8)) = true := decide_eq_true c9
          clear c9
          obtain ⟨ji10, hji10⟩ : ∃ j_ : Int, (shl .u8 1 (ji8)) = j_ := ⟨_, rfl⟩
          replace H : ((lienref01_in.f kj3 0 (ji10)).bind fun t134 => (lienref01_Bent.l0 kj3 t133 t134 (wrap64 ((wrap64 (Int.tdiv a1 8)) + 1)))) = some r := by first | (rw [hji10] at H; exact H) | (simp only [hji10] at H ⊢; exact H)
          have hji10_ : (IntKind.u8.wrap (1 * 2 ^ min (ji8).toNat 8)) = ji10 := hji10
          have hji10z : (ji8) ≤ 8 → (IntKind.u8.wrap (1 * 2 ^ (ji8).toNat)) = ji10 := shl_small hji10
          have hji10u : (IntKind.u8.wrap (2 ^ min (ji8).toNat 8)) = ji10 := by have h_ := hji10_; rw [Int.one_mul] at h_; exact h_
          have hji10v : (ji8) ≤ 8 → (IntKind.u8.wrap (2 ^ (ji8).toNat)) = ji10 := fun hle_ => by have h_ := hji10z hle_; rw [Int.one_mul] at h_; exact h_
          replace H := Option.bind_eq_some_iff.mp H
          obtain ⟨t134, A110, H⟩ := H
          replace H : (lienref01_Bent.l0 kj3 t133 t134 (wrap64 ((wrap64 (Int.tdiv a1 8)) + 1))) = some r := H
          have A11 := Aside0.mk A110
          clear A110
          have H' := Aside0.mk H
          clear H
          go_wp2_with (first | ((with_reducible refine gate_callee (f := 26) rfl ?_); refine goesL_ (some 21) rfl rfl Try.func26 (by kernel_rfl) rfl #[.int .u32 0, .int .u8 ji10] rfl (by (try simp only [List.map_toArray, List.map_cons, List.map_nil]); first | done | (simp only [hji10]; rfl) | rfl | (simp only [List.length_drop, List.length_take]; rfl)) ?_; (with_reducible refine (lienref01_in.calls kj3 0 ji10 t134 _ A11.out).mono ?_); rintro e w' ⟨rfl, ⟨nd, rfl⟩⟩; refine ⟨_, rfl, ?_⟩))
          go_loopg [5, 6] kj3 (fun kq v5 v6 w' => ∃ (x5_2 : Int) (x6_2 : Int), v5 = .int .u32 x5_2 ∧ v6 = .int .i64 x6_2 ∧ Aside0 (lienref01_Bent.l0 kq t133 x5_2 x6_2 = some r) ∧ Aside0 (kq ≤ kj3) ∧ Aside0 (Below w.heap.size w w'))
          case atStart => exact ⟨(t134), (wrap64 ((wrap64 (Int.tdiv a1 8)) + 1)), (by first | rfl | (simp; done) | (simp [*]; done)), (by first | rfl | (simp; done) | (simp [*]; done)), H', ⟨Nat.le_refl _⟩, ⟨by repeat (first | (with_reducible first | exact HB.out | apply below_alloc | apply pw_below_drewN | apply below_drew1) | exact HB.out)⟩⟩
          case round =>
            clear H'
            try clear c2
            try clear p2
            try clear c6
            try clear c6b0
            try clear p6
            try clear c7
            try clear c9
            try clear c9b0
            try clear c9b1
            try clear p2
            try clear p6
            obtain ⟨x5_2, x6_2, rfl, rfl, HA, HK2, HB⟩ := hrel
            cases gk with
            | zero => exact absurd HA.out (by simp [lienref01_Bent.l0])
            | succ k2 =>
              have H := HA.out
              clear HA
              simp only [lienref01_Bent.l0] at H
              by_cases c12 : x6_2 < t133
              · rw [if_pos c12] at H
                have c12b0 : decide (x6_2 < t133) = true := decide_eq_true c12
                clear c12
                replace H := Option.bind_eq_some_iff.mp H
                obtain ⟨t135, A130, H⟩ := H
                replace H : (lienref01_Bent.l0 k2 t133 t135 (wrap64 (x6_2 + 1))) = some r := H
                have A13 := Aside0.mk A130
                clear A130
                have H' := Aside0.mk H
                clear H
                go_wp2_with (first | ((with_reducible refine gate_callee (f := 26) rfl ?_); refine goesL_ (some 31) rfl rfl Try.func26 (by kernel_rfl) rfl #[.int .u32 x5_2, .int .u8 0] rfl (by (try simp only [List.map_toArray, List.map_cons, List.map_nil]); first | done | rfl | (simp only [List.length_drop, List.length_take]; rfl)) ?_; (with_reducible refine (lienref01_in.calls k2 x5_2 0 t135 _ A13.out).mono ?_); rintro e w' ⟨rfl, ⟨nd, rfl⟩⟩; refine ⟨_, rfl, ?_⟩))
                go_roundg k2
                case measure => have := HJ3.out; have := HK2.out; omega
                case rel => exact ⟨(t135), (wrap64 (x6_2 + 1)), (by first | rfl | (simp; done) | (simp [*]; done)), (by first | rfl | (simp; done) | (simp [*]; done)), H', ⟨by have := HJ3.out; have := HK2.out; omega⟩, ⟨by repeat (first | (with_reducible first | exact HB.out | apply below_alloc | apply pw_below_drewN | apply below_drew1) | exact HB.out)⟩⟩
              · rw [if_neg c12] at H
                have c12b0 : decide (x6_2 < t133) = false := decide_eq_false c12
                clear c12
                obtain rfl := Option.some.inj H
                go_wp2
                go_ret
                exact ⟨by first | rfl | (simp [errW_none, errW_some] <;> rfl) | (simp only [← hji8, ← hji10]; first | rfl | (simp [errW_none, errW_some] <;> rfl)) | (simp [*, errW_none, errW_some] <;> rfl), by repeat (first | (with_reducible first | exact HB.out | apply below_alloc | apply pw_below_drewN | apply below_drew1) | exact HB.out)⟩
        · rw [if_neg c9] at H
          exact absurd H (by simp)

/-! ### lienlaw01_SumJoins: function 9 -/
def lienlaw01_SumJoins.f (k : Nat) (a0 : Int) (a1 : Int) (a2 : Int) (a3 : Int) : Option (Bool) := (sum_Join.f a0 a1 a2).bind fun t136 => ((lienref01_Join.f k a0 a1 a2).bind fun t137 => (if t136 = t137 then ((sum_Bent.f k a2 a3).bind fun t138 => ((lienref01_Bent.f k a2 a3).bind fun t139 => (if t138 = t139 then ((lienlaw01_awake.f).bind fun t140 => (some t140)) else (some false)))) else (some false)))
theorem lienlaw01_SumJoins.mono : ∀ a0 a1 a2 a3 k, LeO (lienlaw01_SumJoins.f k a0 a1 a2 a3) (lienlaw01_SumJoins.f (k + 1) a0 a1 a2 a3) := by
  intro a0 a1 a2 a3 k
  unfold lienlaw01_SumJoins.f
  repeat' first
      | (with_reducible exact lienref01_Bent.mono _ _ _)
      | (with_reducible exact lienref01_Join.mono _ _ _ _)
      | (with_reducible exact sum_Bent.mono _ _ _)
      | (with_reducible exact LeO.refl _)
      | (with_reducible exact LeO.none _)
      | (with_reducible refine LeO.ite ?_ ?_)
      | (with_reducible refine LeO.bind ?_ (fun _ => ?_))
      | exact lienref01_Bent.mono _ _ _
      | exact lienref01_Join.mono _ _ _ _
      | exact sum_Bent.mono _ _ _
      | exact LeO.none _
      | refine LeO.ite ?_ ?_
      | refine LeO.bind ?_ (fun _ => ?_)
set_option maxHeartbeats 8000000 in
set_option maxRecDepth 100000 in
theorem lienlaw01_SumJoins.calls (k : Nat) (a0 : Int) (a1 : Int) (a2 : Int) (a3 : Int) (r : Bool) (w : World) (h : lienlaw01_SumJoins.f k a0 a1 a2 a3 = some r) (hr_ : Aside0 (r = true)) :
    Calls Try.prog 9 #[.int .u32 a0, .int .u32 a1, .int .i64 a2, .int .i64 a3] w fun e w' => e = .returned (.bool r) ∧ Below w.heap.size w w' := by
  have HB := Aside0.mk (Below.refl w.heap.size w)
  have H : ((sum_Join.f a0 a1 a2).bind fun t136 => ((lienref01_Join.f k a0 a1 a2).bind fun t137 => (if t136 = t137 then ((sum_Bent.f k a2 a3).bind fun t138 => ((lienref01_Bent.f k a2 a3).bind fun t139 => (if t138 = t139 then ((lienlaw01_awake.f).bind fun t140 => (some t140)) else (some false)))) else (some false)))) = some r := h
  clear h
  replace H := Option.bind_eq_some_iff.mp H
  obtain ⟨t136, A50, H⟩ := H
  replace H : ((lienref01_Join.f k a0 a1 a2).bind fun t137 => (if t136 = t137 then ((sum_Bent.f k a2 a3).bind fun t138 => ((lienref01_Bent.f k a2 a3).bind fun t139 => (if t138 = t139 then ((lienlaw01_awake.f).bind fun t140 => (some t140)) else (some false)))) else (some false))) = some r := H
  have A5 := Aside0.mk A50
  clear A50
  replace H := Option.bind_eq_some_iff.mp H
  obtain ⟨t137, A60, H⟩ := H
  replace H : (if t136 = t137 then ((sum_Bent.f k a2 a3).bind fun t138 => ((lienref01_Bent.f k a2 a3).bind fun t139 => (if t138 = t139 then ((lienlaw01_awake.f).bind fun t140 => (some t140)) else (some false)))) else (some false)) = some r := H
  have A6 := Aside0.mk A60
  clear A60
  by_cases c7 : t136 = t137
  · rw [if_pos c7] at H
    have c7b0 : (t136 == t137) = true := beq_iff_eq.mpr c7
    have c7b1 : (t136 != t137) = false := bne_eq_false_iff_eq.mpr c7
    clear c7
    replace H := Option.bind_eq_some_iff.mp H
    obtain ⟨t138, A80, H⟩ := H
    replace H : ((lienref01_Bent.f k a2 a3).bind fun t139 => (if t138 = t139 then ((lienlaw01_awake.f).bind fun t140 => (some t140)) else (some false))) = some r := H
    have A8 := Aside0.mk A80
    clear A80
    replace H := Option.bind_eq_some_iff.mp H
    obtain ⟨t139, A90, H⟩ := H
    replace H : (if t138 = t139 then ((lienlaw01_awake.f).bind fun t140 => (some t140)) else (some false)) = some r := H
    have A9 := Aside0.mk A90
    clear A90
    by_cases c10 : t138 = t139
    · rw [if_pos c10] at H
      have c10b0 : (t138 == t139) = true := beq_iff_eq.mpr c10
      have c10b1 : (t138 != t139) = false := bne_eq_false_iff_eq.mpr c10
      clear c10
      replace H := Option.bind_eq_some_iff.mp H
      obtain ⟨t140, A110, H⟩ := H
      replace H : (some t140) = some r := H
      have A11 := Aside0.mk A110
      clear A110
      obtain rfl := Option.some.inj H
      go_enter Try.func9, Try.ntmps9
      go_wp2_with (first | ((with_reducible refine gate_callee (f := 21) rfl ?_); refine goesL_ (some 12) rfl rfl Try.func21 (by kernel_rfl) rfl #[.int .u32 a0, .int .u32 a1, .int .i64 a2] rfl (by (try simp only [List.map_toArray, List.map_cons, List.map_nil]); first | done | rfl | (simp only [List.length_drop, List.length_take]; rfl)) ?_; (with_reducible refine (sum_Join.calls a0 a1 a2 t136 _ A5.out).mono ?_); rintro e w12 ⟨rfl, hb⟩; refine ⟨_, rfl, ?_⟩; have n0_ := Aside0.mk (below_step (by repeat (first | (with_reducible first | exact HB.out | apply below_alloc | apply pw_below_drewN | apply below_drew1) | exact HB.out)) hb); clear HB; have HB := n0_; clear n0_; (try clear hb); (try clear hb2); (try clear hk); (try clear hi)) | ((with_reducible refine gate_callee (f := 22) rfl ?_); refine goesL_ (some 16) rfl rfl Try.func22 (by kernel_rfl) rfl #[.int .u32 a0, .int .u32 a1, .int .i64 a2] rfl (by (try simp only [List.map_toArray, List.map_cons, List.map_nil]); first | done | rfl | (simp only [List.length_drop, List.length_take]; rfl)) ?_; (with_reducible refine (lienref01_Join.calls k a0 a1 a2 t137 _ A6.out).mono ?_); rintro e w13 ⟨rfl, hb⟩; refine ⟨_, rfl, ?_⟩; have n0_ := Aside0.mk (below_step (by repeat (first | (with_reducible first | exact HB.out | apply below_alloc | apply pw_below_drewN | apply below_drew1) | exact HB.out)) hb); clear HB; have HB := n0_; clear n0_; (try clear hb); (try clear hb2); (try clear hk); (try clear hi)) | (go_at_call 23; (with_reducible refine (sum_Bent.calls k a2 a3 t138 _ A8.out).mono ?_); rintro e w14 ⟨rfl, hb⟩; have n0_ := Aside0.mk (below_step (by repeat (first | (with_reducible first | exact HB.out | apply below_alloc | apply pw_below_drewN | apply below_drew1) | exact HB.out)) hb); clear HB; have HB := n0_; clear n0_; (try clear hb); (try clear hb2); (try clear hk); (try clear hi)) | (go_at_call 24; (with_reducible refine (lienref01_Bent.calls k a2 a3 t139 _ A9.out).mono ?_); rintro e w15 ⟨rfl, hb⟩; have n0_ := Aside0.mk (below_step (by repeat (first | (with_reducible first | exact HB.out | apply below_alloc | apply pw_below_drewN | apply below_drew1) | exact HB.out)) hb); clear HB; have HB := n0_; clear n0_; (try clear hb); (try clear hb2); (try clear hk); (try clear hi)) | (go_at_call 16; (with_reducible refine (lienlaw01_awake.calls  t140 _ A11.out).mono ?_); rintro e w16 ⟨rfl, hb⟩; have n0_ := Aside0.mk (below_step (by repeat (first | (with_reducible first | exact HB.out | apply below_alloc | apply pw_below_drewN | apply below_drew1) | exact HB.out)) hb); clear HB; have HB := n0_; clear n0_; (try clear hb); (try clear hb2); (try clear hk); (try clear hi)))
      go_ret
      exact ⟨by first | rfl | (simp [errW_none, errW_some] <;> rfl) | (simp [*, errW_none, errW_some] <;> rfl), by repeat (first | (with_reducible first | exact HB.out | apply below_alloc | apply pw_below_drewN | apply below_drew1) | exact HB.out)⟩
    · rw [if_neg c10] at H
      have c10b0 : (t138 == t139) = false := beq_eq_false_iff_ne.mpr c10
      have c10b1 : (t138 != t139) = true := bne_iff_ne.mpr c10
      exact absurd ((Option.some.inj H).trans hr_.out) (by decide)
  · rw [if_neg c7] at H
    have c7b0 : (t136 == t137) = false := beq_eq_false_iff_ne.mpr c7
    have c7b1 : (t136 != t137) = true := bne_iff_ne.mpr c7
    exact absurd ((Option.some.inj H).trans hr_.out) (by decide)

/-- THE ONE PURE STATEMENT of lienlaw01_SumJoins: yours. -/
def lienlaw01_SumJoins.Pure : Prop := ∀ (a0 : Int) (a1 : Int) (a2 : Int) (a3 : Int), (Lit.int .u32 a0).wf = true → (Lit.int .u32 a1).wf = true → (Lit.int .i64 a2).wf = true → (Lit.int .i64 a3).wf = true → ∃ k, lienlaw01_SumJoins.f k a0 a1 a2 a3 = some true
theorem lienlaw01_SumJoins.walk (P : lienlaw01_SumJoins.Pure) (a0 : Int) (a1 : Int) (a2 : Int) (a3 : Int) (w : World) (w0 : (Lit.int .u32 a0).wf = true) (w1 : (Lit.int .u32 a1).wf = true) (w2 : (Lit.int .i64 a2).wf = true) (w3 : (Lit.int .i64 a3).wf = true) :
    Calls Try.prog 9 #[.int .u32 a0, .int .u32 a1, .int .i64 a2, .int .i64 a3] w fun e w' => e = .returned (.bool true) ∧ Below w.heap.size w w' := by
  obtain ⟨k, h⟩ := P a0 a1 a2 a3 w0 w1 w2 w3
  refine (lienlaw01_SumJoins.calls k a0 a1 a2 a3 true w h ⟨rfl⟩).mono ?_
  rintro e w' ⟨rfl, hd⟩
  exact ⟨rfl, hd⟩

end Go.Proofs.Ythpclknekfjnkaa.PSumJoins
