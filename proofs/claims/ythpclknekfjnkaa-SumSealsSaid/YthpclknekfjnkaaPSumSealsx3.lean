-- Written by wip/xprint of this repo (our own program) out of the translation; what is marked BY HAND is ours. Not trusted: Lean checks it.
import Derived.Test.YthpclknekfjnkaaPSumSealsx0
import Derived.Test.YthpclknekfjnkaaPSumSealsx1
import Derived.Test.YthpclknekfjnkaaPSumSealsx2
namespace Go.Proofs.Ythpclknekfjnkaa.PSumSeals
open Go.RowKit Go.Proofs.YthpclknekfjnkaaW.PrintWords Go.Proofs.YthpclknekfjnkaaW.PrintLast Go.Proofs.YthpclknekfjnkaaW.PrintMore
attribute [local go_sem] max2_int min2_int max_two min_two max_three min_three max_four min_four   -- for this text's walks alone
set_option linter.unusedVariables false
set_option linter.unusedSimpArgs false

/-! ### sum_zeros: function 27 -/
-- BY HAND

def sum_zeros.f (a0 a1 : Int) : Option Int := if (u32ok a0 && decide (0 ≤ a1 ∧ a1 ≤ 1048576)) = true then some ((stn (8 * a1.toNat) a0.toNat : Nat) : Int) else none
set_option maxHeartbeats 8000000 in
set_option maxRecDepth 100000 in
theorem sum_zeros.calls (a0 : Int) (a1 : Int) (r : Int) (w : World) (h : sum_zeros.f a0 a1 = some r) :
    Calls Try.prog 27 #[.int .u32 a0, .int .i64 a1] w fun e w' => e = .returned (.int .u32 r) ∧ Below w.heap.size w w' := by
  have hu50 := Try.underlying50
  unfold sum_zeros.f at h
  by_cases hk : (u32ok a0 && decide (0 ≤ a1 ∧ a1 ≤ 1048576)) = true
  case neg => rw [if_neg hk] at h; cases h
  rw [if_pos hk] at h
  obtain rfl := Option.some.inj h
  clear h
  rw [Bool.and_eq_true, decide_eq_true_eq] at hk
  obtain ⟨hk1, hk2⟩ := hk
  obtain ⟨n0, rfl, hn0⟩ := u32ok_nat hk1
  obtain ⟨n, rfl⟩ : ∃ n : Nat, a1 = (n : Int) := ⟨a1.toNat, by omega⟩
  rw [Int.toNat_natCast, Int.toNat_natCast]
  have hnm : n ≤ 1048576 := by omega
  have HNM := Aside0.mk hnm
  clear hk1 hk2 hnm
  obtain ⟨R, hR⟩ : ∃ R, stn (8 * n) n0 = R := ⟨_, rfl⟩
  rw [hR]
  have HR0 := Aside0.mk hR
  have HN0 := Aside0.mk hn0
  clear hR hn0
  have HB := Aside0.mk (Below.refl w.heap.size w)
  go_enter Try.func27, Try.ntmps27
  go_wp2_with (first | ((with_reducible refine gate_dst (N := 5) rfl ?_); (try (refine gate_guard (by rfl) ?_; dsimp only)); refine box_event ?hg (N := 5) ?hd (cs := gridTab 1 0) (t := 50) ?hr ?_; (case hd => rfl); (case hg => rfl); (case hr => first | (go_simp; done) | (go_simp; rfl)); intro g5 hg w1 hbox hb; have m0 := Aside0.mk (below_step (by repeat (first | (with_reducible first | exact HB.out | apply below_alloc | apply pw_below_drewN | apply below_drew1) | exact HB.out)) hb); have m1 := Aside0.mk hbox; have m2 := Aside0.mk ((by rw [hg]; exact (below_size (by repeat (first | (with_reducible first | exact HB.out | apply below_alloc | apply pw_below_drewN | apply below_drew1) | exact HB.out))) : w.heap.size ≤ g5)); clear HB ; have HB := m0; have B5 := m1; have G5 := m2; clear m0 m1 m2; clear hb hbox hg) | ((with_reducible refine gate_store (t := 50) (p := 5) rfl ?_); refine wpList_store_row rfl 50 _ _ rfl g5 (gridTab 1 1) rfl (by rfl) 50 (gridTab 1 0) B5.out (by rw [gridTab_size]; rfl) (by rw [gridTab_size, gridTab_size]) (gridTab_one 1 1) ?_))
  have B6 := Aside0.mk (setRow_heap w1 g5 (gridTab 1 0) (gridTab 1 1) 50 (0, 0) B5.out)
  have HB6 := Aside0.mk (sm_below_setRow HB.out G5.out (gridTab 1 1))
  clear HB B5
  generalize w1.setRow g5 (gridTab 1 1) = w6 at B6 HB6 ⊢
  go_loopg [6] 31 (fun kq v6 w' => ∃ (i : Nat), v6 = .int .i64 (i : Int) ∧ Aside0 (kq + i = 32) ∧ Aside0 (1 ≤ i) ∧ Aside0 (w'.heap[g5]? = some (.cells (gridTab 1 i) 50 (0, 0))) ∧ Aside0 (Below w.heap.size w w'))
  case atStart => exact ⟨1, rfl, ⟨rfl⟩, ⟨Nat.le_refl _⟩, B6, HB6⟩
  case round =>
    clear B6 HB6
    obtain ⟨i, rfl, HK, H1, B5, HB⟩ := hrel
    cases gk with
    | succ d =>
      have hi : i < 32 := by have := HK.out; omega
      have h1 := H1.out
      have hib : decide ((i : Int) < 32) = true := decide_eq_true (by omega)
      have hib' : decide (i < 32) = true := decide_eq_true hi
      have hc3 := blk_cell B5.out i
      rw [gridTab_at 1 i i hi, if_neg (Nat.lt_irrefl i)] at hc3
      have hf3 := blk_frozen B5.out i
      have hsub : ((i : Int) - 1) = ((i - 1 : Nat) : Int) := by omega
      have hpw : (2 : Int) ^ (i - 1) % 4294967296 = ((stn 1 (2 ^ i) : Nat) : Int) := by
        rw [stn_one_pow i h1]
        have h9 : 2 ^ (i - 1) < 4294967296 := Nat.pow_lt_pow_right (show 1 < 2 by decide) (show i - 1 < 32 by omega)
        have e : ((2 ^ (i - 1) : Nat) : Int) = (2 : Int) ^ (i - 1) := by simp
        rw [← e]
        generalize 2 ^ (i - 1) = q at h9
        omega
      go_wp2
      go_roundg d
      case measure => omega
      case rel => exact ⟨i + 1, by first | rfl | (rw [show wrap64 ((i : Int) + 1) = ((i + 1 : Nat) : Int) from by unfold wrap64; omega]), ⟨by have := HK.out; omega⟩, ⟨by omega⟩, ⟨by rw [← gridTab_put 1 i hi]; exact blk_set B5.out i _⟩, ⟨below_set HB.out G5.out⟩⟩
    | zero =>
      have ei : i = 32 := by have := HK.out; omega
      subst ei
      go_wp2
      go_loopg [17] 3 (fun kq v17 w' => ∃ (t m : Nat), v17 = .int .i64 (t : Int) ∧ Aside0 (kq + t = 3) ∧ Aside0 (m = 2 ^ t) ∧ Aside0 (w'.heap[g5]? = some (.cells (gridTab m 32) 50 (0, 0))) ∧ Aside0 (Below w.heap.size w w'))
      case atStart => exact ⟨0, 1, rfl, ⟨rfl⟩, ⟨rfl⟩, B5, HB⟩
      case round =>
        clear B5 HB
        obtain ⟨t, m, rfl, HT, HM, B5, HB⟩ := hrel
        cases gk with
        | succ d =>
          have ht : t < 3 := by have := HT.out; omega
          have htb : decide ((t : Int) < 3) = true := decide_eq_true (by omega)
          have htb' : decide (t < 3) = true := decide_eq_true ht
          go_wp2_with (first | ((with_reducible refine gate_callee (f := 32) rfl ?_); refine goesL_ (some 19) rfl rfl Try.func32 (by kernel_rfl) rfl #[.pointer (some ⟨g5, 0, none⟩)] rfl (by (try simp only [List.map_toArray, List.map_cons, List.map_nil]); first | done | rfl) ?_; (refine (sm_twice m g5 _ B5.out).mono ?_); rintro e w5 ⟨rfl, hb⟩; refine ⟨_, rfl, ?_⟩; have m0 := Aside0.mk (below_step (by repeat (first | (with_reducible first | exact HB.out | apply below_alloc | apply pw_below_drewN | apply below_drew1 | refine below_set ?_ G5.out) | exact HB.out)) hb); have m1 := Aside0.mk (blk_below (g := g5) (o := .cells (gridTab m 32) 50 (0, 0)) B5.out hb); clear HB B5 hb; have HB := m0; have B5 := m1; clear m0 m1) | ((with_reducible refine gate_store (t := 50) (p := 5) rfl ?_); refine wpList_store_row rfl 50 _ _ rfl g5 (gridTab (m + m) 32) rfl rfl 50 (gridTab m 32) B5.out (by rw [gridTab_size]; rfl) (by rw [gridTab_size, gridTab_size]) (gridTab_one _ 32) ?_))
          go_roundg d
          case measure => omega
          case rel => exact ⟨t + 1, m + m, by first | rfl | (rw [show wrap64 ((t : Int) + 1) = ((t + 1 : Nat) : Int) from by unfold wrap64; omega]), ⟨by have := HT.out; omega⟩, ⟨by rw [Nat.pow_succ, ← HM.out]; omega⟩, ⟨setRow_heap _ g5 _ _ _ _ B5.out⟩, ⟨sm_below_setRow HB.out G5.out _⟩⟩
        | zero =>
          have et : t = 3 := by have := HT.out; omega
          subst et
          have hm8 : m = 8 := HM.out
          subst hm8
          clear HM
          go_wp2
          go_loopg [0, 1] n (fun kq v0 v1 w' => ∃ (a m : Nat), v0 = .int .u32 (a : Int) ∧ v1 = .int .i64 (kq : Int) ∧ Aside0 (a < 2 ^ 32) ∧ Aside0 (kq ≤ 1048576) ∧ Aside0 (stn (m * kq) a = R) ∧ Aside0 (w'.heap[g5]? = some (.cells (gridTab m 32) 50 (0, 0))) ∧ Aside0 (Below w.heap.size w w'))
          case atStart => exact ⟨n0, 8, rfl, rfl, HN0, HNM, HR0, B5, HB⟩
          case round =>
            clear B5 HB HR0 HN0 HNM
            obtain ⟨a, m, rfl, rfl, HA, HQ, HS, B5, HB⟩ := hrel
            cases gk with
            | zero =>
              have hs := HS.out
              rw [Nat.mul_zero] at hs
              have hs' : a = R := hs
              subst hs'
              clear hs HS
              go_wp2
              go_ret
              exact ⟨rfl, HB.out⟩
            | succ d =>
              obtain ⟨e, he⟩ : ∃ e, d + 1 = e := ⟨_, rfl⟩
              have he0 : 0 < e := by omega
              have hlt : e / 2 < d + 1 := by omega
              have hq := HQ.out
              have hs := HS.out
              rw [he] at hq hs ⊢
              have HE := Aside0.mk he
              clear HQ HS he
              have hpos : decide ((0 : Int) < (e : Int)) = true := decide_eq_true (by omega)
              have hpos' : decide (0 < e) = true := decide_eq_true he0
              have hand := i64_and1 (a := e) (by omega)
              rcases (show e % 2 = 1 ∨ e % 2 = 0 by omega) with h2 | h2
              · rw [h2] at hand
                have hand' : Go.bits .and .i64 (e : Int) 1 = 1 := hand
                clear hand
                rw [odd_mul m e h2, stn_add] at hs
                have HS := Aside0.mk hs
                clear hs
                go_wp2_with (first | ((with_reducible refine gate_callee (f := 33) rfl ?_); refine goesL_ (some 29) rfl rfl Try.func33 (by kernel_rfl) rfl #[.pointer (some ⟨g5, 0, none⟩), .int .u32 (a : Int)] rfl (by (try simp only [List.map_toArray, List.map_cons, List.map_nil]); first | done | rfl) ?_; (refine (sm_of m g5 a _ B5.out HA.out).mono ?_); rintro e w5 ⟨rfl, rfl⟩; refine ⟨_, rfl, ?_⟩) | ((with_reducible refine gate_callee (f := 32) rfl ?_); refine goesL_ (some 30) rfl rfl Try.func32 (by kernel_rfl) rfl #[.pointer (some ⟨g5, 0, none⟩)] rfl (by (try simp only [List.map_toArray, List.map_cons, List.map_nil]); first | done | rfl) ?_; (refine (sm_twice m g5 _ B5.out).mono ?_); rintro e w5 ⟨rfl, hb⟩; refine ⟨_, rfl, ?_⟩; have m0 := Aside0.mk (below_step (by repeat (first | (with_reducible first | exact HB.out | apply below_alloc | apply pw_below_drewN | apply below_drew1 | refine below_set ?_ G5.out) | exact HB.out)) hb); have m1 := Aside0.mk (blk_below (g := g5) (o := .cells (gridTab m 32) 50 (0, 0)) B5.out hb); clear HB B5 hb; have HB := m0; have B5 := m1; clear m0 m1) | ((with_reducible refine gate_store (t := 50) (p := 5) rfl ?_); refine wpList_store_row rfl 50 _ _ rfl g5 (gridTab (m + m) 32) rfl rfl 50 (gridTab m 32) B5.out (by rw [gridTab_size]; rfl) (by rw [gridTab_size, gridTab_size]) (gridTab_one _ 32) ?_))
                rw [← HE.out]
                go_roundg (e / 2)
                case measure => exact hlt
                case rel => exact ⟨stn m a, m + m, rfl, by first | rfl | (rw [show ((d + 1 : Nat) : Int) / 2 = ((e / 2 : Nat) : Int) by have := HE.out; omega]), ⟨stn_lt m HA.out⟩, ⟨by omega⟩, HS, ⟨setRow_heap _ g5 _ _ _ _ B5.out⟩, ⟨sm_below_setRow HB.out G5.out _⟩⟩
              · rw [h2] at hand
                have hand' : Go.bits .and .i64 (e : Int) 1 = 0 := hand
                clear hand
                rw [even_mul m e h2] at hs
                have HS := Aside0.mk hs
                clear hs
                go_wp2_with (first | ((with_reducible refine gate_callee (f := 32) rfl ?_); refine goesL_ (some 30) rfl rfl Try.func32 (by kernel_rfl) rfl #[.pointer (some ⟨g5, 0, none⟩)] rfl (by (try simp only [List.map_toArray, List.map_cons, List.map_nil]); first | done | rfl) ?_; (refine (sm_twice m g5 _ B5.out).mono ?_); rintro e w5 ⟨rfl, hb⟩; refine ⟨_, rfl, ?_⟩; have m0 := Aside0.mk (below_step (by repeat (first | (with_reducible first | exact HB.out | apply below_alloc | apply pw_below_drewN | apply below_drew1 | refine below_set ?_ G5.out) | exact HB.out)) hb); have m1 := Aside0.mk (blk_below (g := g5) (o := .cells (gridTab m 32) 50 (0, 0)) B5.out hb); clear HB B5 hb; have HB := m0; have B5 := m1; clear m0 m1) | ((with_reducible refine gate_store (t := 50) (p := 5) rfl ?_); refine wpList_store_row rfl 50 _ _ rfl g5 (gridTab (m + m) 32) rfl rfl 50 (gridTab m 32) B5.out (by rw [gridTab_size]; rfl) (by rw [gridTab_size, gridTab_size]) (gridTab_one _ 32) ?_))
                rw [← HE.out]
                go_roundg (e / 2)
                case measure => exact hlt
                case rel => exact ⟨a, m + m, rfl, by first | rfl | (rw [show ((d + 1 : Nat) : Int) / 2 = ((e / 2 : Nat) : Int) by have := HE.out; omega]), HA, ⟨by omega⟩, HS, ⟨setRow_heap _ g5 _ _ _ _ B5.out⟩, ⟨sm_below_setRow HB.out G5.out _⟩⟩

/-! ### sum_length: function 28 -/
def sum_length.f (a0 : Int) : Option (Int) := some (mn (mx a0 0) 1048576)
set_option maxHeartbeats 8000000 in
set_option maxRecDepth 100000 in
theorem sum_length.calls (a0 : Int) (r : Int) (w : World) (h : sum_length.f a0 = some r) :
    Calls Try.prog 28 #[.int .i64 a0] w fun e w' => e = .returned (.int .i64 r) ∧ Below w.heap.size w w' := by
  have HB := Aside0.mk (Below.refl w.heap.size w)
  have H : (some (mn (mx a0 0) 1048576)) = some r := h
  clear h
  obtain ⟨ji2, hji2⟩ : ∃ j_ : Int, (mx a0 0) = j_ := ⟨_, rfl⟩
  replace H : (some (mn (ji2) 1048576)) = some r := by first | (rw [hji2] at H; exact H) | (simp only [hji2] at H ⊢; exact H)
  (try (have hji2l : 0 ≤ ji2 := by (rw [← hji2]; unfold mx; (repeat' split) <;> omega)))
  (try (have hji2m : 0 ≤ ji2 := by omega))
  have hji2_ : (if a0 < 0 then 0 else a0) = ji2 := hji2
  obtain ⟨ji3, hji3⟩ : ∃ j_ : Int, (mn (ji2) 1048576) = j_ := ⟨_, rfl⟩
  replace H : (some ji3) = some r := by first | (rw [hji3] at H; exact H) | (simp only [hji3] at H ⊢; exact H)
  have hji3_ : (if 1048576 < (ji2) then 1048576 else (ji2)) = ji3 := hji3
  obtain rfl := Option.some.inj H
  go_enter Try.func28, Try.ntmps28
  go_wp2
  go_ret
  exact ⟨by first | rfl | (simp [errW_none, errW_some] <;> rfl) | (simp only [← hji2, ← hji3]; first | rfl | (simp [errW_none, errW_some] <;> rfl)) | (simp [*, errW_none, errW_some] <;> rfl), by repeat (first | (with_reducible first | exact HB.out | apply below_alloc | apply pw_below_drewN | apply below_drew1) | exact HB.out)⟩

/-! ### sum_Join: function 21 -/
def sum_Join.f (a0 : Int) (a1 : Int) (a2 : Int) : Option (Int) := (sum_length.f a2).bind fun t154 => ((sum_zeros.f a0 t154).bind fun t155 => (some (Go.bits .xor .u32 t155 a1)))
set_option maxHeartbeats 8000000 in
set_option maxRecDepth 100000 in
theorem sum_Join.calls (a0 : Int) (a1 : Int) (a2 : Int) (r : Int) (w : World) (h : sum_Join.f a0 a1 a2 = some r) :
    Calls Try.prog 21 #[.int .u32 a0, .int .u32 a1, .int .i64 a2] w fun e w' => e = .returned (.int .u32 r) ∧ Below w.heap.size w w' := by
  have HB := Aside0.mk (Below.refl w.heap.size w)
  have H : ((sum_length.f a2).bind fun t154 => ((sum_zeros.f a0 t154).bind fun t155 => (some (Go.bits .xor .u32 t155 a1)))) = some r := h
  clear h
  replace H := Option.bind_eq_some_iff.mp H
  obtain ⟨t154, A40, H⟩ := H
  replace H : ((sum_zeros.f a0 t154).bind fun t155 => (some (Go.bits .xor .u32 t155 a1))) = some r := H
  have A4 := Aside0.mk A40
  clear A40
  replace H := Option.bind_eq_some_iff.mp H
  obtain ⟨t155, A50, H⟩ := H
  replace H : (some (Go.bits .xor .u32 t155 a1)) = some r := H
  have A5 := Aside0.mk A50
  clear A50
  obtain rfl := Option.some.inj H
  go_enter Try.func21, Try.ntmps21
  go_wp2_with (first | ((with_reducible refine gate_callee (f := 28) rfl ?_); refine goesL_ (some 9) rfl rfl Try.func28 (by kernel_rfl) rfl #[.int .i64 a2] rfl (by (try simp only [List.map_toArray, List.map_cons, List.map_nil]); first | done | rfl | (simp only [List.length_drop, List.length_take]; rfl)) ?_; (with_reducible refine (sum_length.calls a2 t154 _ A4.out).mono ?_); rintro e w6 ⟨rfl, hb⟩; refine ⟨_, rfl, ?_⟩; have n0_ := Aside0.mk (below_step (by repeat (first | (with_reducible first | exact HB.out | apply below_alloc | apply pw_below_drewN | apply below_drew1) | exact HB.out)) hb); clear HB; have HB := n0_; clear n0_; (try clear hb); (try clear hb2); (try clear hk); (try clear hi)) | ((with_reducible refine gate_callee (f := 27) rfl ?_); refine goesL_ (some 10) rfl rfl Try.func27 (by kernel_rfl) rfl #[.int .u32 a0, .int .i64 t154] rfl (by (try simp only [List.map_toArray, List.map_cons, List.map_nil]); first | done | rfl | (simp only [List.length_drop, List.length_take]; rfl)) ?_; (with_reducible refine (sum_zeros.calls a0 t154 t155 _ A5.out).mono ?_); rintro e w7 ⟨rfl, hb⟩; refine ⟨_, rfl, ?_⟩; have n0_ := Aside0.mk (below_step (by repeat (first | (with_reducible first | exact HB.out | apply below_alloc | apply pw_below_drewN | apply below_drew1) | exact HB.out)) hb); clear HB; have HB := n0_; clear n0_; (try clear hb); (try clear hb2); (try clear hk); (try clear hi)))
  go_ret
  exact ⟨by first | rfl | (simp [errW_none, errW_some] <;> rfl) | (simp [*, errW_none, errW_some] <;> rfl), by repeat (first | (with_reducible first | exact HB.out | apply below_alloc | apply pw_below_drewN | apply below_drew1) | exact HB.out)⟩

/-! ### ours: sm_conv -/
theorem sm_below_freeze {w W : World} {g : Nat} (h : Below w.heap.size w W) (hg : w.heap.size ≤ g) (k n : Nat) : Below w.heap.size w (W.freeze ⟨g, k, none⟩ n) := by
  unfold World.freeze
  split
  · exact h
  · refine ⟨h.os, h.tape, h.output, by simpa using h.size, fun j hj => ?_⟩
    rw [← h.block j hj]
    simp only [Array.getElem?_modify]
    rw [if_neg (by show ¬ g = j; omega)]
theorem sm_cell_freeze (W : World) (g k n : Nat) (a : Addr) : (W.freeze ⟨g, k, none⟩ n).cell? a = W.cell? a := by
  unfold World.freeze
  split
  · rfl
  · unfold World.cell?
    simp only [Array.getElem?_modify]
    by_cases c : g = a.block
    · subst c
      cases W.heap[a.block]? with
      | none => simp
      | some o => cases o <;> simp
    · simp [c]
theorem sm_conv {W : World} {g n c : Nat} {cs : Array Value} (hg : W.heap[g]? = some (.cells cs 5 (0, 0))) :
    (convert 22 22 (.slice (some ⟨g, 0, none⟩) n c)).run Try.prog W = .ok (.slice (some ⟨g, 0, none⟩) n c) (W.freeze ⟨g, cs.size, none⟩ 1) := by
  have hsh : W.shape? g = some (5, cs.size) := by unfold World.shape?; rw [hg]
  simp [convert, run_underlying Try.underlying22, run_underlying Try.underlying5, markStringish, hsh]
/-- A row made of numbers, turned into its own type: what stands there may still be read. -/
theorem sm_conv_event {P : Program} {ops : Array Oper} {rest : List Oper} {o : Oper} {a : Act} {Q : Exit → Act → World → Prop} {w W : World} {ok : Nat → Prop} {A : Option Addr} {xs : List Int} {c : Nat} (hgd : o.guard = none) (HB : Below w.heap.size w W)
    (HR : (Kd.int .u8).R 5 W w.heap.size ok (.slice A xs.length c) xs) (hp : 0 < xs.length)
    (hrun : ∀ W', (convert 22 22 (.slice A xs.length c)).run P W = .ok (.slice A xs.length c) W' → (execOp a.eval o).run P W = .ok (.value (.slice A xs.length c)) W') (hP : P = Try.prog)
    (h : ∀ W', Below w.heap.size w W' → Kd.C (Kd.int .u8) W' A xs.length xs → (∀ A' n' ys, Kd.C (Kd.int .u8) W A' n' ys → Kd.C (Kd.int .u8) W' A' n' ys) → wpList P ops Q rest (a.put o.dst (.slice A xs.length c)) W') : wpList P ops Q (o :: rest) a W := by
  subst hP
  obtain ⟨g, cap, e, hb, hl, cs, hcs⟩ := Kd.R_form HR hp
  injection e with e1 e2 e3
  subst e1
  subst e3
  have hC : ∀ A' n' ys, Kd.C (Kd.int .u8) W A' n' ys → Kd.C (Kd.int .u8) (W.freeze ⟨g, cs.size, none⟩ 1) A' n' ys := fun A' n' ys h => by
    refine Kd.C_of_reads (d := 0) ?_
    obtain ⟨r1, r2, r3⟩ := Kd.reads_of_C (d := 0) h
    refine ⟨r1, r2, fun hn => ?_⟩
    obtain ⟨ad, ea, hc⟩ := r3 hn
    exact ⟨ad, ea, fun j hj => by rw [sm_cell_freeze]; exact hc j hj⟩
  exact Kd.event_run hgd (hrun _ (sm_conv hcs)) (h _ (sm_below_freeze HB hb _ _) (hC _ _ _ (Kd.R_reads' HR).2.2) hC)

/-! ### lienlaw01_awake: function 16 -/
-- BY HAND

def aw_seal : List Int := (sum_Seal.f 20 [97, 98]).getD []
def aw_c1 : Int := (sum_Of.f [49, 50, 51, 52]).getD 0
def aw_c2 : Int := (sum_Of.f [53, 54, 55, 56, 57]).getD 0
theorem aw_e1 : sum_Seal.f 20 [97, 98] = some aw_seal := by kernel_rfl
theorem aw_e2 : sum_Open.f 20 aw_seal = some ([97, 98], 0) := by kernel_rfl
theorem aw_e3 : sum_Open.f 20 [1, 2, 3, 4, 5] = some ([], 10) := by kernel_rfl
theorem aw_e4 : sum_Of.f [49, 50, 51, 52, 53, 54, 55, 56, 57] = some 3808858755 := by kernel_rfl
theorem aw_e5 : sum_Of.f [49, 50, 51, 52] = some aw_c1 := by kernel_rfl
theorem aw_e6 : sum_Of.f [53, 54, 55, 56, 57] = some aw_c2 := by kernel_rfl
theorem aw_e7 : sum_Join.f aw_c1 aw_c2 5 = some 3808858755 := by kernel_rfl
theorem aw_str : strOfNums ([97, 98] : List Int) = (⟨#[97, 98]⟩ : ByteArray) := by kernel_rfl
def lienlaw01_awake.f : Option Bool := some true
set_option maxHeartbeats 2000000 in
set_option maxRecDepth 100000 in
theorem aw_walk (w : World) (y6 y9 y13 y17 y22 y25 S : List Int) (b1 b2 : Int) (Y6 : Aside0 (y6 = [97, 98])) (Y13 : Aside0 (y13 = [1, 2, 3, 4, 5])) (Y17 : Aside0 (y17 = [49, 50, 51, 52, 53, 54, 55, 56, 57])) (Y22 : Aside0 (y22 = [49, 50, 51, 52])) (Y25 : Aside0 (y25 = [53, 54, 55, 56, 57]))
    (E1 : Aside0 (sum_Seal.f 20 y6 = some S)) (E2 : Aside0 (sum_Open.f 20 S = some (y9, 0))) (E3 : Aside0 (sum_Open.f 20 y13 = some ([], 10))) (E4 : Aside0 (sum_Of.f y17 = some 3808858755)) (E5 : Aside0 (sum_Of.f y22 = some b1)) (E6 : Aside0 (sum_Of.f y25 = some b2)) (E7 : Aside0 (sum_Join.f b1 b2 5 = some 3808858755)) (E8 : Aside0 (strOfNums y9 = (⟨#[97, 98]⟩ : ByteArray))) :
    Calls Try.prog 16 #[] w fun e w' => e = .returned (.bool true) ∧ Below w.heap.size w w' := by
  have HB := Aside0.mk (Below.refl w.heap.size w)
  go_enter Try.func16, Try.ntmps16
  go_wp2_with (first | ((with_reducible refine gate_dst (N := 6) rfl ?_); (try (refine gate_guard (by rfl) ?_; dsimp only)); refine Kd.R_lit (Kd.int .u8) _ 5 ?hg (N := 6) ?hd (xs := ([97, 98] : List Int)) (inner := [.int .u8 97, .int .u8 98]) (ok := fun _ => True) (okp := fun _ => True) ?hr ?hp (fun _ hk => hk) trivial (Below.refl _ _) (Nat.le_refl _) (by simp) ?_; (case hd => rfl); (case hg => rfl); (case hr => first | (go_simp; done) | (go_simp; rfl)); (case hp => exact (Reps.one (show Kd.M (Kd.int .u8) _ _ _ 97 [.int .u8 97] from rfl) (Reps.one (show Kd.M (Kd.int .u8) _ _ _ 98 [.int .u8 98] from rfl) (Reps.none _ _)))); intro v6 w6 ho hb hg_ hnew_; clear hg_ hnew_; rw [← Y6.out] at ho; have n0_ := Aside0.mk (Kd.R_lower ho (below_size (by repeat (first | (with_reducible first | exact HB.out | apply below_alloc | apply pw_below_drewN | apply below_drew1) | exact HB.out)))); have n1_ := Aside0.mk (below_step (by repeat (first | (with_reducible first | exact HB.out | apply below_alloc | apply pw_below_drewN | apply below_drew1) | exact HB.out)) hb); clear HB; have HR6 := n0_; have HB := n1_; clear n0_ n1_; clear hb ho; obtain ⟨A6, c6, eo⟩ := Kd.R_slice HR6.out; subst eo) | ((with_reducible refine gate_dst (N := 7) rfl ?_); (try (refine gate_guard (by rfl) ?_; dsimp only)); refine sm_conv_event (w := w) ?hg HB.out HR6.out (by rw [Y6.out]; decide) ?hrun rfl ?_; (case hg => rfl); (case hrun => intro W' hW; (first | (go_simp; done) | (go_simp; rfl))); intro w7 hb hc hcc; have n0_ := Aside0.mk hb; have n1_ := Aside0.mk hc; have n2_ := Aside0.mk (Kd.R_reads' HR6.out).2.1; clear HB HR6 hb hc hcc; have HB := n0_; have HC7 := n1_; have HL7 := n2_; clear n0_ n1_ n2_) | ((with_reducible refine gate_callee (f := 14) rfl ?_); refine goesL_ (some 8) rfl rfl Try.func14 (by kernel_rfl) rfl #[.slice A6 y6.length c6] rfl (by (try simp only [List.map_toArray, List.map_cons, List.map_nil]); first | done | rfl) ?_; (with_reducible refine (sum_Seal.calls 20 _ _ y6 S _ ?side1 ?side2 E1.out).mono ?_); (case side1 => exact (by (with_reducible repeat (first | apply Kd.C_alloc | apply Kd.C_drewN | apply Kd.C_drew)); exact HC7.out)); (case side2 => exact HL7.out); rintro e w8 ⟨v8, rfl, ho, hb⟩; refine ⟨_, rfl, ?_⟩; have HR8 := Aside0.mk ho; clear ho; obtain ⟨A8, c8, eo⟩ := Kd.R_slice HR8.out; subst eo; have n9_ := Aside0.mk (below_step (by repeat (first | (with_reducible first | exact HB.out | apply below_alloc | apply pw_below_drewN | apply below_drew1) | exact HB.out)) hb); clear HB; have HB := n9_; clear n9_; clear hb) | ((with_reducible refine gate_callee (f := 12) rfl ?_); refine goesL_ (some 9) rfl rfl Try.func12 (by kernel_rfl) rfl #[.slice A8 S.length c8] rfl (by (try simp only [List.map_toArray, List.map_cons, List.map_nil]); first | done | rfl) ?_; (with_reducible refine (sum_Open.calls 20 _ _ S y9 0 _ ?side1 ?side2 E2.out).mono ?_); (case side1 => exact (by (with_reducible repeat (first | apply Kd.C_alloc | apply Kd.C_drewN | apply Kd.C_drew)); exact (Kd.R_reads' HR8.out).2.2)); (case side2 => exact (Kd.R_reads' HR8.out).2.1); rintro e w9 ⟨v9, rfl, ho, hb⟩; refine ⟨_, rfl, ?_⟩; obtain ⟨A9, c9, eo⟩ := Kd.R_slice ho; subst eo; have HX := Aside0.mk (Kd.R_reads' ho).2.2; clear ho; have n9_ := Aside0.mk (below_step (by repeat (first | (with_reducible first | exact HB.out | apply below_alloc | apply pw_below_drewN | apply below_drew1) | exact HB.out)) hb); clear HB; have HB := n9_; clear n9_; clear hb) | ((with_reducible refine gate_dst (N := 13) rfl ?_); (try (refine gate_guard (by rfl) ?_; dsimp only)); refine Kd.R_lit (Kd.int .u8) _ 5 ?hg (N := 13) ?hd (xs := ([1, 2, 3, 4, 5] : List Int)) (inner := [.int .u8 1, .int .u8 2, .int .u8 3, .int .u8 4, .int .u8 5]) (ok := fun _ => True) (okp := fun _ => True) ?hr ?hp (fun _ hk => hk) trivial (Below.refl _ _) (Nat.le_refl _) (by simp) ?_; (case hd => rfl); (case hg => rfl); (case hr => first | (go_simp; done) | (go_simp; rfl)); (case hp => exact (Reps.one (show Kd.M (Kd.int .u8) _ _ _ 1 [.int .u8 1] from rfl) (Reps.one (show Kd.M (Kd.int .u8) _ _ _ 2 [.int .u8 2] from rfl) (Reps.one (show Kd.M (Kd.int .u8) _ _ _ 3 [.int .u8 3] from rfl) (Reps.one (show Kd.M (Kd.int .u8) _ _ _ 4 [.int .u8 4] from rfl) (Reps.one (show Kd.M (Kd.int .u8) _ _ _ 5 [.int .u8 5] from rfl) (Reps.none _ _))))))); intro v13 w13 ho hb hg_ hnew_; clear hg_ hnew_; rw [← Y13.out] at ho; have n0_ := Aside0.mk (Kd.R_lower ho (below_size (by repeat (first | (with_reducible first | exact HB.out | apply below_alloc | apply pw_below_drewN | apply below_drew1) | exact HB.out)))); have n1_ := Aside0.mk (below_step (by repeat (first | (with_reducible first | exact HB.out | apply below_alloc | apply pw_below_drewN | apply below_drew1) | exact HB.out)) hb); have x_ := Aside0.mk (Kd.C_below (by (with_reducible repeat (first | apply Kd.C_alloc | apply Kd.C_drewN | apply Kd.C_drew)); exact HX.out) hb); clear HX; have HX := x_; clear x_; clear HB; have HR13 := n0_; have HB := n1_; clear n0_ n1_; clear hb ho; obtain ⟨A13, c13, eo⟩ := Kd.R_slice HR13.out; subst eo) | ((with_reducible refine gate_callee (f := 12) rfl ?_); refine goesL_ (some 14) rfl rfl Try.func12 (by kernel_rfl) rfl #[.slice A13 y13.length c13] rfl (by (try simp only [List.map_toArray, List.map_cons, List.map_nil]); first | done | rfl) ?_; (with_reducible refine (sum_Open.calls 20 _ _ y13 [] 10 _ ?side1 ?side2 E3.out).mono ?_); (case side1 => exact (by (with_reducible repeat (first | apply Kd.C_alloc | apply Kd.C_drewN | apply Kd.C_drew)); exact (Kd.R_reads' HR13.out).2.2)); (case side2 => exact (Kd.R_reads' HR13.out).2.1); rintro e w14 ⟨v14, rfl, ho, hb⟩; refine ⟨_, rfl, ?_⟩; clear ho; have x_ := Aside0.mk (Kd.C_below (by (with_reducible repeat (first | apply Kd.C_alloc | apply Kd.C_drewN | apply Kd.C_drew)); exact HX.out) hb); clear HX; have HX := x_; clear x_; have n9_ := Aside0.mk (below_step (by repeat (first | (with_reducible first | exact HB.out | apply below_alloc | apply pw_below_drewN | apply below_drew1) | exact HB.out)) hb); clear HB; have HB := n9_; clear n9_; clear hb) | ((with_reducible refine gate_dst (N := 17) rfl ?_); (try (refine gate_guard (by rfl) ?_; dsimp only)); refine Kd.R_lit (Kd.int .u8) _ 5 ?hg (N := 17) ?hd (xs := ([49, 50, 51, 52, 53, 54, 55, 56, 57] : List Int)) (inner := [.int .u8 49, .int .u8 50, .int .u8 51, .int .u8 52, .int .u8 53, .int .u8 54, .int .u8 55, .int .u8 56, .int .u8 57]) (ok := fun _ => True) (okp := fun _ => True) ?hr ?hp (fun _ hk => hk) trivial (Below.refl _ _) (Nat.le_refl _) (by simp) ?_; (case hd => rfl); (case hg => rfl); (case hr => first | (go_simp; done) | (go_simp; rfl)); (case hp => exact (Reps.one (show Kd.M (Kd.int .u8) _ _ _ 49 [.int .u8 49] from rfl) (Reps.one (show Kd.M (Kd.int .u8) _ _ _ 50 [.int .u8 50] from rfl) (Reps.one (show Kd.M (Kd.int .u8) _ _ _ 51 [.int .u8 51] from rfl) (Reps.one (show Kd.M (Kd.int .u8) _ _ _ 52 [.int .u8 52] from rfl) (Reps.one (show Kd.M (Kd.int .u8) _ _ _ 53 [.int .u8 53] from rfl) (Reps.one (show Kd.M (Kd.int .u8) _ _ _ 54 [.int .u8 54] from rfl) (Reps.one (show Kd.M (Kd.int .u8) _ _ _ 55 [.int .u8 55] from rfl) (Reps.one (show Kd.M (Kd.int .u8) _ _ _ 56 [.int .u8 56] from rfl) (Reps.one (show Kd.M (Kd.int .u8) _ _ _ 57 [.int .u8 57] from rfl) (Reps.none _ _))))))))))); intro v17 w17 ho hb hg_ hnew_; clear hg_ hnew_; rw [← Y17.out] at ho; have n0_ := Aside0.mk (Kd.R_lower ho (below_size (by repeat (first | (with_reducible first | exact HB.out | apply below_alloc | apply pw_below_drewN | apply below_drew1) | exact HB.out)))); have n1_ := Aside0.mk (below_step (by repeat (first | (with_reducible first | exact HB.out | apply below_alloc | apply pw_below_drewN | apply below_drew1) | exact HB.out)) hb); have x_ := Aside0.mk (Kd.C_below (by (with_reducible repeat (first | apply Kd.C_alloc | apply Kd.C_drewN | apply Kd.C_drew)); exact HX.out) hb); clear HX; have HX := x_; clear x_; clear HB; have HR17 := n0_; have HB := n1_; clear n0_ n1_; clear hb ho; obtain ⟨A17, c17, eo⟩ := Kd.R_slice HR17.out; subst eo) | ((with_reducible refine gate_dst (N := 18) rfl ?_); (try (refine gate_guard (by rfl) ?_; dsimp only)); refine sm_conv_event (w := w) ?hg HB.out HR17.out (by rw [Y17.out]; decide) ?hrun rfl ?_; (case hg => rfl); (case hrun => intro W' hW; (first | (go_simp; done) | (go_simp; rfl))); intro w18 hb hc hcc; have n0_ := Aside0.mk hb; have n1_ := Aside0.mk hc; have n2_ := Aside0.mk (Kd.R_reads' HR17.out).2.1; have x_ := Aside0.mk (hcc _ _ _ (by (with_reducible repeat (first | apply Kd.C_alloc | apply Kd.C_drewN | apply Kd.C_drew)); exact HX.out)); clear HX; have HX := x_; clear x_; clear HB HR17 hb hc hcc; have HB := n0_; have HC18 := n1_; have HL18 := n2_; clear n0_ n1_ n2_) | ((with_reducible refine gate_callee (f := 17) rfl ?_); refine goesL_ (some 19) rfl rfl Try.func17 (by kernel_rfl) rfl #[.slice A17 y17.length c17] rfl (by (try simp only [List.map_toArray, List.map_cons, List.map_nil]); first | done | rfl) ?_; (with_reducible refine (sum_Of.calls _ _ y17 3808858755 _ ?side1 ?side2 E4.out).mono ?_); (case side1 => exact (by (with_reducible repeat (first | apply Kd.C_alloc | apply Kd.C_drewN | apply Kd.C_drew)); exact HC18.out)); (case side2 => exact HL18.out); rintro e w19 ⟨rfl, hb⟩; refine ⟨_, rfl, ?_⟩; have x_ := Aside0.mk (Kd.C_below (by (with_reducible repeat (first | apply Kd.C_alloc | apply Kd.C_drewN | apply Kd.C_drew)); exact HX.out) hb); clear HX; have HX := x_; clear x_; have n9_ := Aside0.mk (below_step (by repeat (first | (with_reducible first | exact HB.out | apply below_alloc | apply pw_below_drewN | apply below_drew1) | exact HB.out)) hb); clear HB; have HB := n9_; clear n9_; clear hb) | ((with_reducible refine gate_dst (N := 22) rfl ?_); (try (refine gate_guard (by rfl) ?_; dsimp only)); refine Kd.R_lit (Kd.int .u8) _ 5 ?hg (N := 22) ?hd (xs := ([49, 50, 51, 52] : List Int)) (inner := [.int .u8 49, .int .u8 50, .int .u8 51, .int .u8 52]) (ok := fun _ => True) (okp := fun _ => True) ?hr ?hp (fun _ hk => hk) trivial (Below.refl _ _) (Nat.le_refl _) (by simp) ?_; (case hd => rfl); (case hg => rfl); (case hr => first | (go_simp; done) | (go_simp; rfl)); (case hp => exact (Reps.one (show Kd.M (Kd.int .u8) _ _ _ 49 [.int .u8 49] from rfl) (Reps.one (show Kd.M (Kd.int .u8) _ _ _ 50 [.int .u8 50] from rfl) (Reps.one (show Kd.M (Kd.int .u8) _ _ _ 51 [.int .u8 51] from rfl) (Reps.one (show Kd.M (Kd.int .u8) _ _ _ 52 [.int .u8 52] from rfl) (Reps.none _ _)))))); intro v22 w22 ho hb hg_ hnew_; clear hg_ hnew_; rw [← Y22.out] at ho; have n0_ := Aside0.mk (Kd.R_lower ho (below_size (by repeat (first | (with_reducible first | exact HB.out | apply below_alloc | apply pw_below_drewN | apply below_drew1) | exact HB.out)))); have n1_ := Aside0.mk (below_step (by repeat (first | (with_reducible first | exact HB.out | apply below_alloc | apply pw_below_drewN | apply below_drew1) | exact HB.out)) hb); have x_ := Aside0.mk (Kd.C_below (by (with_reducible repeat (first | apply Kd.C_alloc | apply Kd.C_drewN | apply Kd.C_drew)); exact HX.out) hb); clear HX; have HX := x_; clear x_; clear HB; have HR22 := n0_; have HB := n1_; clear n0_ n1_; clear hb ho; obtain ⟨A22, c22, eo⟩ := Kd.R_slice HR22.out; subst eo) | ((with_reducible refine gate_dst (N := 23) rfl ?_); (try (refine gate_guard (by rfl) ?_; dsimp only)); refine sm_conv_event (w := w) ?hg HB.out HR22.out (by rw [Y22.out]; decide) ?hrun rfl ?_; (case hg => rfl); (case hrun => intro W' hW; (first | (go_simp; done) | (go_simp; rfl))); intro w23 hb hc hcc; have n0_ := Aside0.mk hb; have n1_ := Aside0.mk hc; have n2_ := Aside0.mk (Kd.R_reads' HR22.out).2.1; have x_ := Aside0.mk (hcc _ _ _ (by (with_reducible repeat (first | apply Kd.C_alloc | apply Kd.C_drewN | apply Kd.C_drew)); exact HX.out)); clear HX; have HX := x_; clear x_; clear HB HR22 hb hc hcc; have HB := n0_; have HC23 := n1_; have HL23 := n2_; clear n0_ n1_ n2_) | (go_at_call 17; (with_reducible refine (sum_Of.calls _ _ y22 b1 _ ?side1 ?side2 E5.out).mono ?_); (case side1 => exact (by (with_reducible repeat (first | apply Kd.C_alloc | apply Kd.C_drewN | apply Kd.C_drew)); exact HC23.out)); (case side2 => exact HL23.out); rintro e w24 ⟨rfl, hb⟩; have x_ := Aside0.mk (Kd.C_below (by (with_reducible repeat (first | apply Kd.C_alloc | apply Kd.C_drewN | apply Kd.C_drew)); exact HX.out) hb); clear HX; have HX := x_; clear x_; have n9_ := Aside0.mk (below_step (by repeat (first | (with_reducible first | exact HB.out | apply below_alloc | apply pw_below_drewN | apply below_drew1) | exact HB.out)) hb); clear HB; have HB := n9_; clear n9_; clear hb) | ((with_reducible refine gate_dst (N := 25) rfl ?_); (try (refine gate_guard (by rfl) ?_; dsimp only)); refine Kd.R_lit (Kd.int .u8) _ 5 ?hg (N := 25) ?hd (xs := ([53, 54, 55, 56, 57] : List Int)) (inner := [.int .u8 53, .int .u8 54, .int .u8 55, .int .u8 56, .int .u8 57]) (ok := fun _ => True) (okp := fun _ => True) ?hr ?hp (fun _ hk => hk) trivial (Below.refl _ _) (Nat.le_refl _) (by simp) ?_; (case hd => rfl); (case hg => rfl); (case hr => first | (go_simp; done) | (go_simp; rfl)); (case hp => exact (Reps.one (show Kd.M (Kd.int .u8) _ _ _ 53 [.int .u8 53] from rfl) (Reps.one (show Kd.M (Kd.int .u8) _ _ _ 54 [.int .u8 54] from rfl) (Reps.one (show Kd.M (Kd.int .u8) _ _ _ 55 [.int .u8 55] from rfl) (Reps.one (show Kd.M (Kd.int .u8) _ _ _ 56 [.int .u8 56] from rfl) (Reps.one (show Kd.M (Kd.int .u8) _ _ _ 57 [.int .u8 57] from rfl) (Reps.none _ _))))))); intro v25 w25 ho hb hg_ hnew_; clear hg_ hnew_; rw [← Y25.out] at ho; have n0_ := Aside0.mk (Kd.R_lower ho (below_size (by repeat (first | (with_reducible first | exact HB.out | apply below_alloc | apply pw_below_drewN | apply below_drew1) | exact HB.out)))); have n1_ := Aside0.mk (below_step (by repeat (first | (with_reducible first | exact HB.out | apply below_alloc | apply pw_below_drewN | apply below_drew1) | exact HB.out)) hb); have x_ := Aside0.mk (Kd.C_below (by (with_reducible repeat (first | apply Kd.C_alloc | apply Kd.C_drewN | apply Kd.C_drew)); exact HX.out) hb); clear HX; have HX := x_; clear x_; clear HB; have HR25 := n0_; have HB := n1_; clear n0_ n1_; clear hb ho; obtain ⟨A25, c25, eo⟩ := Kd.R_slice HR25.out; subst eo) | ((with_reducible refine gate_dst (N := 26) rfl ?_); (try (refine gate_guard (by rfl) ?_; dsimp only)); refine sm_conv_event (w := w) ?hg HB.out HR25.out (by rw [Y25.out]; decide) ?hrun rfl ?_; (case hg => rfl); (case hrun => intro W' hW; (first | (go_simp; done) | (go_simp; rfl))); intro w26 hb hc hcc; have n0_ := Aside0.mk hb; have n1_ := Aside0.mk hc; have n2_ := Aside0.mk (Kd.R_reads' HR25.out).2.1; have x_ := Aside0.mk (hcc _ _ _ (by (with_reducible repeat (first | apply Kd.C_alloc | apply Kd.C_drewN | apply Kd.C_drew)); exact HX.out)); clear HX; have HX := x_; clear x_; clear HB HR25 hb hc hcc; have HB := n0_; have HC26 := n1_; have HL26 := n2_; clear n0_ n1_ n2_) | (go_at_call 17; (with_reducible refine (sum_Of.calls _ _ y25 b2 _ ?side1 ?side2 E6.out).mono ?_); (case side1 => exact (by (with_reducible repeat (first | apply Kd.C_alloc | apply Kd.C_drewN | apply Kd.C_drew)); exact HC26.out)); (case side2 => exact HL26.out); rintro e w27 ⟨rfl, hb⟩; have x_ := Aside0.mk (Kd.C_below (by (with_reducible repeat (first | apply Kd.C_alloc | apply Kd.C_drewN | apply Kd.C_drew)); exact HX.out) hb); clear HX; have HX := x_; clear x_; have n9_ := Aside0.mk (below_step (by repeat (first | (with_reducible first | exact HB.out | apply below_alloc | apply pw_below_drewN | apply below_drew1) | exact HB.out)) hb); clear HB; have HB := n9_; clear n9_; clear hb) | (go_at_call 21; (with_reducible refine (sum_Join.calls b1 b2 5 3808858755 _ E7.out).mono ?_); rintro e w28 ⟨rfl, hb⟩; have x_ := Aside0.mk (Kd.C_below (by (with_reducible repeat (first | apply Kd.C_alloc | apply Kd.C_drewN | apply Kd.C_drew)); exact HX.out) hb); clear HX; have HX := x_; clear x_; have n9_ := Aside0.mk (below_step (by repeat (first | (with_reducible first | exact HB.out | apply below_alloc | apply pw_below_drewN | apply below_drew1) | exact HB.out)) hb); clear HB; have HB := n9_; clear n9_; clear hb; have hcv := Kd.C_string (P := Try.prog) (c := c9) Try.underlying22 Try.underlying5 Try.underlying9 HX.out; rw [E8.out] at hcv))
  go_ret
  exact ⟨by first | rfl | (simp <;> rfl), by repeat (first | (with_reducible first | exact HB.out | apply below_alloc | apply pw_below_drewN | apply below_drew1) | exact HB.out)⟩
theorem lienlaw01_awake.calls (r : Bool) (w : World) (h : lienlaw01_awake.f = some r) :
    Calls Try.prog 16 #[] w fun e w' => e = .returned (.bool r) ∧ Below w.heap.size w w' := by
  obtain rfl := Option.some.inj h
  exact aw_walk w _ _ _ _ _ _ _ _ _ ⟨rfl⟩ ⟨rfl⟩ ⟨rfl⟩ ⟨rfl⟩ ⟨rfl⟩ ⟨aw_e1⟩ ⟨aw_e2⟩ ⟨aw_e3⟩ ⟨aw_e4⟩ ⟨aw_e5⟩ ⟨aw_e6⟩ ⟨aw_e7⟩ ⟨aw_str⟩

end Go.Proofs.Ythpclknekfjnkaa.PSumSeals
