-- Written by wip/xprint of this repo (our own program) out of the translation; what is marked BY HAND is ours. Not trusted: Lean checks it.
import Derived.Test.YtklnnmgfoebbhaaPWireRepliesx0
import Derived.Test.YtklnnmgfoebbhaaPWireRepliesx2
import Derived.Test.YtklnnmgfoebbhaaPWireRepliesx11
namespace Go.Proofs.Ytklnnmgfoebbhaa.PWireReplies
open Go.RowKit Go.Proofs.YtklnnmgfoebbhaaW.PrintWords Go.Proofs.YtklnnmgfoebbhaaW.PrintLast Go.Proofs.YtklnnmgfoebbhaaW.PrintMore
attribute [local go_sem] max2_int min2_int max_two min_two max_three min_three max_four min_four   -- for this text's walks alone
set_option linter.unusedVariables false
set_option linter.unusedSimpArgs false

attribute [local go_sem high] eqA43
/-! ### lienref22_ReadReply: function 22 -/
def lienref22_ReadReply.f (k : Nat) (l0 : List Int) : Option (Int × Int × Int × Int × Int × Int) := if 5 ≤ 8796093022208 then ((lienref22_taken.f k l0 (List.replicate 5 z62)).bind fun bt269 => (if bt269.2 = true then (if 0 < (bt269.1.length : Int) then (if 1 < (bt269.1.length : Int) then (if 2 < (bt269.1.length : Int) then (if 3 < (bt269.1.length : Int) then (if 4 < (bt269.1.length : Int) then (if ((rd_T62 bt269.1 0).f1) = 0 then (some ((rd_T62 bt269.1 0).f1, (rd_T62 bt269.1 1).f1, (rd_T62 bt269.1 2).f1, (rd_T62 bt269.1 3).f1, (rd_T62 bt269.1 4).f1, 0)) else (if (!(((rd_T62 bt269.1 1).f1) == 0) || (!(((rd_T62 bt269.1 2).f1) == 0) || (!(((rd_T62 bt269.1 3).f1) == 0) || (!(((rd_T62 bt269.1 4).f1) == 0))))) = true then (some (0, 0, 0, 0, 0, 220)) else (some ((rd_T62 bt269.1 0).f1, (rd_T62 bt269.1 1).f1, (rd_T62 bt269.1 2).f1, (rd_T62 bt269.1 3).f1, (rd_T62 bt269.1 4).f1, 0)))) else (none)) else (none)) else (none)) else (none)) else (none)) else (some (0, 0, 0, 0, 0, 220)))) else (none)
theorem lienref22_ReadReply.mono : ∀ a0 k, LeO (lienref22_ReadReply.f k a0) (lienref22_ReadReply.f (k + 1) a0) := by
  intro a0 k
  unfold lienref22_ReadReply.f
  repeat' first
      | (with_reducible exact lienref22_taken.mono _ _ _)
      | (with_reducible exact LeO.refl _)
      | (with_reducible exact LeO.none _)
      | (with_reducible refine LeO.ite ?_ ?_)
      | (with_reducible refine LeO.bind ?_ (fun _ => ?_))
      | exact lienref22_taken.mono _ _ _
      | exact LeO.none _
      | refine LeO.ite ?_ ?_
      | refine LeO.bind ?_ (fun _ => ?_)
def lienref22_ReadReply.T4 : Bool × List (List Nat × List Nat) := (true, [([], []), ([0], [0]), ([1], [1]), ([2], [2]), ([], []), ([4], [4]), ([5], [5]), ([6], [6]), ([], []), ([8], [8]), ([9], [9]), ([10], [10]), ([], []), ([12], [12]), ([13], [13]), ([14], [14]), ([], []), ([16], [16]), ([17], [17]), ([18], [18]), ([3, 7, 11, 15, 19], [3, 7, 11, 15, 19]), ([], []), ([21, 20, 0, 1, 2, 3, 4, 5, 6, 7, 8, 9, 10, 11, 12, 13, 14, 15, 16, 17, 18, 19, 20, 21], [20, 21])])
def lienref22_ReadReply.B4 : List Nat := [0, 1, 3, 7, 0, 16, 48, 112, 0, 256, 768, 1792, 0, 4096, 12288, 28672, 0, 65536, 196608, 458752, 1048575, 0, 4194303]
theorem lienref22_ReadReply.tab4 : rtab .any (opsOf Try.f22 4) = lienref22_ReadReply.T4 := by kernel_rfl
theorem lienref22_ReadReply.bits4 : waitsOk lienref22_ReadReply.T4.2 lienref22_ReadReply.B4 = true := by kernel_rfl
set_option maxHeartbeats 8000000 in
set_option maxRecDepth 100000 in
theorem lienref22_ReadReply.calls (k : Nat) (A0 : Option Addr) (c0 : Nat) (l0 : List Int) (r1 : Int) (r2 : Int) (r3 : Int) (r4 : Int) (r5 : Int) (r6 : Int) (w : World) (hr0 : Kd.C (Kd.int .u8) w A0 l0.length l0) (hc0 : l0.length ≤ c0) (h : lienref22_ReadReply.f k l0 = some (r1, r2, r3, r4, r5, r6)) :
    Calls Try.prog 22 #[.slice A0 l0.length c0] w fun e w' => e = .returned (.tuple #[.agg #[.int .i64 r1, .int .i64 r2, .int .i64 r3, .int .i64 r4, .int .i64 r5], .int .i64 r6]) ∧ Below w.heap.size w w' := by
  have hu43 := Try.underlying43
  have HR0 := Aside0.mk hr0
  have HC0 := Aside0.mk hc0
  clear hr0 hc0
  have HB := Aside0.mk (Below.refl w.heap.size w)
  have H : (if 5 ≤ 8796093022208 then ((lienref22_taken.f k l0 (List.replicate 5 z62)).bind fun bt269 => (if bt269.2 = true then (if 0 < (bt269.1.length : Int) then (if 1 < (bt269.1.length : Int) then (if 2 < (bt269.1.length : Int) then (if 3 < (bt269.1.length : Int) then (if 4 < (bt269.1.length : Int) then (if ((rd_T62 bt269.1 0).f1) = 0 then (some ((rd_T62 bt269.1 0).f1, (rd_T62 bt269.1 1).f1, (rd_T62 bt269.1 2).f1, (rd_T62 bt269.1 3).f1, (rd_T62 bt269.1 4).f1, 0)) else (if (!(((rd_T62 bt269.1 1).f1) == 0) || (!(((rd_T62 bt269.1 2).f1) == 0) || (!(((rd_T62 bt269.1 3).f1) == 0) || (!(((rd_T62 bt269.1 4).f1) == 0))))) = true then (some (0, 0, 0, 0, 0, 220)) else (some ((rd_T62 bt269.1 0).f1, (rd_T62 bt269.1 1).f1, (rd_T62 bt269.1 2).f1, (rd_T62 bt269.1 3).f1, (rd_T62 bt269.1 4).f1, 0)))) else (none)) else (none)) else (none)) else (none)) else (none)) else (some (0, 0, 0, 0, 0, 220)))) else (none)) = some (r1, r2, r3, r4, r5, r6) := h
  clear h
  by_cases c2 : 5 ≤ 8796093022208
  · rw [if_pos c2] at H
    have c2b0 := eq_true c2
    have c2b1 : decide (5 ≤ 8796093022208) = true := decide_eq_true c2
    clear c2
    obtain ⟨y266, hy266⟩ : ∃ y_ : List (S62), y_ = (List.replicate 5 z62) := ⟨_, rfl⟩
    replace H : ((lienref22_taken.f k l0 y266).bind fun bt269 => (if bt269.2 = true then (if 0 < (bt269.1.length : Int) then (if 1 < (bt269.1.length : Int) then (if 2 < (bt269.1.length : Int) then (if 3 < (bt269.1.length : Int) then (if 4 < (bt269.1.length : Int) then (if ((rd_T62 bt269.1 0).f1) = 0 then (some ((rd_T62 bt269.1 0).f1, (rd_T62 bt269.1 1).f1, (rd_T62 bt269.1 2).f1, (rd_T62 bt269.1 3).f1, (rd_T62 bt269.1 4).f1, 0)) else (if (!(((rd_T62 bt269.1 1).f1) == 0) || (!(((rd_T62 bt269.1 2).f1) == 0) || (!(((rd_T62 bt269.1 3).f1) == 0) || (!(((rd_T62 bt269.1 4).f1) == 0))))) = true then (some (0, 0, 0, 0, 0, 220)) else (some ((rd_T62 bt269.1 0).f1, (rd_T62 bt269.1 1).f1, (rd_T62 bt269.1 2).f1, (rd_T62 bt269.1 3).f1, (rd_T62 bt269.1 4).f1, 0)))) else (none)) else (none)) else (none)) else (none)) else (none)) else (some (0, 0, 0, 0, 0, 220)))) = some (r1, r2, r3, r4, r5, r6) := by first | (rw [hy266]; with_reducible exact H) | (have H2_ := (Option.bind_some _ _).symm.trans H; rw [hy266]; with_reducible exact H2_) | (have H2_ := (Option.bind_some _ _).symm.trans H; with_reducible exact H2_) | with_reducible exact H | (rw [hy266]; exact H) | exact H
    have Ny266 := Aside0.mk hy266
    clear hy266
    replace H := Option.bind_eq_some_iff.mp H
    obtain ⟨⟨t269, t272⟩, A30, H⟩ := H
    replace H : (if t272 = true then (if 0 < (t269.length : Int) then (if 1 < (t269.length : Int) then (if 2 < (t269.length : Int) then (if 3 < (t269.length : Int) then (if 4 < (t269.length : Int) then (if ((rd_T62 t269 0).f1) = 0 then (some ((rd_T62 t269 0).f1, (rd_T62 t269 1).f1, (rd_T62 t269 2).f1, (rd_T62 t269 3).f1, (rd_T62 t269 4).f1, 0)) else (if (!(((rd_T62 t269 1).f1) == 0) || (!(((rd_T62 t269 2).f1) == 0) || (!(((rd_T62 t269 3).f1) == 0) || (!(((rd_T62 t269 4).f1) == 0))))) = true then (some (0, 0, 0, 0, 0, 220)) else (some ((rd_T62 t269 0).f1, (rd_T62 t269 1).f1, (rd_T62 t269 2).f1, (rd_T62 t269 3).f1, (rd_T62 t269 4).f1, 0)))) else (none)) else (none)) else (none)) else (none)) else (none)) else (some (0, 0, 0, 0, 0, 220))) = some (r1, r2, r3, r4, r5, r6) := H
    have A3 := Aside0.mk A30
    clear A30
    by_cases c4 : t272 = true
    · subst c4
      have H1 : (if 0 < (t269.length : Int) then (if 1 < (t269.length : Int) then (if 2 < (t269.length : Int) then (if 3 < (t269.length : Int) then (if 4 < (t269.length : Int) then (if ((rd_T62 t269 0).f1) = 0 then (some ((rd_T62 t269 0).f1, (rd_T62 t269 1).f1, (rd_T62 t269 2).f1, (rd_T62 t269 3).f1, (rd_T62 t269 4).f1, 0)) else (if (!(((rd_T62 t269 1).f1) == 0) || (!(((rd_T62 t269 2).f1) == 0) || (!(((rd_T62 t269 3).f1) == 0) || (!(((rd_T62 t269 4).f1) == 0))))) = true then (some (0, 0, 0, 0, 0, 220)) else (some ((rd_T62 t269 0).f1, (rd_T62 t269 1).f1, (rd_T62 t269 2).f1, (rd_T62 t269 3).f1, (rd_T62 t269 4).f1, 0)))) else (none)) else (none)) else (none)) else (none)) else (none)) = some (r1, r2, r3, r4, r5, r6) := by rw [if_pos rfl] at H; exact H
      clear H
      have H := H1
      clear H1
      by_cases c5 : 0 < (t269.length : Int)
      · rw [if_pos c5] at H
        have c5b0 : decide (0 < (t269.length : Int)) = true := decide_eq_true c5
        have c5b1 : decide (0 < t269.length) = true := decide_eq_true (by omega)
        clear c5
        by_cases c6 : 1 < (t269.length : Int)
        · rw [if_pos c6] at H
          have c6b0 : decide (1 < (t269.length : Int)) = true := decide_eq_true c6
          have c6b1 : decide (1 < t269.length) = true := decide_eq_true (by omega)
          clear c6
          by_cases c7 : 2 < (t269.length : Int)
          · rw [if_pos c7] at H
            have c7b0 : decide (2 < (t269.length : Int)) = true := decide_eq_true c7
            have c7b1 : decide (2 < t269.length) = true := decide_eq_true (by omega)
            clear c7
            by_cases c8 : 3 < (t269.length : Int)
            · rw [if_pos c8] at H
              have c8b0 : decide (3 < (t269.length : Int)) = true := decide_eq_true c8
              have c8b1 : decide (3 < t269.length) = true := decide_eq_true (by omega)
              clear c8
              by_cases c9 : 4 < (t269.length : Int)
              · rw [if_pos c9] at H
                have c9b0 : decide (4 < (t269.length : Int)) = true := decide_eq_true c9
                have c9b1 : decide (4 < t269.length) = true := decide_eq_true (by omega)
                clear c9
                obtain ⟨y0, hy0⟩ : ∃ y, (rd_T62 t269 0).f1 = y := ⟨_, rfl⟩
                obtain ⟨y1, hy1⟩ : ∃ y, (rd_T62 t269 1).f1 = y := ⟨_, rfl⟩
                obtain ⟨y2, hy2⟩ : ∃ y, (rd_T62 t269 2).f1 = y := ⟨_, rfl⟩
                obtain ⟨y3, hy3⟩ : ∃ y, (rd_T62 t269 3).f1 = y := ⟨_, rfl⟩
                obtain ⟨y4, hy4⟩ : ∃ y, (rd_T62 t269 4).f1 = y := ⟨_, rfl⟩
                rw [hy0, hy1, hy2, hy3, hy4] at H
                have HH := Aside0.mk H
                clear H
                go_enter Try.func22, Try.ntmps22
                go_upto_region 4 with (first | ((with_reducible refine gate_dst (N := 2) rfl ?_); refine box_event ?hg (N := 2) ?hd (cs := #[.int .i64 0, .int .i64 0, .int .i64 0, .int .i64 0, .int .i64 0]) (t := 43) ?hr ?_; (case hd => rfl); (case hg => rfl); (case hr => first | (go_simp; done) | (go_simp; rfl)); intro gb265 hg w11 hbox hb; have n0_ := Aside0.mk (below_step (by repeat (first | (with_reducible first | exact HB.out | apply below_alloc | apply pw_below_drewN | apply below_drew1) | exact HB.out)) hb); have n1_ := Aside0.mk (hbox); have n2_ := Aside0.mk ((by rw [hg]; exact (below_size (by repeat (first | (with_reducible first | exact HB.out | apply below_alloc | apply pw_below_drewN | apply below_drew1) | exact HB.out))) : w.heap.size ≤ gb265)); have n3_ := Aside0.mk ((by rw [hg]; exact (below_size (by repeat (first | (with_reducible first | exact HB.out | apply below_alloc | apply pw_below_drewN | apply below_drew1) | exact HB.out))) : w.heap.size ≤ gb265)); clear HB; have HB := n0_; have BK265 := n1_; have GW265 := n2_; have GE265 := n3_; clear n0_ n1_ n2_ n3_; clear hb hbox hg) | ((with_reducible refine gate_dst (N := 9) rfl ?_); refine Kd.R_make k62 _ 62 rfl (N := 9) rfl 60 _ _ rfl 5 rfl rfl Try.underlying60 (.agg #[(.bool false), (.int .i64 0), (.string ⟨#[]⟩)]) 32 info62 rfl (by decide) (by omega) z62 (ok := fun _ => True) (okp := fun _ => True) (k62_mkM _ _ _ z62 ) (fun _ hk => hk) trivial (by omega) (by omega) (Below.refl _ _) (Nat.le_refl _) ?_; intro v267 w12 ho13 hb hg_ hnew_; clear hg_ hnew_; (first | rw [← Ny266.out] at ho13 | (simp only [Int.reduceToNat] at ho13; rw [← Ny266.out] at ho13)); have n0_ := Aside0.mk (Kd.R_lower ho13 (below_size (by repeat (first | (with_reducible first | exact HB.out | apply below_alloc | apply pw_below_drewN | apply below_drew1 | refine below_set ?_ GE265.out) | exact HB.out)))); have n1_ := Aside0.mk (blk_below (g := gb265) (o := .cells #[.int .i64 0, .int .i64 0, .int .i64 0, .int .i64 0, .int .i64 0] 43 (0, 0)) (by (with_reducible repeat (first | refine blk_drewN ?_ _ | refine blk_drew ?_ | refine blk_alloc ?_ _)); exact BK265.out) hb); have n2_ := Aside0.mk (below_step (by repeat (first | (with_reducible first | exact HB.out | apply below_alloc | apply pw_below_drewN | apply below_drew1 | refine below_set ?_ GE265.out) | exact HB.out)) hb); clear BK265; clear HB; have HO268 := n0_; have BK265 := n1_; have HB := n2_; clear n0_ n1_ n2_; clear hb ho13; obtain ⟨Ao14, co14, eo14⟩ := Kd.R_slice HO268.out; subst eo14) | ((with_reducible refine gate_callee (f := 37) rfl ?_); refine goesL_ (some 10) rfl rfl Try.func37 (by kernel_rfl) rfl #[.slice A0 l0.length c0, .slice Ao14 y266.length co14] rfl (by (try simp only [List.map_toArray, List.map_cons, List.map_nil]); first | done | rfl | (simp only [List.length_drop, List.length_take]; rfl)) ?_; (with_reducible refine (lienref22_taken.calls k (fun k_ => k_ < w.heap.size) _ _ l0 _ _ y266 t269 true _ ?side1 ?side2 ?side3 A3.out).mono ?_); (case side1 => exact Kd.V_mk HC0.out (Kd.F_below (Kd.C_F (Kd.heap_int .u8) HR0.out) (by repeat (first | (with_reducible first | exact HB.out | apply below_alloc | apply pw_below_drewN | apply below_drew1 | refine below_set ?_ GE265.out) | exact HB.out)))); (case side2 => repeat (first | exact (Kd.R_reads' HO268.out).2.2 | (with_reducible refine Kd.C_alloc ?_ _) | (with_reducible refine Kd.C_drewN ?_ _) | (with_reducible refine Kd.C_drew ?_))); (case side3 => exact (Kd.R_reads' HO268.out).2.1); rintro e w15 ⟨v270, rfl, ho0, hb⟩; refine ⟨_, rfl, ?_⟩; have n0_ := Aside0.mk (Kd.R_elder' (by (with_reducible repeat (first | apply Kd.R_alloc | apply Kd.R_drewN | apply Kd.R_drew)); exact HO268.out) (Kd.R_base ho0) hb); have n1_ := Aside0.mk (Kd.R_lower (Kd.R_new' (Kd.R_mono (ok' := fun k_ => True) ho0 (fun _ hk_ => trivial)) (Kd.R_lt (by (with_reducible repeat (first | apply Kd.R_alloc | apply Kd.R_drewN | apply Kd.R_drew)); exact HO268.out))) (below_size (by repeat (first | (with_reducible first | exact HB.out | apply below_alloc | apply pw_below_drewN | apply below_drew1 | refine below_set ?_ GE265.out) | exact HB.out)))); have n2_ := Aside0.mk (blk_below (g := gb265) (o := .cells #[.int .i64 0, .int .i64 0, .int .i64 0, .int .i64 0, .int .i64 0] 43 (0, 0)) (by (with_reducible repeat (first | refine blk_drewN ?_ _ | refine blk_drew ?_ | refine blk_alloc ?_ _)); exact BK265.out) hb); have n3_ := Aside0.mk (below_step (by repeat (first | (with_reducible first | exact HB.out | apply below_alloc | apply pw_below_drewN | apply below_drew1 | refine below_set ?_ GE265.out) | exact HB.out)) hb); clear HO268; clear BK265; clear HB; have HO268 := n0_; have HO271 := n1_; have BK265 := n2_; have HB := n3_; clear n0_ n1_ n2_ n3_; (try clear hb); (try clear hb2); (try clear hk); (try clear hi); (try clear ho0)))
                (try simp only [Act.put, List.setIfInBounds_toArray, List.set_cons_zero, List.set_cons_succ])
                go_cut [6] (fun v6 wc => ∃ g6 : Nat, v6 = .pointer (some ⟨g6, 0, none⟩) ∧ Aside0 (wc.heap[g6]? = some (.cells #[.int .i64 y0, .int .i64 y1, .int .i64 y2, .int .i64 y3, .int .i64 y4] 43 (0, 0))) ∧ Aside0 (wc.heap[gb265]? = some (.cells #[.int .i64 0, .int .i64 0, .int .i64 0, .int .i64 0, .int .i64 0] 43 (0, 0))) ∧ Aside0 (Below w.heap.size w wc) ∧ Aside0 (gb265 ≠ g6))
                case first =>
                  obtain ⟨Ao17, co17, eo17⟩ := Kd.R_slice HO271.out
                  (first | subst eo17 | (injection eo17 with f1_ f2_ f3_; have f4_ := f1_.symm; have f5_ := f3_.symm; clear f1_ f2_ f3_; subst f4_; subst f5_))
                  have p273 : 0 ≤ (0 : Int) := (by omega)
                  have q273 : 0 < (t269.length : Int) := of_decide_eq_true (by first | (with_reducible assumption) | assumption)
                  obtain ⟨ad273, e273, hx273_0, hx273_1, hx273_2⟩ := at_T62 (Kd.R_reads' HO271.out).2.2 0 p273 q273
                  cases e273
                  have qi273 : (0 < t269.length) = True := eq_true (by omega)
                  (try rw [show ((0 : Int)).toNat = 0 from rfl] at hx273_0)
                  (try rw [show 0 * 3 = 0 from rfl] at hx273_0)
                  (try rw [Addr.add_zero'] at hx273_0)
                  (try rw [show ((0 : Int)).toNat = 0 from rfl] at hx273_1)
                  (try rw [show 0 * 3 = 0 from rfl] at hx273_1)
                  (try rw [Addr.add_zero'] at hx273_1)
                  (try rw [show ((0 : Int)).toNat = 0 from rfl] at hx273_2)
                  (try rw [show 0 * 3 = 0 from rfl] at hx273_2)
                  (try rw [Addr.add_zero'] at hx273_2)
                  replace p273 := eq_true p273
                  replace q273 := eq_true q273
                  have p274 : 0 ≤ (1 : Int) := (by omega)
                  have q274 : 1 < (t269.length : Int) := of_decide_eq_true (by first | (with_reducible assumption) | assumption)
                  obtain ⟨ad274, e274, hx274_0, hx274_1, hx274_2⟩ := at_T62 (Kd.R_reads' HO271.out).2.2 1 p274 q274
                  obtain rfl : ad273 = ad274 := (by injection e274)
                  (try simp only [show (1 : Int).toNat = 1 from rfl, Nat.reduceMul, Nat.reduceEqDiff, Go.Addr.add, ↓reduceIte] at hx274_0)
                  (try simp only [show (1 : Int).toNat = 1 from rfl, Nat.reduceMul, Nat.reduceEqDiff, Go.Addr.add, ↓reduceIte] at hx274_1)
                  (try simp only [show (1 : Int).toNat = 1 from rfl, Nat.reduceMul, Nat.reduceEqDiff, Go.Addr.add, ↓reduceIte] at hx274_2)
                  have qi274 : (1 < t269.length) = True := eq_true (by omega)
                  (try rw [show ((1 : Int)).toNat = 1 from rfl] at hx274_0)
                  (try rw [show 1 * 3 = 3 from rfl] at hx274_0)
                  (try rw [show ((1 : Int)).toNat = 1 from rfl] at hx274_1)
                  (try rw [show 1 * 3 = 3 from rfl] at hx274_1)
                  (try rw [show ((1 : Int)).toNat = 1 from rfl] at hx274_2)
                  (try rw [show 1 * 3 = 3 from rfl] at hx274_2)
                  replace p274 := eq_true p274
                  replace q274 := eq_true q274
                  have p275 : 0 ≤ (2 : Int) := (by omega)
                  have q275 : 2 < (t269.length : Int) := of_decide_eq_true (by first | (with_reducible assumption) | assumption)
                  obtain ⟨ad275, e275, hx275_0, hx275_1, hx275_2⟩ := at_T62 (Kd.R_reads' HO271.out).2.2 2 p275 q275
                  obtain rfl : ad273 = ad275 := (by injection e275)
                  (try simp only [show (2 : Int).toNat = 2 from rfl, Nat.reduceMul, Nat.reduceEqDiff, Go.Addr.add, ↓reduceIte] at hx275_0)
                  (try simp only [show (2 : Int).toNat = 2 from rfl, Nat.reduceMul, Nat.reduceEqDiff, Go.Addr.add, ↓reduceIte] at hx275_1)
                  (try simp only [show (2 : Int).toNat = 2 from rfl, Nat.reduceMul, Nat.reduceEqDiff, Go.Addr.add, ↓reduceIte] at hx275_2)
                  have qi275 : (2 < t269.length) = True := eq_true (by omega)
                  (try rw [show ((2 : Int)).toNat = 2 from rfl] at hx275_0)
                  (try rw [show 2 * 3 = 6 from rfl] at hx275_0)
                  (try rw [show ((2 : Int)).toNat = 2 from rfl] at hx275_1)
                  (try rw [show 2 * 3 = 6 from rfl] at hx275_1)
                  (try rw [show ((2 : Int)).toNat = 2 from rfl] at hx275_2)
                  (try rw [show 2 * 3 = 6 from rfl] at hx275_2)
                  replace p275 := eq_true p275
                  replace q275 := eq_true q275
                  have p276 : 0 ≤ (3 : Int) := (by omega)
                  have q276 : 3 < (t269.length : Int) := of_decide_eq_true (by first | (with_reducible assumption) | assumption)
                  obtain ⟨ad276, e276, hx276_0, hx276_1, hx276_2⟩ := at_T62 (Kd.R_reads' HO271.out).2.2 3 p276 q276
                  obtain rfl : ad273 = ad276 := (by injection e276)
                  (try simp only [show (3 : Int).toNat = 3 from rfl, Nat.reduceMul, Nat.reduceEqDiff, Go.Addr.add, ↓reduceIte] at hx276_0)
                  (try simp only [show (3 : Int).toNat = 3 from rfl, Nat.reduceMul, Nat.reduceEqDiff, Go.Addr.add, ↓reduceIte] at hx276_1)
                  (try simp only [show (3 : Int).toNat = 3 from rfl, Nat.reduceMul, Nat.reduceEqDiff, Go.Addr.add, ↓reduceIte] at hx276_2)
                  have qi276 : (3 < t269.length) = True := eq_true (by omega)
                  (try rw [show ((3 : Int)).toNat = 3 from rfl] at hx276_0)
                  (try rw [show 3 * 3 = 9 from rfl] at hx276_0)
                  (try rw [show ((3 : Int)).toNat = 3 from rfl] at hx276_1)
                  (try rw [show 3 * 3 = 9 from rfl] at hx276_1)
                  (try rw [show ((3 : Int)).toNat = 3 from rfl] at hx276_2)
                  (try rw [show 3 * 3 = 9 from rfl] at hx276_2)
                  replace p276 := eq_true p276
                  replace q276 := eq_true q276
                  have p277 : 0 ≤ (4 : Int) := (by omega)
                  have q277 : 4 < (t269.length : Int) := of_decide_eq_true (by first | (with_reducible assumption) | assumption)
                  obtain ⟨ad277, e277, hx277_0, hx277_1, hx277_2⟩ := at_T62 (Kd.R_reads' HO271.out).2.2 4 p277 q277
                  obtain rfl : ad273 = ad277 := (by injection e277)
                  (try simp only [show (4 : Int).toNat = 4 from rfl, Nat.reduceMul, Nat.reduceEqDiff, Go.Addr.add, ↓reduceIte] at hx277_0)
                  (try simp only [show (4 : Int).toNat = 4 from rfl, Nat.reduceMul, Nat.reduceEqDiff, Go.Addr.add, ↓reduceIte] at hx277_1)
                  (try simp only [show (4 : Int).toNat = 4 from rfl, Nat.reduceMul, Nat.reduceEqDiff, Go.Addr.add, ↓reduceIte] at hx277_2)
                  have qi277 : (4 < t269.length) = True := eq_true (by omega)
                  (try rw [show ((4 : Int)).toNat = 4 from rfl] at hx277_0)
                  (try rw [show 4 * 3 = 12 from rfl] at hx277_0)
                  (try rw [show ((4 : Int)).toNat = 4 from rfl] at hx277_1)
                  (try rw [show 4 * 3 = 12 from rfl] at hx277_1)
                  (try rw [show ((4 : Int)).toNat = 4 from rfl] at hx277_2)
                  (try rw [show 4 * 3 = 12 from rfl] at hx277_2)
                  replace p277 := eq_true p277
                  replace q277 := eq_true q277
                  rw [hy0] at hx273_1
                  rw [hy1] at hx274_1
                  rw [hy2] at hx275_1
                  rw [hy3] at hx276_1
                  rw [hy4] at hx277_1
                  clear hx273_0 hx273_2 hx274_0 hx274_2 hx275_0 hx275_2 hx276_0 hx276_2 hx277_0 hx277_2
                  clear hy0 hy1 hy2 hy3 hy4
                  clear e274 e275 e276 e277
                  have ha0 := fun (o : Obj) => pw_cell_below (below_alloc (Below.refl _ _) o) hx273_1
                  have ha1 := fun (o : Obj) => pw_cell_below (below_alloc (Below.refl _ _) o) hx274_1
                  have ha2 := fun (o : Obj) => pw_cell_below (below_alloc (Below.refl _ _) o) hx275_1
                  have ha3 := fun (o : Obj) => pw_cell_below (below_alloc (Below.refl _ _) o) hx276_1
                  have ha4 := fun (o : Obj) => pw_cell_below (below_alloc (Below.refl _ _) o) hx277_1
                  go_region
                  go_wp2
                  go_meet
                  case rel => exact ⟨_, rfl, ⟨blk_drew (blk_new w15 _)⟩, ⟨blk_drew (blk_alloc BK265.out _)⟩, ⟨(below_alloc HB.out _).drew⟩, ⟨Nat.ne_of_lt (blk_lt BK265.out)⟩⟩
                case rest =>
                  obtain ⟨g6, rfl, BK6, BK2, HBl, N26⟩ := hcut
                  clear hy0 hy1 hy2 hy3 hy4 HB BK265 HO268 HO271
                  clear c2b0 c2b1 c5b0 c5b1 c6b0 c6b1 c7b0 c7b1 c8b0 c8b1 c9b0 c9b1
                  have hne1 : ¬ gb265 = g6 := N26.out
                  have hne2 : ¬ g6 = gb265 := fun e => N26.out e.symm
                  have hcBK60 := blk_cell BK6.out 0
                  have hcBK61 := blk_cell BK6.out 1
                  have hcBK62 := blk_cell BK6.out 2
                  have hcBK63 := blk_cell BK6.out 3
                  have hcBK64 := blk_cell BK6.out 4
                  have hcBK20 := blk_cell BK2.out 0
                  have hfBK20 := blk_frozen BK2.out 0
                  have hcBK21 := blk_cell BK2.out 1
                  have hfBK21 := blk_frozen BK2.out 1
                  have hcBK22 := blk_cell BK2.out 2
                  have hfBK22 := blk_frozen BK2.out 2
                  have hcBK23 := blk_cell BK2.out 3
                  have hfBK23 := blk_frozen BK2.out 3
                  have hcBK24 := blk_cell BK2.out 4
                  have hfBK24 := blk_frozen BK2.out 4
                  simp only [List.getElem?_toArray, List.getElem?_cons_zero, List.getElem?_cons_succ] at hcBK60 hcBK61 hcBK62 hcBK63 hcBK64 hcBK20 hcBK21 hcBK22 hcBK23 hcBK24
                  have H := HH.out
                  clear HH
                  by_cases c10 : y0 = 0
                  · rw [if_pos c10] at H
                    simp only [Option.some.injEq, Prod.mk.injEq] at H
                    obtain ⟨rfl, rfl, rfl, rfl, rfl, rfl⟩ := H
                    have c10b : (y0 != 0) = false := bne_eq_false_iff_eq.mpr c10
                    clear c10
                    go_wp2
                    refine bodyPost_ret (results_ct rfl _ _ gb265 43 #[.int .i64 y0, .int .i64 y1, .int .i64 y2, .int .i64 y3, .int .i64 y4] (0, 0) _ rfl (blk_put (cs' := #[.int .i64 y0, .int .i64 y1, .int .i64 y2, .int .i64 y3, .int .i64 y4]) (blk_put (cs' := #[.int .i64 y0, .int .i64 y1, .int .i64 y2, .int .i64 y3, .int .i64 0]) (blk_put (cs' := #[.int .i64 y0, .int .i64 y1, .int .i64 y2, .int .i64 0, .int .i64 0]) (blk_put (cs' := #[.int .i64 y0, .int .i64 y1, .int .i64 0, .int .i64 0, .int .i64 0]) (blk_put (cs' := #[.int .i64 y0, .int .i64 0, .int .i64 0, .int .i64 0, .int .i64 0]) BK2.out 0 (.int .i64 y0) rfl) 1 (.int .i64 y1) rfl) 2 (.int .i64 y2) rfl) 3 (.int .i64 y3) rfl) 4 (.int .i64 y4) rfl) Try.underlying43 rfl (by kernel_rfl)) rfl ?_
                    exact ⟨rfl, (below_set (j := 4) (v := .int .i64 y4) (below_set (j := 3) (v := .int .i64 y3) (below_set (j := 2) (v := .int .i64 y2) (below_set (j := 1) (v := .int .i64 y1) (below_set (j := 0) (v := .int .i64 y0) HBl.out GE265.out) GE265.out) GE265.out) GE265.out) GE265.out)⟩
                  · rw [if_neg c10] at H
                    have c10b : (y0 != 0) = true := bne_iff_ne.mpr c10
                    obtain ⟨QQ, hQ⟩ : ∃ q, (!(y1 == 0) || (!(y2 == 0) || (!(y3 == 0) || (!(y4 == 0))))) = q := ⟨_, rfl⟩
                    rw [hQ] at H
                    have hNe : ∀ w, (binOp .neq 43 (.agg #[.int .i64 y0, .int .i64 y1, .int .i64 y2, .int .i64 y3, .int .i64 y4]) (.agg #[.int .i64 y0, .int .i64 0, .int .i64 0, .int .i64 0, .int .i64 0])).run Try.prog w = .ok (.bool QQ) w := by
                      intro w
                      simp only [binOp]
                      rw [show Op.equal 43 = Op.equalIn (9998 + 2) 43 from rfl]
                      simp only [Sem.run_bind, eqA43]
                      rw [← hQ]
                      simp
                    clear hQ c10
                    cases QQ with
                    | true =>
                      rw [if_pos rfl] at H
                      simp only [Option.some.injEq, Prod.mk.injEq] at H
                      obtain ⟨rfl, rfl, rfl, rfl, rfl, rfl⟩ := H
                      go_wp2
                      refine bodyPost_ret (results_ct rfl _ _ gb265 43 #[.int .i64 0, .int .i64 0, .int .i64 0, .int .i64 0, .int .i64 0] (0, 0) _ rfl (blk_put (cs' := #[.int .i64 0, .int .i64 0, .int .i64 0, .int .i64 0, .int .i64 0]) (blk_put (cs' := #[.int .i64 0, .int .i64 0, .int .i64 0, .int .i64 0, .int .i64 0]) (blk_put (cs' := #[.int .i64 0, .int .i64 0, .int .i64 0, .int .i64 0, .int .i64 0]) (blk_put (cs' := #[.int .i64 0, .int .i64 0, .int .i64 0, .int .i64 0, .int .i64 0]) (blk_put (cs' := #[.int .i64 0, .int .i64 0, .int .i64 0, .int .i64 0, .int .i64 0]) BK2.out 0 (.int .i64 0) rfl) 1 (.int .i64 0) rfl) 2 (.int .i64 0) rfl) 3 (.int .i64 0) rfl) 4 (.int .i64 0) rfl) Try.underlying43 rfl (by kernel_rfl)) rfl ?_
                      exact ⟨rfl, (below_set (j := 4) (v := .int .i64 0) (below_set (j := 3) (v := .int .i64 0) (below_set (j := 2) (v := .int .i64 0) (below_set (j := 1) (v := .int .i64 0) (below_set (j := 0) (v := .int .i64 0) HBl.out GE265.out) GE265.out) GE265.out) GE265.out) GE265.out)⟩
                    | false =>
                      rw [if_neg (by decide)] at H
                      simp only [Option.some.injEq, Prod.mk.injEq] at H
                      obtain ⟨rfl, rfl, rfl, rfl, rfl, rfl⟩ := H
                      go_wp2
                      refine bodyPost_ret (results_ct rfl _ _ gb265 43 #[.int .i64 y0, .int .i64 y1, .int .i64 y2, .int .i64 y3, .int .i64 y4] (0, 0) _ rfl (blk_put (cs' := #[.int .i64 y0, .int .i64 y1, .int .i64 y2, .int .i64 y3, .int .i64 y4]) (blk_put (cs' := #[.int .i64 y0, .int .i64 y1, .int .i64 y2, .int .i64 y3, .int .i64 0]) (blk_put (cs' := #[.int .i64 y0, .int .i64 y1, .int .i64 y2, .int .i64 0, .int .i64 0]) (blk_put (cs' := #[.int .i64 y0, .int .i64 y1, .int .i64 0, .int .i64 0, .int .i64 0]) (blk_put (cs' := #[.int .i64 y0, .int .i64 0, .int .i64 0, .int .i64 0, .int .i64 0]) BK2.out 0 (.int .i64 y0) rfl) 1 (.int .i64 y1) rfl) 2 (.int .i64 y2) rfl) 3 (.int .i64 y3) rfl) 4 (.int .i64 y4) rfl) Try.underlying43 rfl (by kernel_rfl)) rfl ?_
                      exact ⟨rfl, (below_set (j := 4) (v := .int .i64 y4) (below_set (j := 3) (v := .int .i64 y3) (below_set (j := 2) (v := .int .i64 y2) (below_set (j := 1) (v := .int .i64 y1) (below_set (j := 0) (v := .int .i64 y0) HBl.out GE265.out) GE265.out) GE265.out) GE265.out) GE265.out)⟩
              · rw [if_neg c9] at H
                exact absurd H (by simp)
            · rw [if_neg c8] at H
              exact absurd H (by simp)
          · rw [if_neg c7] at H
            exact absurd H (by simp)
        · rw [if_neg c6] at H
          exact absurd H (by simp)
      · rw [if_neg c5] at H
        exact absurd H (by simp)
    · replace c4 := Bool.eq_false_iff.mpr c4
      subst c4
      have H1 : (some (0, 0, 0, 0, 0, 220)) = some (r1, r2, r3, r4, r5, r6) := by rw [if_neg (show ¬ (false = true) by decide)] at H; exact H
      clear H
      have H := H1
      clear H1
      simp only [Option.some.injEq, Prod.mk.injEq] at H
      obtain ⟨rfl, rfl, rfl, rfl, rfl, rfl⟩ := H
      go_enter Try.func22, Try.ntmps22
      go_wp2_with (first | ((with_reducible refine gate_dst (N := 2) rfl ?_); refine box_event ?hg (N := 2) ?hd (cs := #[.int .i64 0, .int .i64 0, .int .i64 0, .int .i64 0, .int .i64 0]) (t := 43) ?hr ?_; (case hd => rfl); (case hg => rfl); (case hr => first | (go_simp; done) | (go_simp; rfl)); intro gb265 hg w60 hbox hb; have n0_ := Aside0.mk (below_step (by repeat (first | (with_reducible first | exact HB.out | apply below_alloc | apply pw_below_drewN | apply below_drew1) | exact HB.out)) hb); have n1_ := Aside0.mk (hbox); have n2_ := Aside0.mk ((by rw [hg]; exact (below_size (by repeat (first | (with_reducible first | exact HB.out | apply below_alloc | apply pw_below_drewN | apply below_drew1) | exact HB.out))) : w.heap.size ≤ gb265)); have n3_ := Aside0.mk ((by rw [hg]; exact (below_size (by repeat (first | (with_reducible first | exact HB.out | apply below_alloc | apply pw_below_drewN | apply below_drew1) | exact HB.out))) : w.heap.size ≤ gb265)); clear HB; have HB := n0_; have BK265 := n1_; have GW265 := n2_; have GE265 := n3_; clear n0_ n1_ n2_ n3_; clear hb hbox hg) | ((with_reducible refine gate_dst (N := 9) rfl ?_); refine Kd.R_make k62 _ 62 rfl (N := 9) rfl 60 _ _ rfl 5 rfl rfl Try.underlying60 (.agg #[(.bool false), (.int .i64 0), (.string ⟨#[]⟩)]) 32 info62 rfl (by decide) (by omega) z62 (ok := fun _ => True) (okp := fun _ => True) (k62_mkM _ _ _ z62 ) (fun _ hk => hk) trivial (by omega) (by omega) (Below.refl _ _) (Nat.le_refl _) ?_; intro v267 w61 ho62 hb hg_ hnew_; clear hg_ hnew_; (first | rw [← Ny266.out] at ho62 | (simp only [Int.reduceToNat] at ho62; rw [← Ny266.out] at ho62)); have n0_ := Aside0.mk (Kd.R_lower ho62 (below_size (by repeat (first | (with_reducible first | exact HB.out | apply below_alloc | apply pw_below_drewN | apply below_drew1 | refine below_set ?_ GE265.out) | exact HB.out)))); have n1_ := Aside0.mk (blk_below (g := gb265) (o := .cells #[.int .i64 0, .int .i64 0, .int .i64 0, .int .i64 0, .int .i64 0] 43 (0, 0)) (by (with_reducible repeat (first | refine blk_drewN ?_ _ | refine blk_drew ?_ | refine blk_alloc ?_ _)); exact BK265.out) hb); have n2_ := Aside0.mk (below_step (by repeat (first | (with_reducible first | exact HB.out | apply below_alloc | apply pw_below_drewN | apply below_drew1 | refine below_set ?_ GE265.out) | exact HB.out)) hb); clear BK265; clear HB; have HO268 := n0_; have BK265 := n1_; have HB := n2_; clear n0_ n1_ n2_; clear hb ho62; obtain ⟨Ao63, co63, eo63⟩ := Kd.R_slice HO268.out; subst eo63) | ((with_reducible refine gate_callee (f := 37) rfl ?_); refine goesL_ (some 10) rfl rfl Try.func37 (by kernel_rfl) rfl #[.slice A0 l0.length c0, .slice Ao63 y266.length co63] rfl (by (try simp only [List.map_toArray, List.map_cons, List.map_nil]); first | done | rfl | (simp only [List.length_drop, List.length_take]; rfl)) ?_; (with_reducible refine (lienref22_taken.calls k (fun k_ => k_ < w.heap.size) _ _ l0 _ _ y266 t269 false _ ?side1 ?side2 ?side3 A3.out).mono ?_); (case side1 => exact Kd.V_mk HC0.out (Kd.F_below (Kd.C_F (Kd.heap_int .u8) HR0.out) (by repeat (first | (with_reducible first | exact HB.out | apply below_alloc | apply pw_below_drewN | apply below_drew1 | refine below_set ?_ GE265.out) | exact HB.out)))); (case side2 => repeat (first | exact (Kd.R_reads' HO268.out).2.2 | (with_reducible refine Kd.C_alloc ?_ _) | (with_reducible refine Kd.C_drewN ?_ _) | (with_reducible refine Kd.C_drew ?_))); (case side3 => exact (Kd.R_reads' HO268.out).2.1); rintro e w64 ⟨v270, rfl, ho0, hb⟩; refine ⟨_, rfl, ?_⟩; have n0_ := Aside0.mk (Kd.R_elder' (by (with_reducible repeat (first | apply Kd.R_alloc | apply Kd.R_drewN | apply Kd.R_drew)); exact HO268.out) (Kd.R_base ho0) hb); have n1_ := Aside0.mk (Kd.R_lower (Kd.R_new' (Kd.R_mono (ok' := fun k_ => True) ho0 (fun _ hk_ => trivial)) (Kd.R_lt (by (with_reducible repeat (first | apply Kd.R_alloc | apply Kd.R_drewN | apply Kd.R_drew)); exact HO268.out))) (below_size (by repeat (first | (with_reducible first | exact HB.out | apply below_alloc | apply pw_below_drewN | apply below_drew1 | refine below_set ?_ GE265.out) | exact HB.out)))); have n2_ := Aside0.mk (blk_below (g := gb265) (o := .cells #[.int .i64 0, .int .i64 0, .int .i64 0, .int .i64 0, .int .i64 0] 43 (0, 0)) (by (with_reducible repeat (first | refine blk_drewN ?_ _ | refine blk_drew ?_ | refine blk_alloc ?_ _)); exact BK265.out) hb); have n3_ := Aside0.mk (below_step (by repeat (first | (with_reducible first | exact HB.out | apply below_alloc | apply pw_below_drewN | apply below_drew1 | refine below_set ?_ GE265.out) | exact HB.out)) hb); clear HO268; clear BK265; clear HB; have HO268 := n0_; have HO271 := n1_; have BK265 := n2_; have HB := n3_; clear n0_ n1_ n2_ n3_; (try clear hb); (try clear hb2); (try clear hk); (try clear hi); (try clear ho0); have hcz65_0 : w64.cell? ⟨gb265, 0, none⟩ = some (.int .i64 0) := (blk_cell BK265.out 0).trans rfl; have hcz65_1 : w64.cell? ⟨gb265, 1, none⟩ = some (.int .i64 0) := (blk_cell BK265.out 1).trans rfl; have hcz65_2 : w64.cell? ⟨gb265, 2, none⟩ = some (.int .i64 0) := (blk_cell BK265.out 2).trans rfl; have hcz65_3 : w64.cell? ⟨gb265, 3, none⟩ = some (.int .i64 0) := (blk_cell BK265.out 3).trans rfl; have hcz65_4 : w64.cell? ⟨gb265, 4, none⟩ = some (.int .i64 0) := (blk_cell BK265.out 4).trans rfl; have hfz65_0 := blk_frozen BK265.out 0; have hfz65_1 := blk_frozen BK265.out 1; have hfz65_2 := blk_frozen BK265.out 2; have hfz65_3 := blk_frozen BK265.out 3; have hfz65_4 := blk_frozen BK265.out 4))
      refine bodyPost_ret (results_ct rfl _ _ gb265 43 #[.int .i64 0, .int .i64 0, .int .i64 0, .int .i64 0, .int .i64 0] (0, 0) _ rfl (by (with_reducible repeat (first | refine blk_drewN ?_ _ | refine blk_drew ?_ | refine blk_alloc ?_ _)); refine blk_put (cs := #[.int .i64 0, .int .i64 0, .int .i64 0, .int .i64 0, .int .i64 0]) ?_ 4 _ rfl; (with_reducible repeat (first | refine blk_drewN ?_ _ | refine blk_drew ?_ | refine blk_alloc ?_ _)); refine blk_put (cs := #[.int .i64 0, .int .i64 0, .int .i64 0, .int .i64 0, .int .i64 0]) ?_ 3 _ rfl; (with_reducible repeat (first | refine blk_drewN ?_ _ | refine blk_drew ?_ | refine blk_alloc ?_ _)); refine blk_put (cs := #[.int .i64 0, .int .i64 0, .int .i64 0, .int .i64 0, .int .i64 0]) ?_ 2 _ rfl; (with_reducible repeat (first | refine blk_drewN ?_ _ | refine blk_drew ?_ | refine blk_alloc ?_ _)); refine blk_put (cs := #[.int .i64 0, .int .i64 0, .int .i64 0, .int .i64 0, .int .i64 0]) ?_ 1 _ rfl; (with_reducible repeat (first | refine blk_drewN ?_ _ | refine blk_drew ?_ | refine blk_alloc ?_ _)); refine blk_put (cs := #[.int .i64 0, .int .i64 0, .int .i64 0, .int .i64 0, .int .i64 0]) ?_ 0 _ rfl; (with_reducible repeat (first | refine blk_drewN ?_ _ | refine blk_drew ?_ | refine blk_alloc ?_ _)); exact BK265.out) Try.underlying43 rfl (by kernel_rfl)) rfl ?_
      exact ⟨by first | rfl | (simp [errW_none, errW_some] <;> rfl) | (simp [*, errW_none, errW_some] <;> rfl), by repeat (first | (with_reducible first | exact HB.out | apply below_alloc | apply pw_below_drewN | apply below_drew1 | refine below_set ?_ GE265.out) | exact HB.out)⟩
  · rw [if_neg c2] at H
    exact absurd H (by simp)

end Go.Proofs.Ytklnnmgfoebbhaa.PWireReplies
