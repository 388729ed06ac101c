-- Written by wip/xprint of this repo (our own program) out of the translation; what is marked BY HAND is ours. Not trusted: Lean checks it.
import Derived.Test.YtklnnmgfoebbhaaPWireMsgsx0
import Derived.Test.YtklnnmgfoebbhaaPWireMsgsx3
import Derived.Test.YtklnnmgfoebbhaaPWireMsgsx7
import Derived.Test.YtklnnmgfoebbhaaPWireMsgsx8
namespace Go.Proofs.Ytklnnmgfoebbhaa.PWireMsgs
open Go.RowKit Go.Proofs.YtklnnmgfoebbhaaW.PrintWords Go.Proofs.YtklnnmgfoebbhaaW.PrintLast Go.Proofs.YtklnnmgfoebbhaaW.PrintMore
attribute [local go_sem] max2_int min2_int max_two min_two max_three min_three max_four min_four   -- for this text's walks alone
set_option linter.unusedVariables false
set_option linter.unusedSimpArgs false

/-! ### lienref22_ReadMsg: function 13 -/
mutual
def lienref22_ReadMsg.j0 : Nat → Int → List Int → Bool → Option (Int × Int × Int × ByteArray × Int × Int)
  | 0, _, _, _ => none
  | k + 1, x4, x5, x26 => if x26 = true then (some (0, 0, 0, (⟨#[]⟩ : ByteArray), 0, 220)) else (if x4 = 1 then ((lienref22_text.f (⟨#[]⟩ : ByteArray)).bind fun bt272 => (lienref22_ReadMsg.j1 k x4 x5 (([(⟨false, 0, (⟨#[]⟩ : ByteArray)⟩ : S62), (⟨false, 0, (⟨#[]⟩ : ByteArray)⟩ : S62), (⟨bt272.1, bt272.2.1, bt272.2.2⟩ : S62), (⟨false, 0, (⟨#[]⟩ : ByteArray)⟩ : S62)] : List (S62))))) else (lienref22_ReadMsg.j1 k x4 x5 (([(⟨false, 0, (⟨#[]⟩ : ByteArray)⟩ : S62), (⟨false, 0, (⟨#[]⟩ : ByteArray)⟩ : S62)] : List (S62)))))
def lienref22_ReadMsg.j1 : Nat → Int → List Int → List (S62) → Option (Int × Int × Int × ByteArray × Int × Int)
  | 0, _, _, _ => none
  | k + 1, x4, x5, x7 => (lienref22_taken.f k x5 x7).bind fun bt278 => (if bt278.2 = true then (if 0 < (bt278.1.length : Int) then (if 1 < (bt278.1.length : Int) then (if x4 = 1 then (if 2 < (bt278.1.length : Int) then (if 3 < (bt278.1.length : Int) then (some (wrap64 (x4), (rd_T62 bt278.1 0).f1, (rd_T62 bt278.1 1).f1, (rd_T62 bt278.1 2).f2, (rd_T62 bt278.1 3).f1, 0)) else (none)) else (none)) else (some (wrap64 (x4), (rd_T62 bt278.1 0).f1, (rd_T62 bt278.1 1).f1, (⟨#[]⟩ : ByteArray), 0, 0))) else (none)) else (none)) else (some (0, 0, 0, (⟨#[]⟩ : ByteArray), 0, 220)))
end
def lienref22_ReadMsg.f (k : Nat) (l0 : List Int) : Option (Int × Int × Int × ByteArray × Int × Int) := (lienref02_TakeNum.f k l0).bind fun bt264 => (if bt264.2.2 = true then (if bt264.1 = 1 then (lienref22_ReadMsg.j0 k bt264.1 bt264.2.1 false) else (lienref22_ReadMsg.j0 k bt264.1 bt264.2.1 (bt264.1 != 2))) else (lienref22_ReadMsg.j0 k bt264.1 bt264.2.1 true))
theorem lienref22_ReadMsg.mono_l : ∀ k, (∀ y0 y1 y2, LeO (lienref22_ReadMsg.j0 k y0 y1 y2) (lienref22_ReadMsg.j0 (k + 1) y0 y1 y2)) ∧ (∀ y0 y1 y2, LeO (lienref22_ReadMsg.j1 k y0 y1 y2) (lienref22_ReadMsg.j1 (k + 1) y0 y1 y2))
  | 0 => ⟨fun _ _ _ r h => by simp [lienref22_ReadMsg.j0] at h, fun _ _ _ r h => by simp [lienref22_ReadMsg.j1] at h⟩
  | k + 1 => by
    obtain ⟨ih0, ih1⟩ := lienref22_ReadMsg.mono_l k
    refine ⟨?_, ?_⟩
    · intro y0 y1 y2
      unfold lienref22_ReadMsg.j0
      repeat' first
      | (with_reducible exact ih0 _ _ _)
      | (with_reducible exact ih1 _ _ _)
      | (with_reducible exact lienref02_TakeNum.mono _ _)
      | (with_reducible exact lienref22_taken.mono _ _ _)
      | (with_reducible exact LeO.refl _)
      | (with_reducible exact LeO.none _)
      | (with_reducible refine LeO.ite ?_ ?_)
      | (with_reducible refine LeO.bind ?_ (fun _ => ?_))
      | exact ih0 _ _ _
      | exact ih1 _ _ _
      | exact lienref02_TakeNum.mono _ _
      | exact lienref22_taken.mono _ _ _
      | exact LeO.none _
      | refine LeO.ite ?_ ?_
      | refine LeO.bind ?_ (fun _ => ?_)
    · intro y0 y1 y2
      unfold lienref22_ReadMsg.j1
      repeat' first
      | (with_reducible exact ih0 _ _ _)
      | (with_reducible exact ih1 _ _ _)
      | (with_reducible exact lienref02_TakeNum.mono _ _)
      | (with_reducible exact lienref22_taken.mono _ _ _)
      | (with_reducible exact LeO.refl _)
      | (with_reducible exact LeO.none _)
      | (with_reducible refine LeO.ite ?_ ?_)
      | (with_reducible refine LeO.bind ?_ (fun _ => ?_))
      | exact ih0 _ _ _
      | exact ih1 _ _ _
      | exact lienref02_TakeNum.mono _ _
      | exact lienref22_taken.mono _ _ _
      | exact LeO.none _
      | refine LeO.ite ?_ ?_
      | refine LeO.bind ?_ (fun _ => ?_)
theorem lienref22_ReadMsg.mono : ∀ a0 k, LeO (lienref22_ReadMsg.f k a0) (lienref22_ReadMsg.f (k + 1) a0) := by
  intro a0 k
  obtain ⟨ih0, ih1⟩ := lienref22_ReadMsg.mono_l k
  unfold lienref22_ReadMsg.f
  repeat' first
      | (with_reducible exact ih0 _ _ _)
      | (with_reducible exact ih1 _ _ _)
      | (with_reducible exact lienref02_TakeNum.mono _ _)
      | (with_reducible exact lienref22_taken.mono _ _ _)
      | (with_reducible exact LeO.refl _)
      | (with_reducible exact LeO.none _)
      | (with_reducible refine LeO.ite ?_ ?_)
      | (with_reducible refine LeO.bind ?_ (fun _ => ?_))
      | exact ih0 _ _ _
      | exact ih1 _ _ _
      | exact lienref02_TakeNum.mono _ _
      | exact lienref22_taken.mono _ _ _
      | exact LeO.none _
      | refine LeO.ite ?_ ?_
      | refine LeO.bind ?_ (fun _ => ?_)
def lienref22_ReadMsg.T10 : Bool × List (List Nat × List Nat) := (true, [([], []), ([0], [0]), ([], []), ([2], [2]), ([3], [3]), ([4], [4]), ([], []), ([6], [6]), ([7], [7]), ([8], [8]), ([1, 5, 9], [1, 5, 9]), ([], []), ([11, 10, 0, 1, 2, 3, 4, 5, 6, 7, 8, 9, 10, 11], [10, 11])])
def lienref22_ReadMsg.B10 : List Nat := [0, 1, 0, 4, 12, 28, 0, 64, 192, 448, 1023, 0, 4095]
theorem lienref22_ReadMsg.tab10 : rtab .any (opsOf Try.f13 10) = lienref22_ReadMsg.T10 := by kernel_rfl
theorem lienref22_ReadMsg.bits10 : waitsOk lienref22_ReadMsg.T10.2 lienref22_ReadMsg.B10 = true := by kernel_rfl
set_option maxHeartbeats 8000000 in
set_option maxRecDepth 100000 in
theorem lienref22_ReadMsg.calls (k : Nat) (A0 : Option Addr) (c0 : Nat) (l0 : List Int) (r1 : Int) (r2 : Int) (r3 : Int) (r4 : ByteArray) (r5 : Int) (r6 : Int) (w : World) (hr0 : Kd.C (Kd.int .u8) w A0 l0.length l0) (hc0 : l0.length ≤ c0) (h : lienref22_ReadMsg.f k l0 = some (r1, r2, r3, r4, r5, r6)) :
    Calls Try.prog 13 #[.slice A0 l0.length c0] w fun e w' => e = .returned (.tuple #[.agg #[.int .i64 r1, .int .i64 r2, .int .i64 r3, .string r4, .int .i64 r5], .int .i64 r6]) ∧ Below w.heap.size w w' := by
  have hu24 := Try.underlying24
  have hu62 := Try.underlying62
  have HR0 := Aside0.mk hr0
  have HC0 := Aside0.mk hc0
  clear hr0 hc0
  have HB := Aside0.mk (Below.refl w.heap.size w)
  have H : ((lienref02_TakeNum.f k l0).bind fun bt264 => (if bt264.2.2 = true then (if bt264.1 = 1 then (lienref22_ReadMsg.j0 k bt264.1 bt264.2.1 false) else (lienref22_ReadMsg.j0 k bt264.1 bt264.2.1 (bt264.1 != 2))) else (lienref22_ReadMsg.j0 k bt264.1 bt264.2.1 true))) = some (r1, r2, r3, r4, r5, r6) := h
  clear h
  replace H := Option.bind_eq_some_iff.mp H
  obtain ⟨⟨t264, t265, t266⟩, A20, H⟩ := H
  replace H : (if t266 = true then (if t264 = 1 then (lienref22_ReadMsg.j0 k t264 t265 false) else (lienref22_ReadMsg.j0 k t264 t265 (t264 != 2))) else (lienref22_ReadMsg.j0 k t264 t265 true)) = some (r1, r2, r3, r4, r5, r6) := H
  have A2 := Aside0.mk A20
  clear A20
  have HC3 := Aside0.mk H
  clear H
  go_enter Try.func13, Try.ntmps13
  go_upto_region 2 with (first | ((with_reducible refine gate_dst (N := 2) rfl ?_); refine box_event ?hg (N := 2) ?hd (cs := #[.int .i64 0, .int .i64 0, .int .i64 0, .string (⟨#[]⟩ : ByteArray), .int .i64 0]) (t := 24) ?hr ?_; (case hd => rfl); (case hg => rfl); (case hr => first | (go_simp; done) | (go_simp; rfl)); intro gb263 hg w4 hbox hb; have n0_ := Aside0.mk (below_step (by repeat (first | (with_reducible first | exact HB.out | apply below_alloc | apply pw_below_drewN | apply below_drew1) | exact HB.out)) hb); have n1_ := Aside0.mk (hbox); have n2_ := Aside0.mk ((by rw [hg]; exact (below_size (by repeat (first | (with_reducible first | exact HB.out | apply below_alloc | apply pw_below_drewN | apply below_drew1) | exact HB.out))) : w.heap.size ≤ gb263)); have n3_ := Aside0.mk ((by rw [hg]; exact (below_size (by repeat (first | (with_reducible first | exact HB.out | apply below_alloc | apply pw_below_drewN | apply below_drew1) | exact HB.out))) : w.heap.size ≤ gb263)); clear HB; have HB := n0_; have BK263 := n1_; have GW263 := n2_; have GE263 := n3_; clear n0_ n1_ n2_ n3_; clear hb hbox hg) | ((with_reducible refine gate_callee (f := 36) rfl ?_); refine goesL_ (some 13) rfl rfl Try.func36 (by kernel_rfl) rfl #[.slice A0 l0.length c0] rfl (by (try simp only [List.map_toArray, List.map_cons, List.map_nil]); first | done | rfl | (simp only [List.length_drop, List.length_take]; rfl)) ?_; (with_reducible refine (lienref02_TakeNum.calls k _ _ l0 t264 t265 t266 _ ?side1 ?side2 A2.out).mono ?_); (case side1 => repeat (first | exact (Kd.C_below HR0.out HB.out) | (with_reducible refine Kd.C_alloc ?_ _) | (with_reducible refine Kd.C_drewN ?_ _) | (with_reducible refine Kd.C_drew ?_))); (case side2 => exact HC0.out); rintro e w5 ⟨v267, rfl, ho0, hb⟩; refine ⟨_, rfl, ?_⟩; have n0_ := Aside0.mk (Kd.R_lower ho0 (below_size (by repeat (first | (with_reducible first | exact HB.out | apply below_alloc | apply pw_below_drewN | apply below_drew1 | refine below_set ?_ GE263.out) | exact HB.out)))); have n1_ := Aside0.mk (blk_below (g := gb263) (o := .cells #[.int .i64 0, .int .i64 0, .int .i64 0, .string (⟨#[]⟩ : ByteArray), .int .i64 0] 24 (0, 0)) (by (with_reducible repeat (first | refine blk_drewN ?_ _ | refine blk_drew ?_ | refine blk_alloc ?_ _)); exact BK263.out) hb); have n2_ := Aside0.mk (below_step (by repeat (first | (with_reducible first | exact HB.out | apply below_alloc | apply pw_below_drewN | apply below_drew1 | refine below_set ?_ GE263.out) | exact HB.out)) hb); clear BK263; clear HB; have HO268 := n0_; have BK263 := n1_; have HB := n2_; clear n0_ n1_ n2_; (try clear hb); (try clear hb2); (try clear hk); (try clear hi); (try clear ho0)))
  (try simp only [Act.put, List.setIfInBounds_toArray, List.set_cons_zero, List.set_cons_succ])
  go_cut [26] (fun v26 wc => ∃ (kq : Nat) (x26_2 : Bool), v26 = .bool x26_2 ∧ Aside0 (lienref22_ReadMsg.j0 kq t264 t265 x26_2 = some (r1, r2, r3, r4, r5, r6)) ∧ Aside0 (kq ≤ k) ∧ Aside0 (Kd.R (Kd.int .u8) 5 wc w.heap.size (fun _ => True) v267 t265) ∧ Aside0 (wc.heap[gb263]? = some (.cells #[.int .i64 0, .int .i64 0, .int .i64 0, .string (⟨#[]⟩ : ByteArray), .int .i64 0] 24 (0, 0))) ∧ Aside0 (Below w.heap.size w wc))
  case first =>
    have H := HC3.out
    clear HC3
    by_cases c6 : t266 = true
    · subst c6
      have H1 : (if t264 = 1 then (lienref22_ReadMsg.j0 k t264 t265 false) else (lienref22_ReadMsg.j0 k t264 t265 (t264 != 2))) = some (r1, r2, r3, r4, r5, r6) := by rw [if_pos rfl] at H; exact H
      clear H
      have H := H1
      clear H1
      by_cases c7 : t264 = 1
      · rw [if_pos c7] at H
        have c7b0 : (t264 == 1) = true := beq_iff_eq.mpr c7
        have c7b1 : (t264 != 1) = false := bne_eq_false_iff_eq.mpr c7
        clear c7
        (first | rw [c7b0] | (simp only [i64_w, i32_w]; rw [c7b0]) | skip)
        have H' := Aside0.mk H
        clear H
        go_wp2
        go_meet
        case rel => exact ⟨_, (false), (by first | rfl | (simp; done) | (simp [*]; done)), H', ⟨by first | omega | exact Nat.le_refl _⟩, ⟨by (with_reducible repeat (first | apply Kd.R_alloc | apply Kd.R_drewN | apply Kd.R_drew)); exact HO268.out⟩, ⟨by (with_reducible repeat (first | refine blk_drewN ?_ _ | refine blk_drew ?_ | refine blk_alloc ?_ _)); exact BK263.out⟩, ⟨by repeat (first | (with_reducible first | exact HB.out | apply below_alloc | apply pw_below_drewN | apply below_drew1 | refine below_set ?_ GE263.out) | exact HB.out)⟩⟩
      · rw [if_neg c7] at H
        have c7b0 : (t264 == 1) = false := beq_eq_false_iff_ne.mpr c7
        have c7b1 : (t264 != 1) = true := bne_iff_ne.mpr c7
        (first | rw [c7b0] | (simp only [i64_w, i32_w]; rw [c7b0]) | skip)
        have H' := Aside0.mk H
        clear H
        go_wp2
        go_meet
        case rel => exact ⟨_, ((t264 != 2)), (by first | rfl | (simp; done) | (simp [*]; done)), H', ⟨by first | omega | exact Nat.le_refl _⟩, ⟨by (with_reducible repeat (first | apply Kd.R_alloc | apply Kd.R_drewN | apply Kd.R_drew)); exact HO268.out⟩, ⟨by (with_reducible repeat (first | refine blk_drewN ?_ _ | refine blk_drew ?_ | refine blk_alloc ?_ _)); exact BK263.out⟩, ⟨by repeat (first | (with_reducible first | exact HB.out | apply below_alloc | apply pw_below_drewN | apply below_drew1 | refine below_set ?_ GE263.out) | exact HB.out)⟩⟩
    · replace c6 := Bool.eq_false_iff.mpr c6
      subst c6
      have H1 : (lienref22_ReadMsg.j0 k t264 t265 true) = some (r1, r2, r3, r4, r5, r6) := by rw [if_neg (show ¬ (false = true) by decide)] at H; exact H
      clear H
      have H := H1
      clear H1
      have H' := Aside0.mk H
      clear H
      go_wp2
      go_meet
      case rel => exact ⟨_, (true), (by first | rfl | (simp; done) | (simp [*]; done)), H', ⟨by first | omega | exact Nat.le_refl _⟩, ⟨by (with_reducible repeat (first | apply Kd.R_alloc | apply Kd.R_drewN | apply Kd.R_drew)); exact HO268.out⟩, ⟨by (with_reducible repeat (first | refine blk_drewN ?_ _ | refine blk_drew ?_ | refine blk_alloc ?_ _)); exact BK263.out⟩, ⟨by repeat (first | (with_reducible first | exact HB.out | apply below_alloc | apply pw_below_drewN | apply below_drew1 | refine below_set ?_ GE263.out) | exact HB.out)⟩⟩
  case rest =>
    clear HC3
    try clear c1
    try clear p2
    try clear c3
    try clear c6
    try clear c7
    try clear c7b0
    try clear c7b1
    obtain ⟨kq, x26_2, rfl, HA, HJ2, HO_5, BK263, HB⟩ := hcut
    cases kq with
    | zero => exact absurd HA.out (by simp [lienref22_ReadMsg.j0])
    | succ kj2 =>
      have H := HA.out
      clear HA
      simp only [lienref22_ReadMsg.j0] at H
      by_cases c8 : x26_2 = true
      · subst c8
        have H1 : (some (0, 0, 0, (⟨#[]⟩ : ByteArray), 0, 220)) = some (r1, r2, r3, r4, r5, r6) := by rw [if_pos rfl] at H; exact H
        clear H
        have H := H1
        clear H1
        simp only [Option.some.injEq, Prod.mk.injEq] at H
        obtain ⟨rfl, rfl, rfl, rfl, rfl, rfl⟩ := H
        have hcz9_0 : wc.cell? ⟨gb263, 0, none⟩ = some (.int .i64 0) := (blk_cell BK263.out 0).trans rfl
        have hcz9_1 : wc.cell? ⟨gb263, 1, none⟩ = some (.int .i64 0) := (blk_cell BK263.out 1).trans rfl
        have hcz9_2 : wc.cell? ⟨gb263, 2, none⟩ = some (.int .i64 0) := (blk_cell BK263.out 2).trans rfl
        have hcz9_3 : wc.cell? ⟨gb263, 3, none⟩ = some (.string (⟨#[]⟩ : ByteArray)) := (blk_cell BK263.out 3).trans rfl
        have hcz9_4 : wc.cell? ⟨gb263, 4, none⟩ = some (.int .i64 0) := (blk_cell BK263.out 4).trans rfl
        have hfz9_0 := blk_frozen BK263.out 0
        have hfz9_1 := blk_frozen BK263.out 1
        have hfz9_2 := blk_frozen BK263.out 2
        have hfz9_3 := blk_frozen BK263.out 3
        have hfz9_4 := blk_frozen BK263.out 4
        go_wp2
        refine bodyPost_ret (results_ct rfl _ _ gb263 24 #[.int .i64 0, .int .i64 0, .int .i64 0, .string (⟨#[]⟩ : ByteArray), .int .i64 0] (0, 0) _ rfl (by (with_reducible repeat (first | refine blk_drewN ?_ _ | refine blk_drew ?_ | refine blk_alloc ?_ _)); refine blk_put (cs := #[.int .i64 0, .int .i64 0, .int .i64 0, .string (⟨#[]⟩ : ByteArray), .int .i64 0]) ?_ 4 _ rfl; (with_reducible repeat (first | refine blk_drewN ?_ _ | refine blk_drew ?_ | refine blk_alloc ?_ _)); refine blk_put (cs := #[.int .i64 0, .int .i64 0, .int .i64 0, .string (⟨#[]⟩ : ByteArray), .int .i64 0]) ?_ 3 _ rfl; (with_reducible repeat (first | refine blk_drewN ?_ _ | refine blk_drew ?_ | refine blk_alloc ?_ _)); refine blk_put (cs := #[.int .i64 0, .int .i64 0, .int .i64 0, .string (⟨#[]⟩ : ByteArray), .int .i64 0]) ?_ 2 _ rfl; (with_reducible repeat (first | refine blk_drewN ?_ _ | refine blk_drew ?_ | refine blk_alloc ?_ _)); refine blk_put (cs := #[.int .i64 0, .int .i64 0, .int .i64 0, .string (⟨#[]⟩ : ByteArray), .int .i64 0]) ?_ 1 _ rfl; (with_reducible repeat (first | refine blk_drewN ?_ _ | refine blk_drew ?_ | refine blk_alloc ?_ _)); refine blk_put (cs := #[.int .i64 0, .int .i64 0, .int .i64 0, .string (⟨#[]⟩ : ByteArray), .int .i64 0]) ?_ 0 _ rfl; (with_reducible repeat (first | refine blk_drewN ?_ _ | refine blk_drew ?_ | refine blk_alloc ?_ _)); exact BK263.out) Try.underlying24 rfl (by kernel_rfl)) rfl ?_
        exact ⟨by first | rfl | (simp [errW_none, errW_some] <;> rfl) | (simp [*, errW_none, errW_some] <;> rfl), by repeat (first | (with_reducible first | exact HB.out | apply below_alloc | apply pw_below_drewN | apply below_drew1 | refine below_set ?_ GE263.out) | exact HB.out)⟩
      · replace c8 := Bool.eq_false_iff.mpr c8
        subst c8
        have H1 : (if t264 = 1 then ((lienref22_text.f (⟨#[]⟩ : ByteArray)).bind fun bt272 => (lienref22_ReadMsg.j1 kj2 t264 t265 (([(⟨false, 0, (⟨#[]⟩ : ByteArray)⟩ : S62), (⟨false, 0, (⟨#[]⟩ : ByteArray)⟩ : S62), (⟨bt272.1, bt272.2.1, bt272.2.2⟩ : S62), (⟨false, 0, (⟨#[]⟩ : ByteArray)⟩ : S62)] : List (S62))))) else (lienref22_ReadMsg.j1 kj2 t264 t265 (([(⟨false, 0, (⟨#[]⟩ : ByteArray)⟩ : S62), (⟨false, 0, (⟨#[]⟩ : ByteArray)⟩ : S62)] : List (S62))))) = some (r1, r2, r3, r4, r5, r6) := by rw [if_neg (show ¬ (false = true) by decide)] at H; exact H
        clear H
        have H := H1
        clear H1
        obtain ⟨y269, hy269⟩ : ∃ y_ : List (S62), y_ = (([(⟨false, 0, (⟨#[]⟩ : ByteArray)⟩ : S62), (⟨false, 0, (⟨#[]⟩ : ByteArray)⟩ : S62)] : List (S62))) := ⟨_, rfl⟩
        replace H : (if t264 = 1 then ((lienref22_text.f (⟨#[]⟩ : ByteArray)).bind fun bt272 => (lienref22_ReadMsg.j1 kj2 t264 t265 (([(⟨false, 0, (⟨#[]⟩ : ByteArray)⟩ : S62), (⟨false, 0, (⟨#[]⟩ : ByteArray)⟩ : S62), (⟨bt272.1, bt272.2.1, bt272.2.2⟩ : S62), (⟨false, 0, (⟨#[]⟩ : ByteArray)⟩ : S62)] : List (S62))))) else (lienref22_ReadMsg.j1 kj2 t264 t265 y269)) = some (r1, r2, r3, r4, r5, r6) := by first | (rw [hy269]; with_reducible exact H) | (have H2_ := (Option.bind_some _ _).symm.trans H; rw [hy269]; with_reducible exact H2_) | (have H2_ := (Option.bind_some _ _).symm.trans H; with_reducible exact H2_) | with_reducible exact H | (rw [hy269]; exact H) | exact H
        have Ny269 := Aside0.mk hy269
        clear hy269
        have HC10 := Aside0.mk H
        clear H
        go_upto_if 32 with (first | ((with_reducible refine gate_dst (N := 30) rfl ?_); refine Kd.R_lit k62 _ 62 ?hg (N := 30) ?hd (xs := ([(⟨false, 0, (⟨#[]⟩ : ByteArray)⟩ : S62), (⟨false, 0, (⟨#[]⟩ : ByteArray)⟩ : S62)] : List (S62))) (inner := [.bool false, .int .i64 0, .string (⟨#[]⟩ : ByteArray), .bool false, .int .i64 0, .string (⟨#[]⟩ : ByteArray)]) (ok := fun _ => True) (okp := fun _ => True) ?hr ?hp (fun _ hk => hk) trivial (Below.refl _ _) (Nat.le_refl _) (by simp) ?_; (case hd => rfl); (case hg => rfl); (case hr => first | (go_simp; done) | (go_simp; rfl)); (case hp => exact (Reps.c3 (show Kd.M k62 _ _ _ (⟨false, 0, (⟨#[]⟩ : ByteArray)⟩ : S62) [.bool false, .int .i64 0, .string (⟨#[]⟩ : ByteArray)] from (k62_mkM _ _ _ (⟨false, 0, (⟨#[]⟩ : ByteArray)⟩ : S62) )) (Reps.c3 (show Kd.M k62 _ _ _ (⟨false, 0, (⟨#[]⟩ : ByteArray)⟩ : S62) [.bool false, .int .i64 0, .string (⟨#[]⟩ : ByteArray)] from (k62_mkM _ _ _ (⟨false, 0, (⟨#[]⟩ : ByteArray)⟩ : S62) )) (Reps.none _ _)))); intro v270 w11 ho12 hb hg_ hnew_; clear hg_ hnew_; (first | rw [← Ny269.out] at ho12 | (simp only [Int.reduceToNat] at ho12; rw [← Ny269.out] at ho12)); have n0_ := Aside0.mk (Kd.R_below (by (with_reducible repeat (first | apply Kd.R_alloc | apply Kd.R_drewN | apply Kd.R_drew)); exact HO_5.out) hb); have n1_ := Aside0.mk (Kd.R_lower ho12 (below_size (by repeat (first | (with_reducible first | exact HB.out | apply below_alloc | apply pw_below_drewN | apply below_drew1 | refine below_set ?_ GE263.out) | exact HB.out)))); have n2_ := Aside0.mk (blk_below (g := gb263) (o := .cells #[.int .i64 0, .int .i64 0, .int .i64 0, .string (⟨#[]⟩ : ByteArray), .int .i64 0] 24 (0, 0)) (by (with_reducible repeat (first | refine blk_drewN ?_ _ | refine blk_drew ?_ | refine blk_alloc ?_ _)); exact BK263.out) hb); have n3_ := Aside0.mk (below_step (by repeat (first | (with_reducible first | exact HB.out | apply below_alloc | apply pw_below_drewN | apply below_drew1 | refine below_set ?_ GE263.out) | exact HB.out)) hb); clear HO_5; clear BK263; clear HB; have HO_5 := n0_; have HO271 := n1_; have BK263 := n2_; have HB := n3_; clear n0_ n1_ n2_ n3_; clear hb ho12))
        (try simp only [Act.put, List.setIfInBounds_toArray, List.set_cons_zero, List.set_cons_succ])
        go_cut [7] (fun v7 wc => ∃ (kq : Nat) (x7_9 : List (S62)), Aside0 (lienref22_ReadMsg.j1 kq t264 t265 x7_9 = some (r1, r2, r3, r4, r5, r6)) ∧ Aside0 (kq ≤ kj2) ∧ Aside0 (Kd.R (Kd.int .u8) 5 wc w.heap.size (fun _ => True) v267 t265) ∧ Aside0 (Kd.R k62 62 wc w.heap.size (fun _ => True) v7 x7_9) ∧ Aside0 (wc.heap[gb263]? = some (.cells #[.int .i64 0, .int .i64 0, .int .i64 0, .string (⟨#[]⟩ : ByteArray), .int .i64 0] 24 (0, 0))) ∧ Aside0 (Below w.heap.size w wc))
        case first =>
          have H := HC10.out
          clear HC10
          by_cases c13 : t264 = 1
          · rw [if_pos c13] at H
            have c13b0 : (t264 == 1) = true := beq_iff_eq.mpr c13
            have c13b1 : (t264 != 1) = false := bne_eq_false_iff_eq.mpr c13
            clear c13
            (first | rw [c13b0] | (simp only [i64_w, i32_w]; rw [c13b0]) | skip)
            replace H := Option.bind_eq_some_iff.mp H
            obtain ⟨⟨t272, t273, t274⟩, A140, H⟩ := H
            replace H : (lienref22_ReadMsg.j1 kj2 t264 t265 (([(⟨false, 0, (⟨#[]⟩ : ByteArray)⟩ : S62), (⟨false, 0, (⟨#[]⟩ : ByteArray)⟩ : S62), (⟨t272, t273, t274⟩ : S62), (⟨false, 0, (⟨#[]⟩ : ByteArray)⟩ : S62)] : List (S62)))) = some (r1, r2, r3, r4, r5, r6) := H
            have A14 := Aside0.mk A140
            clear A140
            obtain ⟨y275, hy275⟩ : ∃ y_ : List (S62), y_ = (([(⟨false, 0, (⟨#[]⟩ : ByteArray)⟩ : S62), (⟨false, 0, (⟨#[]⟩ : ByteArray)⟩ : S62), (⟨t272, t273, t274⟩ : S62), (⟨false, 0, (⟨#[]⟩ : ByteArray)⟩ : S62)] : List (S62))) := ⟨_, rfl⟩
            replace H : (lienref22_ReadMsg.j1 kj2 t264 t265 y275) = some (r1, r2, r3, r4, r5, r6) := by first | (rw [hy275]; with_reducible exact H) | (have H2_ := (Option.bind_some _ _).symm.trans H; rw [hy275]; with_reducible exact H2_) | (have H2_ := (Option.bind_some _ _).symm.trans H; with_reducible exact H2_) | with_reducible exact H | (rw [hy275]; exact H) | exact H
            have Ny275 := Aside0.mk hy275
            clear hy275
            have H' := Aside0.mk H
            clear H
            go_wp2_with (first | ((with_reducible refine gate_callee (f := 31) rfl ?_); refine goesL_ (some 35) rfl rfl Try.func31 (by kernel_rfl) rfl #[.string (⟨#[]⟩ : ByteArray)] rfl (by (try simp only [List.map_toArray, List.map_cons, List.map_nil]); first | done | rfl | (simp only [List.length_drop, List.length_take]; rfl)) ?_; (with_reducible refine (lienref22_text.calls (⟨#[]⟩ : ByteArray) t272 t273 t274 _ A14.out).mono ?_); rintro e w15 ⟨rfl, hb⟩; refine ⟨_, rfl, ?_⟩; have n0_ := Aside0.mk (Kd.R_below (by (with_reducible repeat (first | apply Kd.R_alloc | apply Kd.R_drewN | apply Kd.R_drew)); exact HO_5.out) hb); have n1_ := Aside0.mk (Kd.R_below (by (with_reducible repeat (first | apply Kd.R_alloc | apply Kd.R_drewN | apply Kd.R_drew)); exact HO271.out) hb); have n2_ := Aside0.mk (blk_below (g := gb263) (o := .cells #[.int .i64 0, .int .i64 0, .int .i64 0, .string (⟨#[]⟩ : ByteArray), .int .i64 0] 24 (0, 0)) (by (with_reducible repeat (first | refine blk_drewN ?_ _ | refine blk_drew ?_ | refine blk_alloc ?_ _)); exact BK263.out) hb); have n3_ := Aside0.mk (below_step (by repeat (first | (with_reducible first | exact HB.out | apply below_alloc | apply pw_below_drewN | apply below_drew1 | refine below_set ?_ GE263.out) | exact HB.out)) hb); clear HO_5; clear HO271; clear BK263; clear HB; have HO_5 := n0_; have HO271 := n1_; have BK263 := n2_; have HB := n3_; clear n0_ n1_ n2_ n3_; (try clear hb); (try clear hb2); (try clear hk); (try clear hi)) | ((with_reducible refine gate_dst (N := 37) rfl ?_); refine Kd.R_lit k62 _ 62 ?hg (N := 37) ?hd (xs := ([(⟨false, 0, (⟨#[]⟩ : ByteArray)⟩ : S62), (⟨false, 0, (⟨#[]⟩ : ByteArray)⟩ : S62), (⟨t272, t273, t274⟩ : S62), (⟨false, 0, (⟨#[]⟩ : ByteArray)⟩ : S62)] : List (S62))) (inner := [.bool false, .int .i64 0, .string (⟨#[]⟩ : ByteArray), .bool false, .int .i64 0, .string (⟨#[]⟩ : ByteArray), .bool t272, .int .i64 t273, .string t274, .bool false, .int .i64 0, .string (⟨#[]⟩ : ByteArray)]) (ok := fun _ => True) (okp := fun _ => True) ?hr ?hp (fun _ hk => hk) trivial (Below.refl _ _) (Nat.le_refl _) (by simp) ?_; (case hd => rfl); (case hg => rfl); (case hr => first | (go_simp; done) | (go_simp; rfl)); (case hp => exact (Reps.c3 (show Kd.M k62 _ _ _ (⟨false, 0, (⟨#[]⟩ : ByteArray)⟩ : S62) [.bool false, .int .i64 0, .string (⟨#[]⟩ : ByteArray)] from (k62_mkM _ _ _ (⟨false, 0, (⟨#[]⟩ : ByteArray)⟩ : S62) )) (Reps.c3 (show Kd.M k62 _ _ _ (⟨false, 0, (⟨#[]⟩ : ByteArray)⟩ : S62) [.bool false, .int .i64 0, .string (⟨#[]⟩ : ByteArray)] from (k62_mkM _ _ _ (⟨false, 0, (⟨#[]⟩ : ByteArray)⟩ : S62) )) (Reps.c3 (show Kd.M k62 _ _ _ (⟨t272, t273, t274⟩ : S62) [.bool t272, .int .i64 t273, .string t274] from (k62_mkM _ _ _ (⟨t272, t273, t274⟩ : S62) )) (Reps.c3 (show Kd.M k62 _ _ _ (⟨false, 0, (⟨#[]⟩ : ByteArray)⟩ : S62) [.bool false, .int .i64 0, .string (⟨#[]⟩ : ByteArray)] from (k62_mkM _ _ _ (⟨false, 0, (⟨#[]⟩ : ByteArray)⟩ : S62) )) (Reps.none _ _)))))); intro v276 w16 ho17 hb hg_ hnew_; clear hg_ hnew_; (first | rw [← Ny275.out] at ho17 | (simp only [Int.reduceToNat] at ho17; rw [← Ny275.out] at ho17)); have n0_ := Aside0.mk (Kd.R_below (by (with_reducible repeat (first | apply Kd.R_alloc | apply Kd.R_drewN | apply Kd.R_drew)); exact HO_5.out) hb); have n1_ := Aside0.mk (Kd.R_elder' (by (with_reducible repeat (first | apply Kd.R_alloc | apply Kd.R_drewN | apply Kd.R_drew)); exact HO271.out) (Kd.R_base ho17) hb); have n2_ := Aside0.mk (Kd.R_lower (Kd.R_new' ho17 (Kd.R_lt (by (with_reducible repeat (first | apply Kd.R_alloc | apply Kd.R_drewN | apply Kd.R_drew)); exact HO271.out))) (below_size (by repeat (first | (with_reducible first | exact HB.out | apply below_alloc | apply pw_below_drewN | apply below_drew1 | refine below_set ?_ GE263.out) | exact HB.out)))); have n3_ := Aside0.mk (blk_below (g := gb263) (o := .cells #[.int .i64 0, .int .i64 0, .int .i64 0, .string (⟨#[]⟩ : ByteArray), .int .i64 0] 24 (0, 0)) (by (with_reducible repeat (first | refine blk_drewN ?_ _ | refine blk_drew ?_ | refine blk_alloc ?_ _)); exact BK263.out) hb); have n4_ := Aside0.mk (below_step (by repeat (first | (with_reducible first | exact HB.out | apply below_alloc | apply pw_below_drewN | apply below_drew1 | refine below_set ?_ GE263.out) | exact HB.out)) hb); clear HO_5; clear HO271; clear BK263; clear HB; have HO_5 := n0_; have HO271 := n1_; have HO277 := n2_; have BK263 := n3_; have HB := n4_; clear n0_ n1_ n2_ n3_ n4_; clear hb ho17))
            go_meet
            case rel => exact ⟨_, (y275), H', ⟨by have := HJ2.out; first | omega | exact Nat.le_refl _⟩, ⟨by (with_reducible repeat (first | apply Kd.R_alloc | apply Kd.R_drewN | apply Kd.R_drew)); exact HO_5.out⟩, ⟨by (with_reducible repeat (first | apply Kd.R_alloc | apply Kd.R_drewN | apply Kd.R_drew)); exact Kd.R_mono HO277.out (fun _ hk => trivial)⟩, ⟨by (with_reducible repeat (first | refine blk_drewN ?_ _ | refine blk_drew ?_ | refine blk_alloc ?_ _)); exact BK263.out⟩, ⟨by repeat (first | (with_reducible first | exact HB.out | apply below_alloc | apply pw_below_drewN | apply below_drew1 | refine below_set ?_ GE263.out) | exact HB.out)⟩⟩
          · rw [if_neg c13] at H
            have c13b0 : (t264 == 1) = false := beq_eq_false_iff_ne.mpr c13
            have c13b1 : (t264 != 1) = true := bne_iff_ne.mpr c13
            (first | rw [c13b0] | (simp only [i64_w, i32_w]; rw [c13b0]) | skip)
            have H' := Aside0.mk H
            clear H
            go_wp2
            go_meet
            case rel => exact ⟨_, (y269), H', ⟨by have := HJ2.out; first | omega | exact Nat.le_refl _⟩, ⟨by (with_reducible repeat (first | apply Kd.R_alloc | apply Kd.R_drewN | apply Kd.R_drew)); exact HO_5.out⟩, ⟨by (with_reducible repeat (first | apply Kd.R_alloc | apply Kd.R_drewN | apply Kd.R_drew)); exact HO271.out⟩, ⟨by (with_reducible repeat (first | refine blk_drewN ?_ _ | refine blk_drew ?_ | refine blk_alloc ?_ _)); exact BK263.out⟩, ⟨by repeat (first | (with_reducible first | exact HB.out | apply below_alloc | apply pw_below_drewN | apply below_drew1 | refine below_set ?_ GE263.out) | exact HB.out)⟩⟩
        case rest =>
          clear HC10
          try clear c1
          try clear p2
          try clear c3
          try clear c6
          try clear c7
          try clear c7b0
          try clear c7b1
          try clear c8
          try clear c13
          try clear c13b0
          try clear c13b1
          try clear hcz9_0
          try clear hcz9_1
          try clear hcz9_2
          try clear hcz9_3
          try clear hcz9_4
          try clear hfz9_0
          try clear hfz9_1
          try clear hfz9_2
          try clear hfz9_3
          try clear hfz9_4
          try clear p2
          obtain ⟨kq, x7_9, HA, HJ9, HO_5, HO_7, BK263, HB⟩ := hcut
          cases kq with
          | zero => exact absurd HA.out (by simp [lienref22_ReadMsg.j1])
          | succ kj9 =>
            have H := HA.out
            clear HA
            simp only [lienref22_ReadMsg.j1] at H
            replace H := Option.bind_eq_some_iff.mp H
            obtain ⟨⟨t278, t281⟩, A180, H⟩ := H
            replace H : (if t281 = true then (if 0 < (t278.length : Int) then (if 1 < (t278.length : Int) then (if t264 = 1 then (if 2 < (t278.length : Int) then (if 3 < (t278.length : Int) then (some (wrap64 (t264), (rd_T62 t278 0).f1, (rd_T62 t278 1).f1, (rd_T62 t278 2).f2, (rd_T62 t278 3).f1, 0)) else (none)) else (none)) else (some (wrap64 (t264), (rd_T62 t278 0).f1, (rd_T62 t278 1).f1, (⟨#[]⟩ : ByteArray), 0, 0))) else (none)) else (none)) else (some (0, 0, 0, (⟨#[]⟩ : ByteArray), 0, 220))) = some (r1, r2, r3, r4, r5, r6) := H
            have A18 := Aside0.mk A180
            clear A180
            by_cases c19 : t281 = true
            · subst c19
              have H1 : (if 0 < (t278.length : Int) then (if 1 < (t278.length : Int) then (if t264 = 1 then (if 2 < (t278.length : Int) then (if 3 < (t278.length : Int) then (some (wrap64 (t264), (rd_T62 t278 0).f1, (rd_T62 t278 1).f1, (rd_T62 t278 2).f2, (rd_T62 t278 3).f1, 0)) else (none)) else (none)) else (some (wrap64 (t264), (rd_T62 t278 0).f1, (rd_T62 t278 1).f1, (⟨#[]⟩ : ByteArray), 0, 0))) else (none)) else (none)) = some (r1, r2, r3, r4, r5, r6) := by rw [if_pos rfl] at H; exact H
              clear H
              have H := H1
              clear H1
              by_cases c20 : 0 < (t278.length : Int)
              · rw [if_pos c20] at H
                have c20b0 : decide (0 < (t278.length : Int)) = true := decide_eq_true c20
                have c20b1 : decide (0 < t278.length) = true := decide_eq_true (by omega)
                clear c20
                by_cases c21 : 1 < (t278.length : Int)
                · rw [if_pos c21] at H
                  have c21b0 : decide (1 < (t278.length : Int)) = true := decide_eq_true c21
                  have c21b1 : decide (1 < t278.length) = true := decide_eq_true (by omega)
                  clear c21
                  obtain ⟨y0, hy0⟩ : ∃ y, (rd_T62 t278 0).f1 = y := ⟨_, rfl⟩
                  obtain ⟨y1, hy1⟩ : ∃ y, (rd_T62 t278 1).f1 = y := ⟨_, rfl⟩
                  rw [hy0, hy1] at H
                  have HH := Aside0.mk H
                  clear H
                  obtain ⟨Ao25, co25, eo25⟩ := Kd.R_slice HO_5.out
                  subst eo25
                  obtain ⟨Ao26, co26, eo26⟩ := Kd.R_slice HO_7.out
                  subst eo26
                  go_upto_region 10 with (first | ((with_reducible refine gate_callee (f := 37) rfl ?_); refine goesL_ (some 41) rfl rfl Try.func37 (by kernel_rfl) rfl #[.slice Ao25 t265.length co25, .slice Ao26 x7_9.length co26] rfl (by (try simp only [List.map_toArray, List.map_cons, List.map_nil]); first | done | rfl | (simp only [List.length_drop, List.length_take]; rfl)) ?_; (with_reducible refine (lienref22_taken.calls kj9 (fun k_ => some k_ = (.slice Ao25 t265.length co25 : Value).ownBlock) _ _ t265 _ _ x7_9 t278 true _ ?side1 ?side2 ?side3 A18.out).mono ?_); (case side1 => exact Kd.R_V (Kd.R_tight rfl (Kd.R_types (Kd.R_apart' (HO_5.out) (Kd.R_typed HO_7.out) (by decide)) BK263.out (by decide)))); (case side2 => repeat (first | exact (Kd.R_reads' HO_7.out).2.2 | (with_reducible refine Kd.C_alloc ?_ _) | (with_reducible refine Kd.C_drewN ?_ _) | (with_reducible refine Kd.C_drew ?_))); (case side3 => exact (Kd.R_reads' HO_7.out).2.1); rintro e w27 ⟨v279, rfl, ho0, hb⟩; refine ⟨_, rfl, ?_⟩; have n0_ := Aside0.mk (Kd.R_below (by (with_reducible repeat (first | apply Kd.R_alloc | apply Kd.R_drewN | apply Kd.R_drew)); exact HO_5.out) hb); have n1_ := Aside0.mk (Kd.R_elder' (by (with_reducible repeat (first | apply Kd.R_alloc | apply Kd.R_drewN | apply Kd.R_drew)); exact HO_7.out) (Kd.R_base ho0) hb); have n2_ := Aside0.mk (Kd.R_lower (Kd.R_new' (Kd.R_mono (ok' := fun k_ => True) ho0 (fun _ hk_ => trivial)) (Kd.R_lt (by (with_reducible repeat (first | apply Kd.R_alloc | apply Kd.R_drewN | apply Kd.R_drew)); exact HO_7.out))) (below_size (by repeat (first | (with_reducible first | exact HB.out | apply below_alloc | apply pw_below_drewN | apply below_drew1 | refine below_set ?_ GE263.out) | exact HB.out)))); have n3_ := Aside0.mk (blk_below (g := gb263) (o := .cells #[.int .i64 0, .int .i64 0, .int .i64 0, .string (⟨#[]⟩ : ByteArray), .int .i64 0] 24 (0, 0)) (by (with_reducible repeat (first | refine blk_drewN ?_ _ | refine blk_drew ?_ | refine blk_alloc ?_ _)); exact BK263.out) hb); have n4_ := Aside0.mk (below_step (by repeat (first | (with_reducible first | exact HB.out | apply below_alloc | apply pw_below_drewN | apply below_drew1 | refine below_set ?_ GE263.out) | exact HB.out)) hb); clear HO_5; clear HO_7; clear BK263; clear HB; have HO_5 := n0_; have HO_7 := n1_; have HO280 := n2_; have BK263 := n3_; have HB := n4_; clear n0_ n1_ n2_ n3_ n4_; (try clear hb); (try clear hb2); (try clear hk); (try clear hi); (try clear ho0)))
                  (try simp only [Act.put, List.setIfInBounds_toArray, List.set_cons_zero, List.set_cons_succ])
                  go_cut [10] (fun v10 wc => ∃ g10 : Nat, v10 = .pointer (some ⟨g10, 0, none⟩) ∧ Aside0 (wc.heap[g10]? = some (.cells #[.int .i64 (wrap64 t264), .int .i64 y0, .int .i64 y1, .string (⟨#[]⟩ : ByteArray), .int .i64 0] 24 (0, 0))) ∧ Aside0 (wc.heap[gb263]? = some (.cells #[.int .i64 0, .int .i64 0, .int .i64 0, .string (⟨#[]⟩ : ByteArray), .int .i64 0] 24 (0, 0))) ∧ Aside0 (k62.R 62 wc w.heap.size (fun _ => True) v279 t278) ∧ Aside0 (Below w.heap.size w wc) ∧ Aside0 (gb263 ≠ g10) ∧ Aside0 (w.heap.size ≤ g10))
                  case first =>
                    have HX := Aside0.mk (Kd.R_mono HO280.out (ok' := fun _ => True) (fun _ _ => trivial))
                    obtain ⟨Ao29, co29, eo29⟩ := Kd.R_slice HO280.out
                    (first | subst eo29 | (injection eo29 with f1_ f2_ f3_; have f4_ := f1_.symm; have f5_ := f3_.symm; clear f1_ f2_ f3_; subst f4_; subst f5_))
                    have p282 : 0 ≤ (0 : Int) := (by omega)
                    have q282 : 0 < (t278.length : Int) := of_decide_eq_true (by first | (with_reducible assumption) | assumption)
                    obtain ⟨ad282, e282, hx282_0, hx282_1, hx282_2⟩ := at_T62 (Kd.R_reads' HO280.out).2.2 0 p282 q282
                    cases e282
                    have qi282 : (0 < t278.length) = True := eq_true (by omega)
                    (try rw [show ((0 : Int)).toNat = 0 from rfl] at hx282_0)
                    (try rw [show 0 * 3 = 0 from rfl] at hx282_0)
                    (try rw [Addr.add_zero'] at hx282_0)
                    (try rw [show ((0 : Int)).toNat = 0 from rfl] at hx282_1)
                    (try rw [show 0 * 3 = 0 from rfl] at hx282_1)
                    (try rw [Addr.add_zero'] at hx282_1)
                    (try rw [show ((0 : Int)).toNat = 0 from rfl] at hx282_2)
                    (try rw [show 0 * 3 = 0 from rfl] at hx282_2)
                    (try rw [Addr.add_zero'] at hx282_2)
                    replace p282 := eq_true p282
                    replace q282 := eq_true q282
                    have p283 : 0 ≤ (1 : Int) := (by omega)
                    have q283 : 1 < (t278.length : Int) := of_decide_eq_true (by first | (with_reducible assumption) | assumption)
                    obtain ⟨ad283, e283, hx283_0, hx283_1, hx283_2⟩ := at_T62 (Kd.R_reads' HO280.out).2.2 1 p283 q283
                    obtain rfl : ad282 = ad283 := (by injection e283)
                    (try simp only [show (1 : Int).toNat = 1 from rfl, Nat.reduceMul, Nat.reduceEqDiff, Go.Addr.add, ↓reduceIte] at hx283_0)
                    (try simp only [show (1 : Int).toNat = 1 from rfl, Nat.reduceMul, Nat.reduceEqDiff, Go.Addr.add, ↓reduceIte] at hx283_1)
                    (try simp only [show (1 : Int).toNat = 1 from rfl, Nat.reduceMul, Nat.reduceEqDiff, Go.Addr.add, ↓reduceIte] at hx283_2)
                    have qi283 : (1 < t278.length) = True := eq_true (by omega)
                    (try rw [show ((1 : Int)).toNat = 1 from rfl] at hx283_0)
                    (try rw [show 1 * 3 = 3 from rfl] at hx283_0)
                    (try rw [show ((1 : Int)).toNat = 1 from rfl] at hx283_1)
                    (try rw [show 1 * 3 = 3 from rfl] at hx283_1)
                    (try rw [show ((1 : Int)).toNat = 1 from rfl] at hx283_2)
                    (try rw [show 1 * 3 = 3 from rfl] at hx283_2)
                    replace p283 := eq_true p283
                    replace q283 := eq_true q283
                    rw [hy0] at hx282_1
                    rw [hy1] at hx283_1
                    clear hx282_0 hx282_2 hx283_0 hx283_2
                    clear hy0 hy1
                    clear e283
                    have ha0 := fun (o : Obj) => pw_cell_below (below_alloc (Below.refl _ _) o) hx282_1
                    have ha1 := fun (o : Obj) => pw_cell_below (below_alloc (Below.refl _ _) o) hx283_1
                    go_region
                    go_wp2
                    go_meet
                    case rel => exact ⟨_, rfl, ⟨blk_drew (blk_new w27 _)⟩, ⟨blk_drew (blk_alloc BK263.out _)⟩, ⟨Kd.R_drew (Kd.R_alloc HX.out _)⟩, ⟨(below_alloc HB.out _).drew⟩, ⟨Nat.ne_of_lt (blk_lt BK263.out)⟩, ⟨below_size HB.out⟩⟩
                  case rest =>
                    obtain ⟨g10, rfl, BK10, BK2, HOc, HBl, N26, HG10⟩ := hcut
                    clear HB BK263 HO280 HO_5 HO_7 hy0 hy1
                    have hne1 : ¬ gb263 = g10 := N26.out
                    have hne2 : ¬ g10 = gb263 := fun e => N26.out e.symm
                    have hcBK100 := blk_cell BK10.out 0
                    have hfBK100 := blk_frozen BK10.out 0
                    have hcBK101 := blk_cell BK10.out 1
                    have hfBK101 := blk_frozen BK10.out 1
                    have hcBK102 := blk_cell BK10.out 2
                    have hfBK102 := blk_frozen BK10.out 2
                    have hcBK103 := blk_cell BK10.out 3
                    have hfBK103 := blk_frozen BK10.out 3
                    have hcBK104 := blk_cell BK10.out 4
                    have hfBK104 := blk_frozen BK10.out 4
                    simp only [List.getElem?_toArray, List.getElem?_cons_zero, List.getElem?_cons_succ] at hcBK100 hcBK101 hcBK102 hcBK103 hcBK104
                    have hcBK20 := blk_cell BK2.out 0
                    have hfBK20 := blk_frozen BK2.out 0
                    have hcBK21 := blk_cell BK2.out 1
                    have hfBK21 := blk_frozen BK2.out 1
                    have hcBK22 := blk_cell BK2.out 2
                    have hfBK22 := blk_frozen BK2.out 2
                    have hcBK23 := blk_cell BK2.out 3
                    have hfBK23 := blk_frozen BK2.out 3
                    have hcBK24 := blk_cell BK2.out 4
                    have hfBK24 := blk_frozen BK2.out 4
                    simp only [List.getElem?_toArray, List.getElem?_cons_zero, List.getElem?_cons_succ] at hcBK20 hcBK21 hcBK22 hcBK23 hcBK24
                    have H := HH.out
                    clear HH
                    by_cases c22 : t264 = 1
                    · rw [if_pos c22] at H
                      have c22b0 : (t264 == 1) = true := beq_iff_eq.mpr c22
                      clear c22
                      by_cases c23 : 2 < (t278.length : Int)
                      · rw [if_pos c23] at H
                        have c23b1 : decide (2 < t278.length) = true := decide_eq_true (by omega)
                        have c23b0 : decide (2 < (t278.length : Int)) = true := decide_eq_true c23
                        by_cases c24 : 3 < (t278.length : Int)
                        · rw [if_pos c24] at H
                          have c24b1 : decide (3 < t278.length) = true := decide_eq_true (by omega)
                          have c24b0 : decide (3 < (t278.length : Int)) = true := decide_eq_true c24
                          obtain ⟨y2, hy2⟩ : ∃ y, (rd_T62 t278 2).f2 = y := ⟨_, rfl⟩
                          obtain ⟨y3, hy3⟩ : ∃ y, (rd_T62 t278 3).f1 = y := ⟨_, rfl⟩
                          rw [hy2, hy3] at H
                          simp only [Option.some.injEq, Prod.mk.injEq] at H
                          obtain ⟨rfl, rfl, rfl, rfl, rfl, rfl⟩ := H
                          obtain ⟨Ar, cr, er⟩ := Kd.R_slice HOc.out
                          subst er
                          obtain ⟨adr, e2, hr20, hr21, hr22⟩ := at_T62 (Kd.R_reads' HOc.out).2.2 2 (by omega) c23
                          cases e2
                          obtain ⟨ads, e3, hr30, hr31, hr32⟩ := at_T62 (Kd.R_reads' HOc.out).2.2 3 (by omega) c24
                          obtain rfl : adr = ads := (by injection e3)
                          obtain ⟨gr, rfl⟩ := Kd.R_head HOc.out
                          have hnr : gr ≠ g10 := fun e => Kd.R_ne HOc.out BK10.out (by decide) (by rw [e]; rfl)
                          clear hr20 hr21 hr30 hr32 e3 c23 c24
                          (try simp only [show (2 : Int).toNat = 2 from rfl, Nat.reduceMul, Nat.reduceEqDiff, Go.Addr.add, ↓reduceIte] at hr22)
                          (try simp only [show (3 : Int).toNat = 3 from rfl, Nat.reduceMul, Nat.reduceEqDiff, Go.Addr.add, ↓reduceIte] at hr31)
                          rw [hy2] at hr22
                          rw [hy3] at hr31
                          clear hy2 hy3
                          have hn1 : ¬ gr = g10 := hnr
                          have hn2 : ¬ g10 = gr := fun e => hnr e.symm
                          have qj2 : (2 < (t278.length : Int)) = True := eq_true (of_decide_eq_true c23b0)
                          have qj3 : (3 < (t278.length : Int)) = True := eq_true (of_decide_eq_true c24b0)
                          have qi2 : (2 < t278.length) = True := eq_true (of_decide_eq_true c23b1)
                          have qi3 : (3 < t278.length) = True := eq_true (of_decide_eq_true c24b1)
                          go_wp2
                          have G10 : w.heap.size ≤ g10 := HG10.out
                          refine bodyPost_ret (results_ct rfl _ _ gb263 24 #[.int .i64 (wrap64 t264), .int .i64 y0, .int .i64 y1, .string y2, .int .i64 y3] (0, 0) _ rfl (blk_put (cs' := #[.int .i64 (wrap64 t264), .int .i64 y0, .int .i64 y1, .string y2, .int .i64 y3]) (blk_put (cs' := #[.int .i64 (wrap64 t264), .int .i64 y0, .int .i64 y1, .string y2, .int .i64 0]) (blk_put (cs' := #[.int .i64 (wrap64 t264), .int .i64 y0, .int .i64 y1, .string (⟨#[]⟩ : ByteArray), .int .i64 0]) (blk_put (cs' := #[.int .i64 (wrap64 t264), .int .i64 y0, .int .i64 0, .string (⟨#[]⟩ : ByteArray), .int .i64 0]) (blk_put (cs' := #[.int .i64 (wrap64 t264), .int .i64 0, .int .i64 0, .string (⟨#[]⟩ : ByteArray), .int .i64 0]) (blk_far (p := ⟨g10, 4, none⟩) (blk_far (p := ⟨g10, 3, none⟩) BK2.out N26.out (.string y2)) N26.out (.int .i64 y3)) 0 (.int .i64 (wrap64 t264)) rfl) 1 (.int .i64 y0) rfl) 2 (.int .i64 y1) rfl) 3 (.string y2) rfl) 4 (.int .i64 y3) rfl) Try.underlying24 rfl (by kernel_rfl)) rfl ?_
                          exact ⟨rfl, (below_set (j := 4) (v := .int .i64 y3) (below_set (j := 3) (v := .string y2) (below_set (j := 2) (v := .int .i64 y1) (below_set (j := 1) (v := .int .i64 y0) (below_set (j := 0) (v := .int .i64 (wrap64 t264)) (((HBl.out).setCell (p := ⟨g10, 3, none⟩) G10 (.string y2)).setCell (p := ⟨g10, 4, none⟩) G10 (.int .i64 y3)) GE263.out) GE263.out) GE263.out) GE263.out) GE263.out)⟩
                        · rw [if_neg c24] at H
                          exact absurd H (by simp)
                      · rw [if_neg c23] at H
                        exact absurd H (by simp)
                    · rw [if_neg c22] at H
                      have c22b0 : (t264 == 1) = false := beq_eq_false_iff_ne.mpr c22
                      clear c22
                      simp only [Option.some.injEq, Prod.mk.injEq] at H
                      obtain ⟨rfl, rfl, rfl, rfl, rfl, rfl⟩ := H
                      go_wp2
                      refine bodyPost_ret (results_ct rfl _ _ gb263 24 #[.int .i64 (wrap64 t264), .int .i64 y0, .int .i64 y1, .string (⟨#[]⟩ : ByteArray), .int .i64 0] (0, 0) _ rfl (blk_put (cs' := #[.int .i64 (wrap64 t264), .int .i64 y0, .int .i64 y1, .string (⟨#[]⟩ : ByteArray), .int .i64 0]) (blk_put (cs' := #[.int .i64 (wrap64 t264), .int .i64 y0, .int .i64 y1, .string (⟨#[]⟩ : ByteArray), .int .i64 0]) (blk_put (cs' := #[.int .i64 (wrap64 t264), .int .i64 y0, .int .i64 y1, .string (⟨#[]⟩ : ByteArray), .int .i64 0]) (blk_put (cs' := #[.int .i64 (wrap64 t264), .int .i64 y0, .int .i64 0, .string (⟨#[]⟩ : ByteArray), .int .i64 0]) (blk_put (cs' := #[.int .i64 (wrap64 t264), .int .i64 0, .int .i64 0, .string (⟨#[]⟩ : ByteArray), .int .i64 0]) BK2.out 0 (.int .i64 (wrap64 t264)) rfl) 1 (.int .i64 y0) rfl) 2 (.int .i64 y1) rfl) 3 (.string (⟨#[]⟩ : ByteArray)) rfl) 4 (.int .i64 0) rfl) Try.underlying24 rfl (by kernel_rfl)) rfl ?_
                      exact ⟨rfl, (below_set (j := 4) (v := .int .i64 0) (below_set (j := 3) (v := .string (⟨#[]⟩ : ByteArray)) (below_set (j := 2) (v := .int .i64 y1) (below_set (j := 1) (v := .int .i64 y0) (below_set (j := 0) (v := .int .i64 (wrap64 t264)) HBl.out GE263.out) GE263.out) GE263.out) GE263.out) GE263.out)⟩
                · rw [if_neg c21] at H
                  exact absurd H (by simp)
              · rw [if_neg c20] at H
                exact absurd H (by simp)
            · replace c19 := Bool.eq_false_iff.mpr c19
              subst c19
              have H1 : (some (0, 0, 0, (⟨#[]⟩ : ByteArray), 0, 220)) = some (r1, r2, r3, r4, r5, r6) := by rw [if_neg (show ¬ (false = true) by decide)] at H; exact H
              clear H
              have H := H1
              clear H1
              simp only [Option.some.injEq, Prod.mk.injEq] at H
              obtain ⟨rfl, rfl, rfl, rfl, rfl, rfl⟩ := H
              obtain ⟨Ao53, co53, eo53⟩ := Kd.R_slice HO_5.out
              subst eo53
              obtain ⟨Ao54, co54, eo54⟩ := Kd.R_slice HO_7.out
              subst eo54
              go_wp2_with (first | ((with_reducible refine gate_callee (f := 37) rfl ?_); refine goesL_ (some 41) rfl rfl Try.func37 (by kernel_rfl) rfl #[.slice Ao53 t265.length co53, .slice Ao54 x7_9.length co54] rfl (by (try simp only [List.map_toArray, List.map_cons, List.map_nil]); first | done | rfl | (simp only [List.length_drop, List.length_take]; rfl)) ?_; (with_reducible refine (lienref22_taken.calls kj9 (fun k_ => some k_ = (.slice Ao53 t265.length co53 : Value).ownBlock) _ _ t265 _ _ x7_9 t278 false _ ?side1 ?side2 ?side3 A18.out).mono ?_); (case side1 => exact Kd.R_V (Kd.R_tight rfl (Kd.R_types (Kd.R_apart' (HO_5.out) (Kd.R_typed HO_7.out) (by decide)) BK263.out (by decide)))); (case side2 => repeat (first | exact (Kd.R_reads' HO_7.out).2.2 | (with_reducible refine Kd.C_alloc ?_ _) | (with_reducible refine Kd.C_drewN ?_ _) | (with_reducible refine Kd.C_drew ?_))); (case side3 => exact (Kd.R_reads' HO_7.out).2.1); rintro e w55 ⟨v279, rfl, ho0, hb⟩; refine ⟨_, rfl, ?_⟩; have n0_ := Aside0.mk (Kd.R_below (by (with_reducible repeat (first | apply Kd.R_alloc | apply Kd.R_drewN | apply Kd.R_drew)); exact HO_5.out) hb); have n1_ := Aside0.mk (Kd.R_elder' (by (with_reducible repeat (first | apply Kd.R_alloc | apply Kd.R_drewN | apply Kd.R_drew)); exact HO_7.out) (Kd.R_base ho0) hb); have n2_ := Aside0.mk (Kd.R_lower (Kd.R_new' (Kd.R_mono (ok' := fun k_ => True) ho0 (fun _ hk_ => trivial)) (Kd.R_lt (by (with_reducible repeat (first | apply Kd.R_alloc | apply Kd.R_drewN | apply Kd.R_drew)); exact HO_7.out))) (below_size (by repeat (first | (with_reducible first | exact HB.out | apply below_alloc | apply pw_below_drewN | apply below_drew1 | refine below_set ?_ GE263.out) | exact HB.out)))); have n3_ := Aside0.mk (blk_below (g := gb263) (o := .cells #[.int .i64 0, .int .i64 0, .int .i64 0, .string (⟨#[]⟩ : ByteArray), .int .i64 0] 24 (0, 0)) (by (with_reducible repeat (first | refine blk_drewN ?_ _ | refine blk_drew ?_ | refine blk_alloc ?_ _)); exact BK263.out) hb); have n4_ := Aside0.mk (below_step (by repeat (first | (with_reducible first | exact HB.out | apply below_alloc | apply pw_below_drewN | apply below_drew1 | refine below_set ?_ GE263.out) | exact HB.out)) hb); clear HO_5; clear HO_7; clear BK263; clear HB; have HO_5 := n0_; have HO_7 := n1_; have HO280 := n2_; have BK263 := n3_; have HB := n4_; clear n0_ n1_ n2_ n3_ n4_; (try clear hb); (try clear hb2); (try clear hk); (try clear hi); (try clear ho0); have hcz56_0 : w55.cell? ⟨gb263, 0, none⟩ = some (.int .i64 0) := (blk_cell BK263.out 0).trans rfl; have hcz56_1 : w55.cell? ⟨gb263, 1, none⟩ = some (.int .i64 0) := (blk_cell BK263.out 1).trans rfl; have hcz56_2 : w55.cell? ⟨gb263, 2, none⟩ = some (.int .i64 0) := (blk_cell BK263.out 2).trans rfl; have hcz56_3 : w55.cell? ⟨gb263, 3, none⟩ = some (.string (⟨#[]⟩ : ByteArray)) := (blk_cell BK263.out 3).trans rfl; have hcz56_4 : w55.cell? ⟨gb263, 4, none⟩ = some (.int .i64 0) := (blk_cell BK263.out 4).trans rfl; have hfz56_0 := blk_frozen BK263.out 0; have hfz56_1 := blk_frozen BK263.out 1; have hfz56_2 := blk_frozen BK263.out 2; have hfz56_3 := blk_frozen BK263.out 3; have hfz56_4 := blk_frozen BK263.out 4))
              refine bodyPost_ret (results_ct rfl _ _ gb263 24 #[.int .i64 0, .int .i64 0, .int .i64 0, .string (⟨#[]⟩ : ByteArray), .int .i64 0] (0, 0) _ rfl (by (with_reducible repeat (first | refine blk_drewN ?_ _ | refine blk_drew ?_ | refine blk_alloc ?_ _)); refine blk_put (cs := #[.int .i64 0, .int .i64 0, .int .i64 0, .string (⟨#[]⟩ : ByteArray), .int .i64 0]) ?_ 4 _ rfl; (with_reducible repeat (first | refine blk_drewN ?_ _ | refine blk_drew ?_ | refine blk_alloc ?_ _)); refine blk_put (cs := #[.int .i64 0, .int .i64 0, .int .i64 0, .string (⟨#[]⟩ : ByteArray), .int .i64 0]) ?_ 3 _ rfl; (with_reducible repeat (first | refine blk_drewN ?_ _ | refine blk_drew ?_ | refine blk_alloc ?_ _)); refine blk_put (cs := #[.int .i64 0, .int .i64 0, .int .i64 0, .string (⟨#[]⟩ : ByteArray), .int .i64 0]) ?_ 2 _ rfl; (with_reducible repeat (first | refine blk_drewN ?_ _ | refine blk_drew ?_ | refine blk_alloc ?_ _)); refine blk_put (cs := #[.int .i64 0, .int .i64 0, .int .i64 0, .string (⟨#[]⟩ : ByteArray), .int .i64 0]) ?_ 1 _ rfl; (with_reducible repeat (first | refine blk_drewN ?_ _ | refine blk_drew ?_ | refine blk_alloc ?_ _)); refine blk_put (cs := #[.int .i64 0, .int .i64 0, .int .i64 0, .string (⟨#[]⟩ : ByteArray), .int .i64 0]) ?_ 0 _ rfl; (with_reducible repeat (first | refine blk_drewN ?_ _ | refine blk_drew ?_ | refine blk_alloc ?_ _)); exact BK263.out) Try.underlying24 rfl (by kernel_rfl)) rfl ?_
              exact ⟨by first | rfl | (simp [errW_none, errW_some] <;> rfl) | (simp [*, errW_none, errW_some] <;> rfl), by repeat (first | (with_reducible first | exact HB.out | apply below_alloc | apply pw_below_drewN | apply below_drew1 | refine below_set ?_ GE263.out) | exact HB.out)⟩

-- NOT PRINTED: function 39 (wire_fields)

end Go.Proofs.Ytklnnmgfoebbhaa.PWireMsgs
