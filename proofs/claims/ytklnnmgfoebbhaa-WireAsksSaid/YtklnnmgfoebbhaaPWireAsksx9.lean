-- Written by wip/xprint of this repo (our own program) out of the translation; what is marked BY HAND is ours. Not trusted: Lean checks it.
import Derived.Test.YtklnnmgfoebbhaaPWireAsksx0
namespace Go.Proofs.Ytklnnmgfoebbhaa.PWireAsks
open Go.RowKit Go.Proofs.YtklnnmgfoebbhaaW.PrintWords Go.Proofs.YtklnnmgfoebbhaaW.PrintLast Go.Proofs.YtklnnmgfoebbhaaW.PrintMore
attribute [local go_sem] max2_int min2_int max_two min_two max_three min_three max_four min_four   -- for this text's walks alone
set_option linter.unusedVariables false
set_option linter.unusedSimpArgs false

/-! ### lienref22_made: function 41 -/
mutual
def lienref22_made.j0 : Nat → List (S62) → Int → Bool → Int → ByteArray → Int → Int → Int → Int → Int → Option (Int × ByteArray × Int × Int × Int × Int × Int)
  | 0, _, _, _, _, _, _, _, _, _, _ => none
  | k + 1, x1, x8, x9, x281000, x281001, x281002, x281003, x281004, x281005, x281006 => if x9 = true then (if 0 < (x1.length : Int) then (if 1 < (x1.length : Int) then (some (x281000, (rd_T62 x1 0).f2, x281002, (rd_T62 x1 1).f1, x281004, x281005, x281006)) else (none)) else (none)) else (if x8 = 3 then (if 0 < (x1.length : Int) then (if 1 < (x1.length : Int) then (if 2 < (x1.length : Int) then (if 3 < (x1.length : Int) then (some (x281000, (rd_T62 x1 0).f2, (rd_T62 x1 1).f1, (rd_T62 x1 2).f1, (rd_T62 x1 3).f1, x281005, x281006)) else (none)) else (none)) else (none)) else (none)) else (if x8 = 4 then (lienref22_made.j1 k x1 x8 (x8 == 4) x281000 x281001 x281002 x281003 x281004 x281005 x281006) else (lienref22_made.j1 k x1 x8 (x8 == 5) x281000 x281001 x281002 x281003 x281004 x281005 x281006)))
def lienref22_made.j1 : Nat → List (S62) → Int → Bool → Int → ByteArray → Int → Int → Int → Int → Int → Option (Int × ByteArray × Int × Int × Int × Int × Int)
  | 0, _, _, _, _, _, _, _, _, _, _ => none
  | k + 1, x1, x8, x45, x281000, x281001, x281002, x281003, x281004, x281005, x281006 => if x45 = true then (if 0 < (x1.length : Int) then (if 1 < (x1.length : Int) then (some (x281000, (rd_T62 x1 0).f2, (rd_T62 x1 1).f1, x281003, x281004, x281005, x281006)) else (none)) else (none)) else (if x8 = 6 then (lienref22_made.j2 k x1 x8 (x8 == 6) x281000 x281001 x281002 x281003 x281004 x281005 x281006) else (lienref22_made.j2 k x1 x8 (x8 == 12) x281000 x281001 x281002 x281003 x281004 x281005 x281006))
def lienref22_made.j2 : Nat → List (S62) → Int → Bool → Int → ByteArray → Int → Int → Int → Int → Int → Option (Int × ByteArray × Int × Int × Int × Int × Int)
  | 0, _, _, _, _, _, _, _, _, _, _ => none
  | k + 1, x1, x8, x58, x281000, x281001, x281002, x281003, x281004, x281005, x281006 => if x58 = true then (if 0 < (x1.length : Int) then (some (x281000, (rd_T62 x1 0).f2, x281002, x281003, x281004, x281005, x281006)) else (none)) else (if x8 = 7 then (if 0 < (x1.length : Int) then (some (x281000, x281001, x281002, (rd_T62 x1 0).f1, x281004, x281005, x281006)) else (none)) else (if x8 = 9 then (if 0 < (x1.length : Int) then (if 1 < (x1.length : Int) then (if 2 < (x1.length : Int) then (some (x281000, (rd_T62 x1 0).f2, x281002, (rd_T62 x1 2).f1, x281004, (rd_T62 x1 1).f1, x281006)) else (none)) else (none)) else (none)) else (if x8 = 10 then (if 0 < (x1.length : Int) then (if 1 < (x1.length : Int) then (some (x281000, x281001, x281002, x281003, x281004, (rd_T62 x1 0).f1, (rd_T62 x1 1).f1)) else (none)) else (none)) else (if x8 = 11 then (if 0 < (x1.length : Int) then (if 1 < (x1.length : Int) then (if 2 < (x1.length : Int) then (if 3 < (x1.length : Int) then (some (x281000, (rd_T62 x1 2).f2, x281002, (rd_T62 x1 3).f1, x281004, (rd_T62 x1 0).f1, (rd_T62 x1 1).f1)) else (none)) else (none)) else (none)) else (none)) else (some (x281000, x281001, x281002, x281003, x281004, x281005, x281006))))))
end
def lienref22_made.f (k : Nat) (a0 : Int) (l1 : List (S62)) : Option (Int × ByteArray × Int × Int × Int × Int × Int) := if a0 = 1 then (lienref22_made.j0 k l1 a0 (a0 == 1) a0 (⟨#[]⟩ : ByteArray) 0 0 0 0 0) else (if a0 = 2 then (lienref22_made.j0 k l1 a0 (a0 == 2) a0 (⟨#[]⟩ : ByteArray) 0 0 0 0 0) else (lienref22_made.j0 k l1 a0 (a0 == 8) a0 (⟨#[]⟩ : ByteArray) 0 0 0 0 0))
theorem lienref22_made.mono_l : ∀ k, (∀ y0 y1 y2 y3 y4 y5 y6 y7 y8 y9, LeO (lienref22_made.j0 k y0 y1 y2 y3 y4 y5 y6 y7 y8 y9) (lienref22_made.j0 (k + 1) y0 y1 y2 y3 y4 y5 y6 y7 y8 y9)) ∧ (∀ y0 y1 y2 y3 y4 y5 y6 y7 y8 y9, LeO (lienref22_made.j1 k y0 y1 y2 y3 y4 y5 y6 y7 y8 y9) (lienref22_made.j1 (k + 1) y0 y1 y2 y3 y4 y5 y6 y7 y8 y9)) ∧ (∀ y0 y1 y2 y3 y4 y5 y6 y7 y8 y9, LeO (lienref22_made.j2 k y0 y1 y2 y3 y4 y5 y6 y7 y8 y9) (lienref22_made.j2 (k + 1) y0 y1 y2 y3 y4 y5 y6 y7 y8 y9))
  | 0 => ⟨fun _ _ _ _ _ _ _ _ _ _ r h => by simp [lienref22_made.j0] at h, fun _ _ _ _ _ _ _ _ _ _ r h => by simp [lienref22_made.j1] at h, fun _ _ _ _ _ _ _ _ _ _ r h => by simp [lienref22_made.j2] at h⟩
  | k + 1 => by
    obtain ⟨ih0, ih1, ih2⟩ := lienref22_made.mono_l k
    refine ⟨?_, ?_, ?_⟩
    · intro y0 y1 y2 y3 y4 y5 y6 y7 y8 y9
      unfold lienref22_made.j0
      repeat' first
      | (with_reducible exact ih0 _ _ _ _ _ _ _ _ _ _)
      | (with_reducible exact ih1 _ _ _ _ _ _ _ _ _ _)
      | (with_reducible exact ih2 _ _ _ _ _ _ _ _ _ _)
      | (with_reducible exact LeO.refl _)
      | (with_reducible exact LeO.none _)
      | (with_reducible refine LeO.ite ?_ ?_)
      | (with_reducible refine LeO.bind ?_ (fun _ => ?_))
      | exact ih0 _ _ _ _ _ _ _ _ _ _
      | exact ih1 _ _ _ _ _ _ _ _ _ _
      | exact ih2 _ _ _ _ _ _ _ _ _ _
      | exact LeO.none _
      | refine LeO.ite ?_ ?_
      | refine LeO.bind ?_ (fun _ => ?_)
    · intro y0 y1 y2 y3 y4 y5 y6 y7 y8 y9
      unfold lienref22_made.j1
      repeat' first
      | (with_reducible exact ih0 _ _ _ _ _ _ _ _ _ _)
      | (with_reducible exact ih1 _ _ _ _ _ _ _ _ _ _)
      | (with_reducible exact ih2 _ _ _ _ _ _ _ _ _ _)
      | (with_reducible exact LeO.refl _)
      | (with_reducible exact LeO.none _)
      | (with_reducible refine LeO.ite ?_ ?_)
      | (with_reducible refine LeO.bind ?_ (fun _ => ?_))
      | exact ih0 _ _ _ _ _ _ _ _ _ _
      | exact ih1 _ _ _ _ _ _ _ _ _ _
      | exact ih2 _ _ _ _ _ _ _ _ _ _
      | exact LeO.none _
      | refine LeO.ite ?_ ?_
      | refine LeO.bind ?_ (fun _ => ?_)
    · intro y0 y1 y2 y3 y4 y5 y6 y7 y8 y9
      unfold lienref22_made.j2
      repeat' first
      | (with_reducible exact ih0 _ _ _ _ _ _ _ _ _ _)
      | (with_reducible exact ih1 _ _ _ _ _ _ _ _ _ _)
      | (with_reducible exact ih2 _ _ _ _ _ _ _ _ _ _)
      | (with_reducible exact LeO.refl _)
      | (with_reducible exact LeO.none _)
      | (with_reducible refine LeO.ite ?_ ?_)
      | (with_reducible refine LeO.bind ?_ (fun _ => ?_))
      | exact ih0 _ _ _ _ _ _ _ _ _ _
      | exact ih1 _ _ _ _ _ _ _ _ _ _
      | exact ih2 _ _ _ _ _ _ _ _ _ _
      | exact LeO.none _
      | refine LeO.ite ?_ ?_
      | refine LeO.bind ?_ (fun _ => ?_)
theorem lienref22_made.mono : ∀ a0 a1 k, LeO (lienref22_made.f k a0 a1) (lienref22_made.f (k + 1) a0 a1) := by
  intro a0 a1 k
  obtain ⟨ih0, ih1, ih2⟩ := lienref22_made.mono_l k
  unfold lienref22_made.f
  repeat' first
      | (with_reducible exact ih0 _ _ _ _ _ _ _ _ _ _)
      | (with_reducible exact ih1 _ _ _ _ _ _ _ _ _ _)
      | (with_reducible exact ih2 _ _ _ _ _ _ _ _ _ _)
      | (with_reducible exact LeO.refl _)
      | (with_reducible exact LeO.none _)
      | (with_reducible refine LeO.ite ?_ ?_)
      | (with_reducible refine LeO.bind ?_ (fun _ => ?_))
      | exact ih0 _ _ _ _ _ _ _ _ _ _
      | exact ih1 _ _ _ _ _ _ _ _ _ _
      | exact ih2 _ _ _ _ _ _ _ _ _ _
      | exact LeO.none _
      | refine LeO.ite ?_ ?_
      | refine LeO.bind ?_ (fun _ => ?_)
set_option maxHeartbeats 8000000 in
set_option maxRecDepth 100000 in
theorem lienref22_made.calls (k : Nat) (a0 : Int) (A1 : Option Addr) (c1 : Nat) (l1 : List (S62)) (r1 : Int) (r2 : ByteArray) (r3 : Int) (r4 : Int) (r5 : Int) (r6 : Int) (r7 : Int) (w : World) (hr1 : Kd.C k62 w A1 l1.length l1) (hc1 : l1.length ≤ c1) (h : lienref22_made.f k a0 l1 = some (r1, r2, r3, r4, r5, r6, r7)) :
    Calls Try.prog 41 #[.int .i64 a0, .slice A1 l1.length c1] w fun e w' => e = .returned (.agg #[.int .i64 r1, .string r2, .int .i64 r3, .int .i64 r4, .int .i64 r5, .int .i64 r6, .int .i64 r7]) ∧ Below w.heap.size w w' := by
  have hu37 := Try.underlying37
  have HR1 := Aside0.mk hr1
  have HC1 := Aside0.mk hc1
  clear hr1 hc1
  have HB := Aside0.mk (Below.refl w.heap.size w)
  have H : (if a0 = 1 then (lienref22_made.j0 k l1 a0 (a0 == 1) a0 (⟨#[]⟩ : ByteArray) 0 0 0 0 0) else (if a0 = 2 then (lienref22_made.j0 k l1 a0 (a0 == 2) a0 (⟨#[]⟩ : ByteArray) 0 0 0 0 0) else (lienref22_made.j0 k l1 a0 (a0 == 8) a0 (⟨#[]⟩ : ByteArray) 0 0 0 0 0))) = some (r1, r2, r3, r4, r5, r6, r7) := h
  clear h
  have HC3 := Aside0.mk H
  clear H
  go_enter Try.func41, Try.ntmps41
  go_upto_if 9 with (first | ((with_reducible refine gate_dst (N := 4) rfl ?_); refine box_event ?hg (N := 4) ?hd (cs := #[.int .i64 0, .string (⟨#[]⟩ : ByteArray), .int .i64 0, .int .i64 0, .int .i64 0, .int .i64 0, .int .i64 0]) (t := 37) ?hr ?_; (case hd => rfl); (case hg => rfl); (case hr => first | (go_simp; done) | (go_simp; rfl)); intro gb279 hg w4 hbox hb; have n0_ := Aside0.mk (below_step (by repeat (first | (with_reducible first | exact HB.out | apply below_alloc | apply pw_below_drewN | apply below_drew1) | exact HB.out)) hb); have n1_ := Aside0.mk (hbox); have n2_ := Aside0.mk ((by rw [hg]; exact (below_size (by repeat (first | (with_reducible first | exact HB.out | apply below_alloc | apply pw_below_drewN | apply below_drew1) | exact HB.out))) : w.heap.size ≤ gb279)); have n3_ := Aside0.mk ((by rw [hg]; exact (below_size (by repeat (first | (with_reducible first | exact HB.out | apply below_alloc | apply pw_below_drewN | apply below_drew1) | exact HB.out))) : w.heap.size ≤ gb279)); clear HB; have HB := n0_; have BK279 := n1_; have GW279 := n2_; have GE279 := n3_; clear n0_ n1_ n2_ n3_; clear hb hbox hg) | ((with_reducible refine gate_dst (N := 5) rfl ?_); refine box_event ?hg (N := 5) ?hd (cs := #[.int .i64 0, .string (⟨#[]⟩ : ByteArray), .int .i64 0, .int .i64 0, .int .i64 0, .int .i64 0, .int .i64 0]) (t := 37) ?hr ?_; (case hd => rfl); (case hg => rfl); (case hr => first | (go_simp; done) | (go_simp; rfl)); intro gb280 hg w5 hbox hb; have n0_ := Aside0.mk (blk_below (g := gb279) (o := .cells #[.int .i64 0, .string (⟨#[]⟩ : ByteArray), .int .i64 0, .int .i64 0, .int .i64 0, .int .i64 0, .int .i64 0] 37 (0, 0)) (by (with_reducible repeat (first | refine blk_drewN ?_ _ | refine blk_drew ?_ | refine blk_alloc ?_ _)); exact BK279.out) hb); have n1_ := Aside0.mk (below_step (by repeat (first | (with_reducible first | exact HB.out | apply below_alloc | apply pw_below_drewN | apply below_drew1 | refine below_set ?_ GE279.out) | exact HB.out)) hb); have n2_ := Aside0.mk (hbox); have n3_ := Aside0.mk ((by rw [hg]; exact (below_size (by repeat (first | (with_reducible first | exact HB.out | apply below_alloc | apply pw_below_drewN | apply below_drew1 | refine below_set ?_ GE279.out) | exact HB.out))) : w.heap.size ≤ gb280)); have n4_ := Aside0.mk ((by rw [hg]; exact (below_size (by repeat (first | (with_reducible first | exact HB.out | apply below_alloc | apply pw_below_drewN | apply below_drew1 | refine below_set ?_ GE279.out) | exact HB.out))) : w.heap.size ≤ gb280)); have n5_ := Aside0.mk ((by rw [hg]; exact Nat.ne_of_lt (blk_lt (g := gb279) (o := .cells #[.int .i64 0, .string (⟨#[]⟩ : ByteArray), .int .i64 0, .int .i64 0, .int .i64 0, .int .i64 0, .int .i64 0] 37 (0, 0)) (by (with_reducible repeat (first | refine blk_drewN ?_ _ | refine blk_drew ?_ | refine blk_alloc ?_ _)); exact BK279.out)) : gb279 ≠ gb280)); have n6_ := Aside0.mk ((by rw [hg]; exact Nat.ne_of_gt (blk_lt (g := gb279) (o := .cells #[.int .i64 0, .string (⟨#[]⟩ : ByteArray), .int .i64 0, .int .i64 0, .int .i64 0, .int .i64 0, .int .i64 0] 37 (0, 0)) (by (with_reducible repeat (first | refine blk_drewN ?_ _ | refine blk_drew ?_ | refine blk_alloc ?_ _)); exact BK279.out)) : gb280 ≠ gb279)); clear BK279; clear HB; have BK279 := n0_; have HB := n1_; have BK280 := n2_; have GW280 := n3_; have GE280 := n4_; have NB279_280 := n5_; have NB280_279 := n6_; clear n0_ n1_ n2_ n3_ n4_ n5_ n6_; clear hb hbox hg; have hnb6 := NB280_279.out; have hnc6 := NB279_280.out; have hcz7_0 : w5.cell? ⟨gb280, 0, none⟩ = some (.int .i64 0) := (blk_cell BK280.out 0).trans rfl; have hcz7_1 : w5.cell? ⟨gb280, 1, none⟩ = some (.string (⟨#[]⟩ : ByteArray)) := (blk_cell BK280.out 1).trans rfl; have hcz7_2 : w5.cell? ⟨gb280, 2, none⟩ = some (.int .i64 0) := (blk_cell BK280.out 2).trans rfl; have hcz7_3 : w5.cell? ⟨gb280, 3, none⟩ = some (.int .i64 0) := (blk_cell BK280.out 3).trans rfl; have hcz7_4 : w5.cell? ⟨gb280, 4, none⟩ = some (.int .i64 0) := (blk_cell BK280.out 4).trans rfl; have hcz7_5 : w5.cell? ⟨gb280, 5, none⟩ = some (.int .i64 0) := (blk_cell BK280.out 5).trans rfl; have hcz7_6 : w5.cell? ⟨gb280, 6, none⟩ = some (.int .i64 0) := (blk_cell BK280.out 6).trans rfl; have hfz7_0 := blk_frozen BK280.out 0; have hfz7_1 := blk_frozen BK280.out 1; have hfz7_2 := blk_frozen BK280.out 2; have hfz7_3 := blk_frozen BK280.out 3; have hfz7_4 := blk_frozen BK280.out 4; have hfz7_5 := blk_frozen BK280.out 5; have hfz7_6 := blk_frozen BK280.out 6))
  (try simp only [Act.put, List.setIfInBounds_toArray, List.set_cons_zero, List.set_cons_succ])
  go_cut [9] (fun v9 wc => ∃ (kq : Nat) (x9_2 : Bool), v9 = .bool x9_2 ∧ Aside0 (lienref22_made.j0 kq l1 a0 x9_2 a0 (⟨#[]⟩ : ByteArray) 0 0 0 0 0 = some (r1, r2, r3, r4, r5, r6, r7)) ∧ Aside0 (kq ≤ k) ∧ Aside0 (wc.heap[gb279]? = some (.cells #[.int .i64 0, .string (⟨#[]⟩ : ByteArray), .int .i64 0, .int .i64 0, .int .i64 0, .int .i64 0, .int .i64 0] 37 (0, 0))) ∧ Aside0 (wc.heap[gb280]? = some (.cells #[.int .i64 a0, .string (⟨#[]⟩ : ByteArray), .int .i64 0, .int .i64 0, .int .i64 0, .int .i64 0, .int .i64 0] 37 (0, 0))) ∧ Aside0 (Below w.heap.size w wc))
  case first =>
    have H := HC3.out
    clear HC3
    by_cases c8 : a0 = 1
    · rw [if_pos c8] at H
      have c8b0 : (a0 == 1) = true := beq_iff_eq.mpr c8
      have c8b1 : (a0 != 1) = false := bne_eq_false_iff_eq.mpr c8
      clear c8
      (first | rw [c8b0] | (simp only [i64_w, i32_w]; rw [c8b0]) | skip)
      have H' := Aside0.mk H
      clear H
      go_wp2
      go_meet
      case rel => exact ⟨_, ((a0 == 1)), (by first | rfl | (simp; done) | (simp [*]; done)), H', ⟨by first | omega | exact Nat.le_refl _⟩, ⟨by (with_reducible repeat (first | refine blk_drewN ?_ _ | refine blk_drew ?_ | refine blk_alloc ?_ _)); refine blk_far ?_ NB279_280.out _; (with_reducible repeat (first | refine blk_drewN ?_ _ | refine blk_drew ?_ | refine blk_alloc ?_ _)); refine blk_far ?_ NB279_280.out _; (with_reducible repeat (first | refine blk_drewN ?_ _ | refine blk_drew ?_ | refine blk_alloc ?_ _)); refine blk_far ?_ NB279_280.out _; (with_reducible repeat (first | refine blk_drewN ?_ _ | refine blk_drew ?_ | refine blk_alloc ?_ _)); refine blk_far ?_ NB279_280.out _; (with_reducible repeat (first | refine blk_drewN ?_ _ | refine blk_drew ?_ | refine blk_alloc ?_ _)); refine blk_far ?_ NB279_280.out _; (with_reducible repeat (first | refine blk_drewN ?_ _ | refine blk_drew ?_ | refine blk_alloc ?_ _)); refine blk_far ?_ NB279_280.out _; (with_reducible repeat (first | refine blk_drewN ?_ _ | refine blk_drew ?_ | refine blk_alloc ?_ _)); refine blk_far ?_ NB279_280.out _; (with_reducible repeat (first | refine blk_drewN ?_ _ | refine blk_drew ?_ | refine blk_alloc ?_ _)); exact BK279.out⟩, ⟨by (with_reducible repeat (first | refine blk_drewN ?_ _ | refine blk_drew ?_ | refine blk_alloc ?_ _)); refine blk_put (cs := #[.int .i64 a0, .string (⟨#[]⟩ : ByteArray), .int .i64 0, .int .i64 0, .int .i64 0, .int .i64 0, .int .i64 0]) ?_ 6 _ rfl; (with_reducible repeat (first | refine blk_drewN ?_ _ | refine blk_drew ?_ | refine blk_alloc ?_ _)); refine blk_put (cs := #[.int .i64 a0, .string (⟨#[]⟩ : ByteArray), .int .i64 0, .int .i64 0, .int .i64 0, .int .i64 0, .int .i64 0]) ?_ 5 _ rfl; (with_reducible repeat (first | refine blk_drewN ?_ _ | refine blk_drew ?_ | refine blk_alloc ?_ _)); refine blk_put (cs := #[.int .i64 a0, .string (⟨#[]⟩ : ByteArray), .int .i64 0, .int .i64 0, .int .i64 0, .int .i64 0, .int .i64 0]) ?_ 4 _ rfl; (with_reducible repeat (first | refine blk_drewN ?_ _ | refine blk_drew ?_ | refine blk_alloc ?_ _)); refine blk_put (cs := #[.int .i64 a0, .string (⟨#[]⟩ : ByteArray), .int .i64 0, .int .i64 0, .int .i64 0, .int .i64 0, .int .i64 0]) ?_ 3 _ rfl; (with_reducible repeat (first | refine blk_drewN ?_ _ | refine blk_drew ?_ | refine blk_alloc ?_ _)); refine blk_put (cs := #[.int .i64 a0, .string (⟨#[]⟩ : ByteArray), .int .i64 0, .int .i64 0, .int .i64 0, .int .i64 0, .int .i64 0]) ?_ 2 _ rfl; (with_reducible repeat (first | refine blk_drewN ?_ _ | refine blk_drew ?_ | refine blk_alloc ?_ _)); refine blk_put (cs := #[.int .i64 a0, .string (⟨#[]⟩ : ByteArray), .int .i64 0, .int .i64 0, .int .i64 0, .int .i64 0, .int .i64 0]) ?_ 1 _ rfl; (with_reducible repeat (first | refine blk_drewN ?_ _ | refine blk_drew ?_ | refine blk_alloc ?_ _)); refine blk_put (cs := #[.int .i64 0, .string (⟨#[]⟩ : ByteArray), .int .i64 0, .int .i64 0, .int .i64 0, .int .i64 0, .int .i64 0]) ?_ 0 _ rfl; (with_reducible repeat (first | refine blk_drewN ?_ _ | refine blk_drew ?_ | refine blk_alloc ?_ _)); exact BK280.out⟩, ⟨by repeat (first | (with_reducible first | exact HB.out | apply below_alloc | apply pw_below_drewN | apply below_drew1 | refine below_set ?_ GE279.out | refine below_set ?_ GE280.out) | exact HB.out)⟩⟩
    · rw [if_neg c8] at H
      have c8b0 : (a0 == 1) = false := beq_eq_false_iff_ne.mpr c8
      have c8b1 : (a0 != 1) = true := bne_iff_ne.mpr c8
      (first | rw [c8b0] | (simp only [i64_w, i32_w]; rw [c8b0]) | skip)
      by_cases c9 : a0 = 2
      · rw [if_pos c9] at H
        have c9b0 : (a0 == 2) = true := beq_iff_eq.mpr c9
        have c9b1 : (a0 != 2) = false := bne_eq_false_iff_eq.mpr c9
        clear c9
        have H' := Aside0.mk H
        clear H
        go_wp2
        go_meet
        case rel => exact ⟨_, ((a0 == 2)), (by first | rfl | (simp; done) | (simp [*]; done)), H', ⟨by first | omega | exact Nat.le_refl _⟩, ⟨by (with_reducible repeat (first | refine blk_drewN ?_ _ | refine blk_drew ?_ | refine blk_alloc ?_ _)); refine blk_far ?_ NB279_280.out _; (with_reducible repeat (first | refine blk_drewN ?_ _ | refine blk_drew ?_ | refine blk_alloc ?_ _)); refine blk_far ?_ NB279_280.out _; (with_reducible repeat (first | refine blk_drewN ?_ _ | refine blk_drew ?_ | refine blk_alloc ?_ _)); refine blk_far ?_ NB279_280.out _; (with_reducible repeat (first | refine blk_drewN ?_ _ | refine blk_drew ?_ | refine blk_alloc ?_ _)); refine blk_far ?_ NB279_280.out _; (with_reducible repeat (first | refine blk_drewN ?_ _ | refine blk_drew ?_ | refine blk_alloc ?_ _)); refine blk_far ?_ NB279_280.out _; (with_reducible repeat (first | refine blk_drewN ?_ _ | refine blk_drew ?_ | refine blk_alloc ?_ _)); refine blk_far ?_ NB279_280.out _; (with_reducible repeat (first | refine blk_drewN ?_ _ | refine blk_drew ?_ | refine blk_alloc ?_ _)); refine blk_far ?_ NB279_280.out _; (with_reducible repeat (first | refine blk_drewN ?_ _ | refine blk_drew ?_ | refine blk_alloc ?_ _)); exact BK279.out⟩, ⟨by (with_reducible repeat (first | refine blk_drewN ?_ _ | refine blk_drew ?_ | refine blk_alloc ?_ _)); refine blk_put (cs := #[.int .i64 a0, .string (⟨#[]⟩ : ByteArray), .int .i64 0, .int .i64 0, .int .i64 0, .int .i64 0, .int .i64 0]) ?_ 6 _ rfl; (with_reducible repeat (first | refine blk_drewN ?_ _ | refine blk_drew ?_ | refine blk_alloc ?_ _)); refine blk_put (cs := #[.int .i64 a0, .string (⟨#[]⟩ : ByteArray), .int .i64 0, .int .i64 0, .int .i64 0, .int .i64 0, .int .i64 0]) ?_ 5 _ rfl; (with_reducible repeat (first | refine blk_drewN ?_ _ | refine blk_drew ?_ | refine blk_alloc ?_ _)); refine blk_put (cs := #[.int .i64 a0, .string (⟨#[]⟩ : ByteArray), .int .i64 0, .int .i64 0, .int .i64 0, .int .i64 0, .int .i64 0]) ?_ 4 _ rfl; (with_reducible repeat (first | refine blk_drewN ?_ _ | refine blk_drew ?_ | refine blk_alloc ?_ _)); refine blk_put (cs := #[.int .i64 a0, .string (⟨#[]⟩ : ByteArray), .int .i64 0, .int .i64 0, .int .i64 0, .int .i64 0, .int .i64 0]) ?_ 3 _ rfl; (with_reducible repeat (first | refine blk_drewN ?_ _ | refine blk_drew ?_ | refine blk_alloc ?_ _)); refine blk_put (cs := #[.int .i64 a0, .string (⟨#[]⟩ : ByteArray), .int .i64 0, .int .i64 0, .int .i64 0, .int .i64 0, .int .i64 0]) ?_ 2 _ rfl; (with_reducible repeat (first | refine blk_drewN ?_ _ | refine blk_drew ?_ | refine blk_alloc ?_ _)); refine blk_put (cs := #[.int .i64 a0, .string (⟨#[]⟩ : ByteArray), .int .i64 0, .int .i64 0, .int .i64 0, .int .i64 0, .int .i64 0]) ?_ 1 _ rfl; (with_reducible repeat (first | refine blk_drewN ?_ _ | refine blk_drew ?_ | refine blk_alloc ?_ _)); refine blk_put (cs := #[.int .i64 0, .string (⟨#[]⟩ : ByteArray), .int .i64 0, .int .i64 0, .int .i64 0, .int .i64 0, .int .i64 0]) ?_ 0 _ rfl; (with_reducible repeat (first | refine blk_drewN ?_ _ | refine blk_drew ?_ | refine blk_alloc ?_ _)); exact BK280.out⟩, ⟨by repeat (first | (with_reducible first | exact HB.out | apply below_alloc | apply pw_below_drewN | apply below_drew1 | refine below_set ?_ GE279.out | refine below_set ?_ GE280.out) | exact HB.out)⟩⟩
      · rw [if_neg c9] at H
        have c9b0 : (a0 == 2) = false := beq_eq_false_iff_ne.mpr c9
        have c9b1 : (a0 != 2) = true := bne_iff_ne.mpr c9
        have H' := Aside0.mk H
        clear H
        go_wp2
        go_meet
        case rel => exact ⟨_, ((a0 == 8)), (by first | rfl | (simp; done) | (simp [*]; done)), H', ⟨by first | omega | exact Nat.le_refl _⟩, ⟨by (with_reducible repeat (first | refine blk_drewN ?_ _ | refine blk_drew ?_ | refine blk_alloc ?_ _)); refine blk_far ?_ NB279_280.out _; (with_reducible repeat (first | refine blk_drewN ?_ _ | refine blk_drew ?_ | refine blk_alloc ?_ _)); refine blk_far ?_ NB279_280.out _; (with_reducible repeat (first | refine blk_drewN ?_ _ | refine blk_drew ?_ | refine blk_alloc ?_ _)); refine blk_far ?_ NB279_280.out _; (with_reducible repeat (first | refine blk_drewN ?_ _ | refine blk_drew ?_ | refine blk_alloc ?_ _)); refine blk_far ?_ NB279_280.out _; (with_reducible repeat (first | refine blk_drewN ?_ _ | refine blk_drew ?_ | refine blk_alloc ?_ _)); refine blk_far ?_ NB279_280.out _; (with_reducible repeat (first | refine blk_drewN ?_ _ | refine blk_drew ?_ | refine blk_alloc ?_ _)); refine blk_far ?_ NB279_280.out _; (with_reducible repeat (first | refine blk_drewN ?_ _ | refine blk_drew ?_ | refine blk_alloc ?_ _)); refine blk_far ?_ NB279_280.out _; (with_reducible repeat (first | refine blk_drewN ?_ _ | refine blk_drew ?_ | refine blk_alloc ?_ _)); exact BK279.out⟩, ⟨by (with_reducible repeat (first | refine blk_drewN ?_ _ | refine blk_drew ?_ | refine blk_alloc ?_ _)); refine blk_put (cs := #[.int .i64 a0, .string (⟨#[]⟩ : ByteArray), .int .i64 0, .int .i64 0, .int .i64 0, .int .i64 0, .int .i64 0]) ?_ 6 _ rfl; (with_reducible repeat (first | refine blk_drewN ?_ _ | refine blk_drew ?_ | refine blk_alloc ?_ _)); refine blk_put (cs := #[.int .i64 a0, .string (⟨#[]⟩ : ByteArray), .int .i64 0, .int .i64 0, .int .i64 0, .int .i64 0, .int .i64 0]) ?_ 5 _ rfl; (with_reducible repeat (first | refine blk_drewN ?_ _ | refine blk_drew ?_ | refine blk_alloc ?_ _)); refine blk_put (cs := #[.int .i64 a0, .string (⟨#[]⟩ : ByteArray), .int .i64 0, .int .i64 0, .int .i64 0, .int .i64 0, .int .i64 0]) ?_ 4 _ rfl; (with_reducible repeat (first | refine blk_drewN ?_ _ | refine blk_drew ?_ | refine blk_alloc ?_ _)); refine blk_put (cs := #[.int .i64 a0, .string (⟨#[]⟩ : ByteArray), .int .i64 0, .int .i64 0, .int .i64 0, .int .i64 0, .int .i64 0]) ?_ 3 _ rfl; (with_reducible repeat (first | refine blk_drewN ?_ _ | refine blk_drew ?_ | refine blk_alloc ?_ _)); refine blk_put (cs := #[.int .i64 a0, .string (⟨#[]⟩ : ByteArray), .int .i64 0, .int .i64 0, .int .i64 0, .int .i64 0, .int .i64 0]) ?_ 2 _ rfl; (with_reducible repeat (first | refine blk_drewN ?_ _ | refine blk_drew ?_ | refine blk_alloc ?_ _)); refine blk_put (cs := #[.int .i64 a0, .string (⟨#[]⟩ : ByteArray), .int .i64 0, .int .i64 0, .int .i64 0, .int .i64 0, .int .i64 0]) ?_ 1 _ rfl; (with_reducible repeat (first | refine blk_drewN ?_ _ | refine blk_drew ?_ | refine blk_alloc ?_ _)); refine blk_put (cs := #[.int .i64 0, .string (⟨#[]⟩ : ByteArray), .int .i64 0, .int .i64 0, .int .i64 0, .int .i64 0, .int .i64 0]) ?_ 0 _ rfl; (with_reducible repeat (first | refine blk_drewN ?_ _ | refine blk_drew ?_ | refine blk_alloc ?_ _)); exact BK280.out⟩, ⟨by repeat (first | (with_reducible first | exact HB.out | apply below_alloc | apply pw_below_drewN | apply below_drew1 | refine below_set ?_ GE279.out | refine below_set ?_ GE280.out) | exact HB.out)⟩⟩
  case rest =>
    clear HC3
    try clear c1
    try clear p2
    try clear c4
    try clear c6
    try clear c8
    try clear c8b0
    try clear c8b1
    try clear c9
    try clear c9b0
    try clear c9b1
    try clear hcz7_0
    try clear hcz7_1
    try clear hcz7_2
    try clear hcz7_3
    try clear hcz7_4
    try clear hcz7_5
    try clear hcz7_6
    try clear hfz7_0
    try clear hfz7_1
    try clear hfz7_2
    try clear hfz7_3
    try clear hfz7_4
    try clear hfz7_5
    try clear hfz7_6
    obtain ⟨kq, x9_2, rfl, HA, HJ2, BK279, BK280, HB⟩ := hcut
    cases kq with
    | zero => exact absurd HA.out (by simp [lienref22_made.j0])
    | succ kj2 =>
      have H := HA.out
      clear HA
      simp only [lienref22_made.j0] at H
      by_cases c10 : x9_2 = true
      · subst c10
        have H1 : (if 0 < (l1.length : Int) then (if 1 < (l1.length : Int) then (some (a0, (rd_T62 l1 0).f2, 0, (rd_T62 l1 1).f1, 0, 0, 0)) else (none)) else (none)) = some (r1, r2, r3, r4, r5, r6, r7) := by rw [if_pos rfl] at H; exact H
        clear H
        have H := H1
        clear H1
        by_cases c11 : 0 < (l1.length : Int)
        · rw [if_pos c11] at H
          have c11b0 : decide (0 < (l1.length : Int)) = true := decide_eq_true c11
          have c11b1 : decide (0 < l1.length) = true := decide_eq_true (by omega)
          clear c11
          by_cases c12 : 1 < (l1.length : Int)
          · rw [if_pos c12] at H
            have c12b0 : decide (1 < (l1.length : Int)) = true := decide_eq_true c12
            have c12b1 : decide (1 < l1.length) = true := decide_eq_true (by omega)
            clear c12
            simp only [Option.some.injEq, Prod.mk.injEq] at H
            obtain ⟨rfl, rfl, rfl, rfl, rfl, rfl, rfl⟩ := H
            have p281 : 0 ≤ (0 : Int) := (by omega)
            have q281 : 0 < (l1.length : Int) := of_decide_eq_true (by first | (with_reducible assumption) | assumption)
            obtain ⟨ad281, e281, hx281_0, hx281_1, hx281_2⟩ := at_T62 HR1.out 0 p281 q281
            cases e281
            have qi281 : (0 < l1.length) = True := eq_true (by omega)
            (try rw [show ((0 : Int)).toNat = 0 from rfl] at hx281_0)
            (try rw [show 0 * 3 = 0 from rfl] at hx281_0)
            (try rw [Addr.add_zero'] at hx281_0)
            (try rw [show ((0 : Int)).toNat = 0 from rfl] at hx281_1)
            (try rw [show 0 * 3 = 0 from rfl] at hx281_1)
            (try rw [Addr.add_zero'] at hx281_1)
            (try rw [show ((0 : Int)).toNat = 0 from rfl] at hx281_2)
            (try rw [show 0 * 3 = 0 from rfl] at hx281_2)
            (try rw [Addr.add_zero'] at hx281_2)
            replace hx281_0 := (HB.out.cell (World.block_lt_of_cell? w _ hx281_0)).trans hx281_0
            replace hx281_1 := (HB.out.cell (World.block_lt_of_cell? w _ hx281_1)).trans hx281_1
            replace hx281_2 := (HB.out.cell (World.block_lt_of_cell? w _ hx281_2)).trans hx281_2
            replace p281 := eq_true p281
            replace q281 := eq_true q281
            have hnb13 := NB280_279.out
            have hnc13 := NB279_280.out
            have hcz14_0 : wc.cell? ⟨gb280, 0, none⟩ = some (.int .i64 a0) := (blk_cell BK280.out 0).trans rfl
            have hcz14_1 : wc.cell? ⟨gb280, 1, none⟩ = some (.string (⟨#[]⟩ : ByteArray)) := (blk_cell BK280.out 1).trans rfl
            have hcz14_2 : wc.cell? ⟨gb280, 2, none⟩ = some (.int .i64 0) := (blk_cell BK280.out 2).trans rfl
            have hcz14_3 : wc.cell? ⟨gb280, 3, none⟩ = some (.int .i64 0) := (blk_cell BK280.out 3).trans rfl
            have hcz14_4 : wc.cell? ⟨gb280, 4, none⟩ = some (.int .i64 0) := (blk_cell BK280.out 4).trans rfl
            have hcz14_5 : wc.cell? ⟨gb280, 5, none⟩ = some (.int .i64 0) := (blk_cell BK280.out 5).trans rfl
            have hcz14_6 : wc.cell? ⟨gb280, 6, none⟩ = some (.int .i64 0) := (blk_cell BK280.out 6).trans rfl
            have hfz14_0 := blk_frozen BK280.out 0
            have hfz14_1 := blk_frozen BK280.out 1
            have hfz14_2 := blk_frozen BK280.out 2
            have hfz14_3 := blk_frozen BK280.out 3
            have hfz14_4 := blk_frozen BK280.out 4
            have hfz14_5 := blk_frozen BK280.out 5
            have hfz14_6 := blk_frozen BK280.out 6
            have p282 : 0 ≤ (1 : Int) := (by omega)
            have q282 : 1 < (l1.length : Int) := of_decide_eq_true (by first | (with_reducible assumption) | assumption)
            obtain ⟨ad282, e282, hx282_0, hx282_1, hx282_2⟩ := at_T62 HR1.out 1 p282 q282
            obtain rfl : ad281 = ad282 := (by injection e282)
            (try simp only [show (1 : Int).toNat = 1 from rfl, Nat.reduceMul, Nat.reduceEqDiff, Go.Addr.add, ↓reduceIte] at hx282_0)
            (try simp only [show (1 : Int).toNat = 1 from rfl, Nat.reduceMul, Nat.reduceEqDiff, Go.Addr.add, ↓reduceIte] at hx282_1)
            (try simp only [show (1 : Int).toNat = 1 from rfl, Nat.reduceMul, Nat.reduceEqDiff, Go.Addr.add, ↓reduceIte] at hx282_2)
            have qi282 : (1 < l1.length) = True := eq_true (by omega)
            (try rw [show ((1 : Int)).toNat = 1 from rfl] at hx282_0)
            (try rw [show 1 * 3 = 3 from rfl] at hx282_0)
            (try rw [show ((1 : Int)).toNat = 1 from rfl] at hx282_1)
            (try rw [show 1 * 3 = 3 from rfl] at hx282_1)
            (try rw [show ((1 : Int)).toNat = 1 from rfl] at hx282_2)
            (try rw [show 1 * 3 = 3 from rfl] at hx282_2)
            have hn282_0 : ad281.block ≠ gb280 := Nat.ne_of_lt (Nat.lt_of_lt_of_le (by have := World.block_lt_of_cell? _ _ hx282_0; first | rwa [add_block] at this | exact this) GW280.out)
            replace hx282_0 := (HB.out.cell (World.block_lt_of_cell? w _ hx282_0)).trans hx282_0
            replace hx282_1 := (HB.out.cell (World.block_lt_of_cell? w _ hx282_1)).trans hx282_1
            replace hx282_2 := (HB.out.cell (World.block_lt_of_cell? w _ hx282_2)).trans hx282_2
            replace hx282_0 := (cell_far (p := ⟨gb280, 1, none⟩) (by first | (rw [add_block]; exact hn282_0) | (show (Addr.add _ _).block ≠ _; rw [add_block]; exact hn282_0) | exact hn282_0) (.string ((rd_T62 l1 0).f2))).trans hx282_0
            replace hx282_1 := (cell_far (p := ⟨gb280, 1, none⟩) (by first | (rw [add_block]; exact hn282_0) | (show (Addr.add _ _).block ≠ _; rw [add_block]; exact hn282_0) | exact hn282_0) (.string ((rd_T62 l1 0).f2))).trans hx282_1
            replace hx282_2 := (cell_far (p := ⟨gb280, 1, none⟩) (by first | (rw [add_block]; exact hn282_0) | (show (Addr.add _ _).block ≠ _; rw [add_block]; exact hn282_0) | exact hn282_0) (.string ((rd_T62 l1 0).f2))).trans hx282_2
            clear hn282_0
            replace p282 := eq_true p282
            replace q282 := eq_true q282
            have hcz15_0 : wc.cell? ⟨gb279, 0, none⟩ = some (.int .i64 0) := (blk_cell BK279.out 0).trans rfl
            have hcz15_1 : wc.cell? ⟨gb279, 1, none⟩ = some (.string (⟨#[]⟩ : ByteArray)) := (blk_cell BK279.out 1).trans rfl
            have hcz15_2 : wc.cell? ⟨gb279, 2, none⟩ = some (.int .i64 0) := (blk_cell BK279.out 2).trans rfl
            have hcz15_3 : wc.cell? ⟨gb279, 3, none⟩ = some (.int .i64 0) := (blk_cell BK279.out 3).trans rfl
            have hcz15_4 : wc.cell? ⟨gb279, 4, none⟩ = some (.int .i64 0) := (blk_cell BK279.out 4).trans rfl
            have hcz15_5 : wc.cell? ⟨gb279, 5, none⟩ = some (.int .i64 0) := (blk_cell BK279.out 5).trans rfl
            have hcz15_6 : wc.cell? ⟨gb279, 6, none⟩ = some (.int .i64 0) := (blk_cell BK279.out 6).trans rfl
            have hfz15_0 := blk_frozen BK279.out 0
            have hfz15_1 := blk_frozen BK279.out 1
            have hfz15_2 := blk_frozen BK279.out 2
            have hfz15_3 := blk_frozen BK279.out 3
            have hfz15_4 := blk_frozen BK279.out 4
            have hfz15_5 := blk_frozen BK279.out 5
            have hfz15_6 := blk_frozen BK279.out 6
            go_wp2
            refine bodyPost_ret (results_cell_row rfl _ _ gb279 37 #[.int .i64 a0, .string ((rd_T62 l1 0).f2), .int .i64 0, .int .i64 ((rd_T62 l1 1).f1), .int .i64 0, .int .i64 0, .int .i64 0] (0, 0) _ rfl (by (with_reducible repeat (first | refine blk_drewN ?_ _ | refine blk_drew ?_ | refine blk_alloc ?_ _)); refine blk_put (cs := #[.int .i64 a0, .string ((rd_T62 l1 0).f2), .int .i64 0, .int .i64 ((rd_T62 l1 1).f1), .int .i64 0, .int .i64 0, .int .i64 0]) ?_ 6 _ rfl; (with_reducible repeat (first | refine blk_drewN ?_ _ | refine blk_drew ?_ | refine blk_alloc ?_ _)); refine blk_put (cs := #[.int .i64 a0, .string ((rd_T62 l1 0).f2), .int .i64 0, .int .i64 ((rd_T62 l1 1).f1), .int .i64 0, .int .i64 0, .int .i64 0]) ?_ 5 _ rfl; (with_reducible repeat (first | refine blk_drewN ?_ _ | refine blk_drew ?_ | refine blk_alloc ?_ _)); refine blk_put (cs := #[.int .i64 a0, .string ((rd_T62 l1 0).f2), .int .i64 0, .int .i64 ((rd_T62 l1 1).f1), .int .i64 0, .int .i64 0, .int .i64 0]) ?_ 4 _ rfl; (with_reducible repeat (first | refine blk_drewN ?_ _ | refine blk_drew ?_ | refine blk_alloc ?_ _)); refine blk_put (cs := #[.int .i64 a0, .string ((rd_T62 l1 0).f2), .int .i64 0, .int .i64 0, .int .i64 0, .int .i64 0, .int .i64 0]) ?_ 3 _ rfl; (with_reducible repeat (first | refine blk_drewN ?_ _ | refine blk_drew ?_ | refine blk_alloc ?_ _)); refine blk_put (cs := #[.int .i64 a0, .string ((rd_T62 l1 0).f2), .int .i64 0, .int .i64 0, .int .i64 0, .int .i64 0, .int .i64 0]) ?_ 2 _ rfl; (with_reducible repeat (first | refine blk_drewN ?_ _ | refine blk_drew ?_ | refine blk_alloc ?_ _)); refine blk_put (cs := #[.int .i64 a0, .string (⟨#[]⟩ : ByteArray), .int .i64 0, .int .i64 0, .int .i64 0, .int .i64 0, .int .i64 0]) ?_ 1 _ rfl; (with_reducible repeat (first | refine blk_drewN ?_ _ | refine blk_drew ?_ | refine blk_alloc ?_ _)); refine blk_put (cs := #[.int .i64 0, .string (⟨#[]⟩ : ByteArray), .int .i64 0, .int .i64 0, .int .i64 0, .int .i64 0, .int .i64 0]) ?_ 0 _ rfl; (with_reducible repeat (first | refine blk_drewN ?_ _ | refine blk_drew ?_ | refine blk_alloc ?_ _)); refine blk_far ?_ NB279_280.out _; (with_reducible repeat (first | refine blk_drewN ?_ _ | refine blk_drew ?_ | refine blk_alloc ?_ _)); refine blk_far ?_ NB279_280.out _; (with_reducible repeat (first | refine blk_drewN ?_ _ | refine blk_drew ?_ | refine blk_alloc ?_ _)); exact BK279.out) Try.underlying37 rfl (by kernel_rfl)) rfl ?_
            exact ⟨by first | rfl | (simp [errW_none, errW_some] <;> rfl) | (simp [*, errW_none, errW_some] <;> rfl), by repeat (first | (with_reducible first | exact HB.out | apply below_alloc | apply pw_below_drewN | apply below_drew1 | refine below_set ?_ GE279.out | refine below_set ?_ GE280.out) | exact HB.out)⟩
          · rw [if_neg c12] at H
            exact absurd H (by simp)
        · rw [if_neg c11] at H
          exact absurd H (by simp)
      · replace c10 := Bool.eq_false_iff.mpr c10
        subst c10
        have H1 : (if a0 = 3 then (if 0 < (l1.length : Int) then (if 1 < (l1.length : Int) then (if 2 < (l1.length : Int) then (if 3 < (l1.length : Int) then (some (a0, (rd_T62 l1 0).f2, (rd_T62 l1 1).f1, (rd_T62 l1 2).f1, (rd_T62 l1 3).f1, 0, 0)) else (none)) else (none)) else (none)) else (none)) else (if a0 = 4 then (lienref22_made.j1 kj2 l1 a0 (a0 == 4) a0 (⟨#[]⟩ : ByteArray) 0 0 0 0 0) else (lienref22_made.j1 kj2 l1 a0 (a0 == 5) a0 (⟨#[]⟩ : ByteArray) 0 0 0 0 0))) = some (r1, r2, r3, r4, r5, r6, r7) := by rw [if_neg (show ¬ (false = true) by decide)] at H; exact H
        clear H
        have H := H1
        clear H1
        by_cases c16 : a0 = 3
        · rw [if_pos c16] at H
          have c16b0 : (a0 == 3) = true := beq_iff_eq.mpr c16
          have c16b1 : (a0 != 3) = false := bne_eq_false_iff_eq.mpr c16
          clear c16
          by_cases c17 : 0 < (l1.length : Int)
          · rw [if_pos c17] at H
            have c17b0 : decide (0 < (l1.length : Int)) = true := decide_eq_true c17
            have c17b1 : decide (0 < l1.length) = true := decide_eq_true (by omega)
            clear c17
            by_cases c18 : 1 < (l1.length : Int)
            · rw [if_pos c18] at H
              have c18b0 : decide (1 < (l1.length : Int)) = true := decide_eq_true c18
              have c18b1 : decide (1 < l1.length) = true := decide_eq_true (by omega)
              clear c18
              by_cases c19 : 2 < (l1.length : Int)
              · rw [if_pos c19] at H
                have c19b0 : decide (2 < (l1.length : Int)) = true := decide_eq_true c19
                have c19b1 : decide (2 < l1.length) = true := decide_eq_true (by omega)
                clear c19
                by_cases c20 : 3 < (l1.length : Int)
                · rw [if_pos c20] at H
                  have c20b0 : decide (3 < (l1.length : Int)) = true := decide_eq_true c20
                  have c20b1 : decide (3 < l1.length) = true := decide_eq_true (by omega)
                  clear c20
                  simp only [Option.some.injEq, Prod.mk.injEq] at H
                  obtain ⟨rfl, rfl, rfl, rfl, rfl, rfl, rfl⟩ := H
                  have p283 : 0 ≤ (0 : Int) := (by omega)
                  have q283 : 0 < (l1.length : Int) := of_decide_eq_true (by first | (with_reducible assumption) | assumption)
                  obtain ⟨ad283, e283, hx283_0, hx283_1, hx283_2⟩ := at_T62 HR1.out 0 p283 q283
                  cases e283
                  have qi283 : (0 < l1.length) = True := eq_true (by omega)
                  (try rw [show ((0 : Int)).toNat = 0 from rfl] at hx283_0)
                  (try rw [show 0 * 3 = 0 from rfl] at hx283_0)
                  (try rw [Addr.add_zero'] at hx283_0)
                  (try rw [show ((0 : Int)).toNat = 0 from rfl] at hx283_1)
                  (try rw [show 0 * 3 = 0 from rfl] at hx283_1)
                  (try rw [Addr.add_zero'] at hx283_1)
                  (try rw [show ((0 : Int)).toNat = 0 from rfl] at hx283_2)
                  (try rw [show 0 * 3 = 0 from rfl] at hx283_2)
                  (try rw [Addr.add_zero'] at hx283_2)
                  replace hx283_0 := (HB.out.cell (World.block_lt_of_cell? w _ hx283_0)).trans hx283_0
                  replace hx283_1 := (HB.out.cell (World.block_lt_of_cell? w _ hx283_1)).trans hx283_1
                  replace hx283_2 := (HB.out.cell (World.block_lt_of_cell? w _ hx283_2)).trans hx283_2
                  replace p283 := eq_true p283
                  replace q283 := eq_true q283
                  have hnb21 := NB280_279.out
                  have hnc21 := NB279_280.out
                  have hcz22_0 : wc.cell? ⟨gb280, 0, none⟩ = some (.int .i64 a0) := (blk_cell BK280.out 0).trans rfl
                  have hcz22_1 : wc.cell? ⟨gb280, 1, none⟩ = some (.string (⟨#[]⟩ : ByteArray)) := (blk_cell BK280.out 1).trans rfl
                  have hcz22_2 : wc.cell? ⟨gb280, 2, none⟩ = some (.int .i64 0) := (blk_cell BK280.out 2).trans rfl
                  have hcz22_3 : wc.cell? ⟨gb280, 3, none⟩ = some (.int .i64 0) := (blk_cell BK280.out 3).trans rfl
                  have hcz22_4 : wc.cell? ⟨gb280, 4, none⟩ = some (.int .i64 0) := (blk_cell BK280.out 4).trans rfl
                  have hcz22_5 : wc.cell? ⟨gb280, 5, none⟩ = some (.int .i64 0) := (blk_cell BK280.out 5).trans rfl
                  have hcz22_6 : wc.cell? ⟨gb280, 6, none⟩ = some (.int .i64 0) := (blk_cell BK280.out 6).trans rfl
                  have hfz22_0 := blk_frozen BK280.out 0
                  have hfz22_1 := blk_frozen BK280.out 1
                  have hfz22_2 := blk_frozen BK280.out 2
                  have hfz22_3 := blk_frozen BK280.out 3
                  have hfz22_4 := blk_frozen BK280.out 4
                  have hfz22_5 := blk_frozen BK280.out 5
                  have hfz22_6 := blk_frozen BK280.out 6
                  have p284 : 0 ≤ (1 : Int) := (by omega)
                  have q284 : 1 < (l1.length : Int) := of_decide_eq_true (by first | (with_reducible assumption) | assumption)
                  obtain ⟨ad284, e284, hx284_0, hx284_1, hx284_2⟩ := at_T62 HR1.out 1 p284 q284
                  obtain rfl : ad283 = ad284 := (by injection e284)
                  (try simp only [show (1 : Int).toNat = 1 from rfl, Nat.reduceMul, Nat.reduceEqDiff, Go.Addr.add, ↓reduceIte] at hx284_0)
                  (try simp only [show (1 : Int).toNat = 1 from rfl, Nat.reduceMul, Nat.reduceEqDiff, Go.Addr.add, ↓reduceIte] at hx284_1)
                  (try simp only [show (1 : Int).toNat = 1 from rfl, Nat.reduceMul, Nat.reduceEqDiff, Go.Addr.add, ↓reduceIte] at hx284_2)
                  have qi284 : (1 < l1.length) = True := eq_true (by omega)
                  (try rw [show ((1 : Int)).toNat = 1 from rfl] at hx284_0)
                  (try rw [show 1 * 3 = 3 from rfl] at hx284_0)
                  (try rw [show ((1 : Int)).toNat = 1 from rfl] at hx284_1)
                  (try rw [show 1 * 3 = 3 from rfl] at hx284_1)
                  (try rw [show ((1 : Int)).toNat = 1 from rfl] at hx284_2)
                  (try rw [show 1 * 3 = 3 from rfl] at hx284_2)
                  have hn284_0 : ad283.block ≠ gb280 := Nat.ne_of_lt (Nat.lt_of_lt_of_le (by have := World.block_lt_of_cell? _ _ hx284_0; first | rwa [add_block] at this | exact this) GW280.out)
                  replace hx284_0 := (HB.out.cell (World.block_lt_of_cell? w _ hx284_0)).trans hx284_0
                  replace hx284_1 := (HB.out.cell (World.block_lt_of_cell? w _ hx284_1)).trans hx284_1
                  replace hx284_2 := (HB.out.cell (World.block_lt_of_cell? w _ hx284_2)).trans hx284_2
                  replace hx284_0 := (cell_far (p := ⟨gb280, 1, none⟩) (by first | (rw [add_block]; exact hn284_0) | (show (Addr.add _ _).block ≠ _; rw [add_block]; exact hn284_0) | exact hn284_0) (.string ((rd_T62 l1 0).f2))).trans hx284_0
                  replace hx284_1 := (cell_far (p := ⟨gb280, 1, none⟩) (by first | (rw [add_block]; exact hn284_0) | (show (Addr.add _ _).block ≠ _; rw [add_block]; exact hn284_0) | exact hn284_0) (.string ((rd_T62 l1 0).f2))).trans hx284_1
                  replace hx284_2 := (cell_far (p := ⟨gb280, 1, none⟩) (by first | (rw [add_block]; exact hn284_0) | (show (Addr.add _ _).block ≠ _; rw [add_block]; exact hn284_0) | exact hn284_0) (.string ((rd_T62 l1 0).f2))).trans hx284_2
                  clear hn284_0
                  replace p284 := eq_true p284
                  replace q284 := eq_true q284
                  have p285 : 0 ≤ (2 : Int) := (by omega)
                  have q285 : 2 < (l1.length : Int) := of_decide_eq_true (by first | (with_reducible assumption) | assumption)
                  obtain ⟨ad285, e285, hx285_0, hx285_1, hx285_2⟩ := at_T62 HR1.out 2 p285 q285
                  obtain rfl : ad283 = ad285 := (by injection e285)
                  (try simp only [show (2 : Int).toNat = 2 from rfl, Nat.reduceMul, Nat.reduceEqDiff, Go.Addr.add, ↓reduceIte] at hx285_0)
                  (try simp only [show (2 : Int).toNat = 2 from rfl, Nat.reduceMul, Nat.reduceEqDiff, Go.Addr.add, ↓reduceIte] at hx285_1)
                  (try simp only [show (2 : Int).toNat = 2 from rfl, Nat.reduceMul, Nat.reduceEqDiff, Go.Addr.add, ↓reduceIte] at hx285_2)
                  have qi285 : (2 < l1.length) = True := eq_true (by omega)
                  (try rw [show ((2 : Int)).toNat = 2 from rfl] at hx285_0)
                  (try rw [show 2 * 3 = 6 from rfl] at hx285_0)
                  (try rw [show ((2 : Int)).toNat = 2 from rfl] at hx285_1)
                  (try rw [show 2 * 3 = 6 from rfl] at hx285_1)
                  (try rw [show ((2 : Int)).toNat = 2 from rfl] at hx285_2)
                  (try rw [show 2 * 3 = 6 from rfl] at hx285_2)
                  have hn285_0 : ad283.block ≠ gb280 := Nat.ne_of_lt (Nat.lt_of_lt_of_le (by have := World.block_lt_of_cell? _ _ hx285_0; first | rwa [add_block] at this | exact this) GW280.out)
                  have hn285_1 : ad283.block ≠ gb280 := Nat.ne_of_lt (Nat.lt_of_lt_of_le (by have := World.block_lt_of_cell? _ _ hx285_0; first | rwa [add_block] at this | exact this) GW280.out)
                  replace hx285_0 := (HB.out.cell (World.block_lt_of_cell? w _ hx285_0)).trans hx285_0
                  replace hx285_1 := (HB.out.cell (World.block_lt_of_cell? w _ hx285_1)).trans hx285_1
                  replace hx285_2 := (HB.out.cell (World.block_lt_of_cell? w _ hx285_2)).trans hx285_2
                  replace hx285_0 := (cell_far (p := ⟨gb280, 1, none⟩) (by first | (rw [add_block]; exact hn285_0) | (show (Addr.add _ _).block ≠ _; rw [add_block]; exact hn285_0) | exact hn285_0) (.string ((rd_T62 l1 0).f2))).trans hx285_0
                  replace hx285_1 := (cell_far (p := ⟨gb280, 1, none⟩) (by first | (rw [add_block]; exact hn285_0) | (show (Addr.add _ _).block ≠ _; rw [add_block]; exact hn285_0) | exact hn285_0) (.string ((rd_T62 l1 0).f2))).trans hx285_1
                  replace hx285_2 := (cell_far (p := ⟨gb280, 1, none⟩) (by first | (rw [add_block]; exact hn285_0) | (show (Addr.add _ _).block ≠ _; rw [add_block]; exact hn285_0) | exact hn285_0) (.string ((rd_T62 l1 0).f2))).trans hx285_2
                  replace hx285_0 := (cell_far (p := ⟨gb280, 2, none⟩) (by first | (rw [add_block]; exact hn285_1) | (show (Addr.add _ _).block ≠ _; rw [add_block]; exact hn285_1) | exact hn285_1) (.int .i64 ((rd_T62 l1 1).f1))).trans hx285_0
                  replace hx285_1 := (cell_far (p := ⟨gb280, 2, none⟩) (by first | (rw [add_block]; exact hn285_1) | (show (Addr.add _ _).block ≠ _; rw [add_block]; exact hn285_1) | exact hn285_1) (.int .i64 ((rd_T62 l1 1).f1))).trans hx285_1
                  replace hx285_2 := (cell_far (p := ⟨gb280, 2, none⟩) (by first | (rw [add_block]; exact hn285_1) | (show (Addr.add _ _).block ≠ _; rw [add_block]; exact hn285_1) | exact hn285_1) (.int .i64 ((rd_T62 l1 1).f1))).trans hx285_2
                  clear hn285_0
                  clear hn285_1
                  replace p285 := eq_true p285
                  replace q285 := eq_true q285
                  have p286 : 0 ≤ (3 : Int) := (by omega)
                  have q286 : 3 < (l1.length : Int) := of_decide_eq_true (by first | (with_reducible assumption) | assumption)
                  obtain ⟨ad286, e286, hx286_0, hx286_1, hx286_2⟩ := at_T62 HR1.out 3 p286 q286
                  obtain rfl : ad283 = ad286 := (by injection e286)
                  (try simp only [show (3 : Int).toNat = 3 from rfl, Nat.reduceMul, Nat.reduceEqDiff, Go.Addr.add, ↓reduceIte] at hx286_0)
                  (try simp only [show (3 : Int).toNat = 3 from rfl, Nat.reduceMul, Nat.reduceEqDiff, Go.Addr.add, ↓reduceIte] at hx286_1)
                  (try simp only [show (3 : Int).toNat = 3 from rfl, Nat.reduceMul, Nat.reduceEqDiff, Go.Addr.add, ↓reduceIte] at hx286_2)
                  have qi286 : (3 < l1.length) = True := eq_true (by omega)
                  (try rw [show ((3 : Int)).toNat = 3 from rfl] at hx286_0)
                  (try rw [show 3 * 3 = 9 from rfl] at hx286_0)
                  (try rw [show ((3 : Int)).toNat = 3 from rfl] at hx286_1)
                  (try rw [show 3 * 3 = 9 from rfl] at hx286_1)
                  (try rw [show ((3 : Int)).toNat = 3 from rfl] at hx286_2)
                  (try rw [show 3 * 3 = 9 from rfl] at hx286_2)
                  have hn286_0 : ad283.block ≠ gb280 := Nat.ne_of_lt (Nat.lt_of_lt_of_le (by have := World.block_lt_of_cell? _ _ hx286_0; first | rwa [add_block] at this | exact this) GW280.out)
                  have hn286_1 : ad283.block ≠ gb280 := Nat.ne_of_lt (Nat.lt_of_lt_of_le (by have := World.block_lt_of_cell? _ _ hx286_0; first | rwa [add_block] at this | exact this) GW280.out)
                  have hn286_2 : ad283.block ≠ gb280 := Nat.ne_of_lt (Nat.lt_of_lt_of_le (by have := World.block_lt_of_cell? _ _ hx286_0; first | rwa [add_block] at this | exact this) GW280.out)
                  replace hx286_0 := (HB.out.cell (World.block_lt_of_cell? w _ hx286_0)).trans hx286_0
                  replace hx286_1 := (HB.out.cell (World.block_lt_of_cell? w _ hx286_1)).trans hx286_1
                  replace hx286_2 := (HB.out.cell (World.block_lt_of_cell? w _ hx286_2)).trans hx286_2
                  replace hx286_0 := (cell_far (p := ⟨gb280, 1, none⟩) (by first | (rw [add_block]; exact hn286_0) | (show (Addr.add _ _).block ≠ _; rw [add_block]; exact hn286_0) | exact hn286_0) (.string ((rd_T62 l1 0).f2))).trans hx286_0
                  replace hx286_1 := (cell_far (p := ⟨gb280, 1, none⟩) (by first | (rw [add_block]; exact hn286_0) | (show (Addr.add _ _).block ≠ _; rw [add_block]; exact hn286_0) | exact hn286_0) (.string ((rd_T62 l1 0).f2))).trans hx286_1
                  replace hx286_2 := (cell_far (p := ⟨gb280, 1, none⟩) (by first | (rw [add_block]; exact hn286_0) | (show (Addr.add _ _).block ≠ _; rw [add_block]; exact hn286_0) | exact hn286_0) (.string ((rd_T62 l1 0).f2))).trans hx286_2
                  replace hx286_0 := (cell_far (p := ⟨gb280, 2, none⟩) (by first | (rw [add_block]; exact hn286_1) | (show (Addr.add _ _).block ≠ _; rw [add_block]; exact hn286_1) | exact hn286_1) (.int .i64 ((rd_T62 l1 1).f1))).trans hx286_0
                  replace hx286_1 := (cell_far (p := ⟨gb280, 2, none⟩) (by first | (rw [add_block]; exact hn286_1) | (show (Addr.add _ _).block ≠ _; rw [add_block]; exact hn286_1) | exact hn286_1) (.int .i64 ((rd_T62 l1 1).f1))).trans hx286_1
                  replace hx286_2 := (cell_far (p := ⟨gb280, 2, none⟩) (by first | (rw [add_block]; exact hn286_1) | (show (Addr.add _ _).block ≠ _; rw [add_block]; exact hn286_1) | exact hn286_1) (.int .i64 ((rd_T62 l1 1).f1))).trans hx286_2
                  replace hx286_0 := (cell_far (p := ⟨gb280, 3, none⟩) (by first | (rw [add_block]; exact hn286_2) | (show (Addr.add _ _).block ≠ _; rw [add_block]; exact hn286_2) | exact hn286_2) (.int .i64 ((rd_T62 l1 2).f1))).trans hx286_0
                  replace hx286_1 := (cell_far (p := ⟨gb280, 3, none⟩) (by first | (rw [add_block]; exact hn286_2) | (show (Addr.add _ _).block ≠ _; rw [add_block]; exact hn286_2) | exact hn286_2) (.int .i64 ((rd_T62 l1 2).f1))).trans hx286_1
                  replace hx286_2 := (cell_far (p := ⟨gb280, 3, none⟩) (by first | (rw [add_block]; exact hn286_2) | (show (Addr.add _ _).block ≠ _; rw [add_block]; exact hn286_2) | exact hn286_2) (.int .i64 ((rd_T62 l1 2).f1))).trans hx286_2
                  clear hn286_0
                  clear hn286_1
                  clear hn286_2
                  replace p286 := eq_true p286
                  replace q286 := eq_true q286
                  have hcz23_0 : wc.cell? ⟨gb279, 0, none⟩ = some (.int .i64 0) := (blk_cell BK279.out 0).trans rfl
                  have hcz23_1 : wc.cell? ⟨gb279, 1, none⟩ = some (.string (⟨#[]⟩ : ByteArray)) := (blk_cell BK279.out 1).trans rfl
                  have hcz23_2 : wc.cell? ⟨gb279, 2, none⟩ = some (.int .i64 0) := (blk_cell BK279.out 2).trans rfl
                  have hcz23_3 : wc.cell? ⟨gb279, 3, none⟩ = some (.int .i64 0) := (blk_cell BK279.out 3).trans rfl
                  have hcz23_4 : wc.cell? ⟨gb279, 4, none⟩ = some (.int .i64 0) := (blk_cell BK279.out 4).trans rfl
                  have hcz23_5 : wc.cell? ⟨gb279, 5, none⟩ = some (.int .i64 0) := (blk_cell BK279.out 5).trans rfl
                  have hcz23_6 : wc.cell? ⟨gb279, 6, none⟩ = some (.int .i64 0) := (blk_cell BK279.out 6).trans rfl
                  have hfz23_0 := blk_frozen BK279.out 0
                  have hfz23_1 := blk_frozen BK279.out 1
                  have hfz23_2 := blk_frozen BK279.out 2
                  have hfz23_3 := blk_frozen BK279.out 3
                  have hfz23_4 := blk_frozen BK279.out 4
                  have hfz23_5 := blk_frozen BK279.out 5
                  have hfz23_6 := blk_frozen BK279.out 6
                  go_wp2
                  refine bodyPost_ret (results_cell_row rfl _ _ gb279 37 #[.int .i64 a0, .string ((rd_T62 l1 0).f2), .int .i64 ((rd_T62 l1 1).f1), .int .i64 ((rd_T62 l1 2).f1), .int .i64 ((rd_T62 l1 3).f1), .int .i64 0, .int .i64 0] (0, 0) _ rfl (by (with_reducible repeat (first | refine blk_drewN ?_ _ | refine blk_drew ?_ | refine blk_alloc ?_ _)); refine blk_put (cs := #[.int .i64 a0, .string ((rd_T62 l1 0).f2), .int .i64 ((rd_T62 l1 1).f1), .int .i64 ((rd_T62 l1 2).f1), .int .i64 ((rd_T62 l1 3).f1), .int .i64 0, .int .i64 0]) ?_ 6 _ rfl; (with_reducible repeat (first | refine blk_drewN ?_ _ | refine blk_drew ?_ | refine blk_alloc ?_ _)); refine blk_put (cs := #[.int .i64 a0, .string ((rd_T62 l1 0).f2), .int .i64 ((rd_T62 l1 1).f1), .int .i64 ((rd_T62 l1 2).f1), .int .i64 ((rd_T62 l1 3).f1), .int .i64 0, .int .i64 0]) ?_ 5 _ rfl; (with_reducible repeat (first | refine blk_drewN ?_ _ | refine blk_drew ?_ | refine blk_alloc ?_ _)); refine blk_put (cs := #[.int .i64 a0, .string ((rd_T62 l1 0).f2), .int .i64 ((rd_T62 l1 1).f1), .int .i64 ((rd_T62 l1 2).f1), .int .i64 0, .int .i64 0, .int .i64 0]) ?_ 4 _ rfl; (with_reducible repeat (first | refine blk_drewN ?_ _ | refine blk_drew ?_ | refine blk_alloc ?_ _)); refine blk_put (cs := #[.int .i64 a0, .string ((rd_T62 l1 0).f2), .int .i64 ((rd_T62 l1 1).f1), .int .i64 0, .int .i64 0, .int .i64 0, .int .i64 0]) ?_ 3 _ rfl; (with_reducible repeat (first | refine blk_drewN ?_ _ | refine blk_drew ?_ | refine blk_alloc ?_ _)); refine blk_put (cs := #[.int .i64 a0, .string ((rd_T62 l1 0).f2), .int .i64 0, .int .i64 0, .int .i64 0, .int .i64 0, .int .i64 0]) ?_ 2 _ rfl; (with_reducible repeat (first | refine blk_drewN ?_ _ | refine blk_drew ?_ | refine blk_alloc ?_ _)); refine blk_put (cs := #[.int .i64 a0, .string (⟨#[]⟩ : ByteArray), .int .i64 0, .int .i64 0, .int .i64 0, .int .i64 0, .int .i64 0]) ?_ 1 _ rfl; (with_reducible repeat (first | refine blk_drewN ?_ _ | refine blk_drew ?_ | refine blk_alloc ?_ _)); refine blk_put (cs := #[.int .i64 0, .string (⟨#[]⟩ : ByteArray), .int .i64 0, .int .i64 0, .int .i64 0, .int .i64 0, .int .i64 0]) ?_ 0 _ rfl; (with_reducible repeat (first | refine blk_drewN ?_ _ | refine blk_drew ?_ | refine blk_alloc ?_ _)); refine blk_far ?_ NB279_280.out _; (with_reducible repeat (first | refine blk_drewN ?_ _ | refine blk_drew ?_ | refine blk_alloc ?_ _)); refine blk_far ?_ NB279_280.out _; (with_reducible repeat (first | refine blk_drewN ?_ _ | refine blk_drew ?_ | refine blk_alloc ?_ _)); refine blk_far ?_ NB279_280.out _; (with_reducible repeat (first | refine blk_drewN ?_ _ | refine blk_drew ?_ | refine blk_alloc ?_ _)); refine blk_far ?_ NB279_280.out _; (with_reducible repeat (first | refine blk_drewN ?_ _ | refine blk_drew ?_ | refine blk_alloc ?_ _)); exact BK279.out) Try.underlying37 rfl (by kernel_rfl)) rfl ?_
                  exact ⟨by first | rfl | (simp [errW_none, errW_some] <;> rfl) | (simp [*, errW_none, errW_some] <;> rfl), by repeat (first | (with_reducible first | exact HB.out | apply below_alloc | apply pw_below_drewN | apply below_drew1 | refine below_set ?_ GE279.out | refine below_set ?_ GE280.out) | exact HB.out)⟩
                · rw [if_neg c20] at H
                  exact absurd H (by simp)
              · rw [if_neg c19] at H
                exact absurd H (by simp)
            · rw [if_neg c18] at H
              exact absurd H (by simp)
          · rw [if_neg c17] at H
            exact absurd H (by simp)
        · rw [if_neg c16] at H
          have c16b0 : (a0 == 3) = false := beq_eq_false_iff_ne.mpr c16
          have c16b1 : (a0 != 3) = true := bne_iff_ne.mpr c16
          have HC24 := Aside0.mk H
          clear H
          go_upto_if 45 with (fail)
          go_cut [45] (fun v45 wc => ∃ (kq : Nat) (x45_23 : Bool), v45 = .bool x45_23 ∧ Aside0 (lienref22_made.j1 kq l1 a0 x45_23 a0 (⟨#[]⟩ : ByteArray) 0 0 0 0 0 = some (r1, r2, r3, r4, r5, r6, r7)) ∧ Aside0 (kq ≤ kj2) ∧ Aside0 (wc.heap[gb279]? = some (.cells #[.int .i64 0, .string (⟨#[]⟩ : ByteArray), .int .i64 0, .int .i64 0, .int .i64 0, .int .i64 0, .int .i64 0] 37 (0, 0))) ∧ Aside0 (wc.heap[gb280]? = some (.cells #[.int .i64 a0, .string (⟨#[]⟩ : ByteArray), .int .i64 0, .int .i64 0, .int .i64 0, .int .i64 0, .int .i64 0] 37 (0, 0))) ∧ Aside0 (Below w.heap.size w wc))
          case first =>
            have H := HC24.out
            clear HC24
            by_cases c25 : a0 = 4
            · rw [if_pos c25] at H
              have c25b0 : (a0 == 4) = true := beq_iff_eq.mpr c25
              have c25b1 : (a0 != 4) = false := bne_eq_false_iff_eq.mpr c25
              clear c25
              (first | rw [c25b0] | (simp only [i64_w, i32_w]; rw [c25b0]) | skip)
              have H' := Aside0.mk H
              clear H
              go_wp2
              go_meet
              case rel => exact ⟨_, ((a0 == 4)), (by first | rfl | (simp; done) | (simp [*]; done)), H', ⟨by have := HJ2.out; first | omega | exact Nat.le_refl _⟩, ⟨by (with_reducible repeat (first | refine blk_drewN ?_ _ | refine blk_drew ?_ | refine blk_alloc ?_ _)); exact BK279.out⟩, ⟨by (with_reducible repeat (first | refine blk_drewN ?_ _ | refine blk_drew ?_ | refine blk_alloc ?_ _)); exact BK280.out⟩, ⟨by repeat (first | (with_reducible first | exact HB.out | apply below_alloc | apply pw_below_drewN | apply below_drew1 | refine below_set ?_ GE279.out | refine below_set ?_ GE280.out) | exact HB.out)⟩⟩
            · rw [if_neg c25] at H
              have c25b0 : (a0 == 4) = false := beq_eq_false_iff_ne.mpr c25
              have c25b1 : (a0 != 4) = true := bne_iff_ne.mpr c25
              (first | rw [c25b0] | (simp only [i64_w, i32_w]; rw [c25b0]) | skip)
              have H' := Aside0.mk H
              clear H
              go_wp2
              go_meet
              case rel => exact ⟨_, ((a0 == 5)), (by first | rfl | (simp; done) | (simp [*]; done)), H', ⟨by have := HJ2.out; first | omega | exact Nat.le_refl _⟩, ⟨by (with_reducible repeat (first | refine blk_drewN ?_ _ | refine blk_drew ?_ | refine blk_alloc ?_ _)); exact BK279.out⟩, ⟨by (with_reducible repeat (first | refine blk_drewN ?_ _ | refine blk_drew ?_ | refine blk_alloc ?_ _)); exact BK280.out⟩, ⟨by repeat (first | (with_reducible first | exact HB.out | apply below_alloc | apply pw_below_drewN | apply below_drew1 | refine below_set ?_ GE279.out | refine below_set ?_ GE280.out) | exact HB.out)⟩⟩
          case rest =>
            clear HC24
            try clear c1
            try clear c2
            try clear p2
            try clear q2
            try clear hx2
            try clear qi2
            try clear c4
            try clear c6
            try clear c8
            try clear c8b0
            try clear c8b1
            try clear c9
            try clear c9b0
            try clear c9b1
            try clear c10
            try clear c11
            try clear c11b0
            try clear c11b1
            try clear c12
            try clear c12b0
            try clear c12b1
            try clear c13
            try clear c16
            try clear c16b0
            try clear c16b1
            try clear c17
            try clear c17b0
            try clear c17b1
            try clear c18
            try clear c18b0
            try clear c18b1
            try clear c19
            try clear c19b0
            try clear c19b1
            try clear c20
            try clear c20b0
            try clear c20b1
            try clear c21
            try clear c25
            try clear c25b0
            try clear c25b1
            try clear hcz14_0
            try clear hcz14_1
            try clear hcz14_2
            try clear hcz14_3
            try clear hcz14_4
            try clear hcz14_5
            try clear hcz14_6
            try clear hcz15_0
            try clear hcz15_1
            try clear hcz15_2
            try clear hcz15_3
            try clear hcz15_4
            try clear hcz15_5
            try clear hcz15_6
            try clear hcz22_0
            try clear hcz22_1
            try clear hcz22_2
            try clear hcz22_3
            try clear hcz22_4
            try clear hcz22_5
            try clear hcz22_6
            try clear hcz23_0
            try clear hcz23_1
            try clear hcz23_2
            try clear hcz23_3
            try clear hcz23_4
            try clear hcz23_5
            try clear hcz23_6
            try clear hcz7_0
            try clear hcz7_1
            try clear hcz7_2
            try clear hcz7_3
            try clear hcz7_4
            try clear hcz7_5
            try clear hcz7_6
            try clear hfz14_0
            try clear hfz14_1
            try clear hfz14_2
            try clear hfz14_3
            try clear hfz14_4
            try clear hfz14_5
            try clear hfz14_6
            try clear hfz15_0
            try clear hfz15_1
            try clear hfz15_2
            try clear hfz15_3
            try clear hfz15_4
            try clear hfz15_5
            try clear hfz15_6
            try clear hfz22_0
            try clear hfz22_1
            try clear hfz22_2
            try clear hfz22_3
            try clear hfz22_4
            try clear hfz22_5
            try clear hfz22_6
            try clear hfz23_0
            try clear hfz23_1
            try clear hfz23_2
            try clear hfz23_3
            try clear hfz23_4
            try clear hfz23_5
            try clear hfz23_6
            try clear hfz7_0
            try clear hfz7_1
            try clear hfz7_2
            try clear hfz7_3
            try clear hfz7_4
            try clear hfz7_5
            try clear hfz7_6
            try clear hx281_0
            try clear hx281_1
            try clear hx281_2
            try clear hx282_0
            try clear hx282_1
            try clear hx282_2
            try clear hx283_0
            try clear hx283_1
            try clear hx283_2
            try clear hx284_0
            try clear hx284_1
            try clear hx284_2
            try clear hx285_0
            try clear hx285_1
            try clear hx285_2
            try clear hx286_0
            try clear hx286_1
            try clear hx286_2
            try clear p2
            try clear p281
            try clear p282
            try clear p283
            try clear p284
            try clear p285
            try clear p286
            try clear q281
            try clear q282
            try clear q283
            try clear q284
            try clear q285
            try clear q286
            obtain ⟨kq, x45_23, rfl, HA, HJ23, BK279, BK280, HB⟩ := hcut
            cases kq with
            | zero => exact absurd HA.out (by simp [lienref22_made.j1])
            | succ kj23 =>
              have H := HA.out
              clear HA
              simp only [lienref22_made.j1] at H
              by_cases c26 : x45_23 = true
              · subst c26
                have H1 : (if 0 < (l1.length : Int) then (if 1 < (l1.length : Int) then (some (a0, (rd_T62 l1 0).f2, (rd_T62 l1 1).f1, 0, 0, 0, 0)) else (none)) else (none)) = some (r1, r2, r3, r4, r5, r6, r7) := by rw [if_pos rfl] at H; exact H
                clear H
                have H := H1
                clear H1
                by_cases c27 : 0 < (l1.length : Int)
                · rw [if_pos c27] at H
                  have c27b0 : decide (0 < (l1.length : Int)) = true := decide_eq_true c27
                  have c27b1 : decide (0 < l1.length) = true := decide_eq_true (by omega)
                  clear c27
                  by_cases c28 : 1 < (l1.length : Int)
                  · rw [if_pos c28] at H
                    have c28b0 : decide (1 < (l1.length : Int)) = true := decide_eq_true c28
                    have c28b1 : decide (1 < l1.length) = true := decide_eq_true (by omega)
                    clear c28
                    simp only [Option.some.injEq, Prod.mk.injEq] at H
                    obtain ⟨rfl, rfl, rfl, rfl, rfl, rfl, rfl⟩ := H
                    have p287 : 0 ≤ (0 : Int) := (by omega)
                    have q287 : 0 < (l1.length : Int) := of_decide_eq_true (by first | (with_reducible assumption) | assumption)
                    obtain ⟨ad287, e287, hx287_0, hx287_1, hx287_2⟩ := at_T62 HR1.out 0 p287 q287
                    cases e287
                    have qi287 : (0 < l1.length) = True := eq_true (by omega)
                    (try rw [show ((0 : Int)).toNat = 0 from rfl] at hx287_0)
                    (try rw [show 0 * 3 = 0 from rfl] at hx287_0)
                    (try rw [Addr.add_zero'] at hx287_0)
                    (try rw [show ((0 : Int)).toNat = 0 from rfl] at hx287_1)
                    (try rw [show 0 * 3 = 0 from rfl] at hx287_1)
                    (try rw [Addr.add_zero'] at hx287_1)
                    (try rw [show ((0 : Int)).toNat = 0 from rfl] at hx287_2)
                    (try rw [show 0 * 3 = 0 from rfl] at hx287_2)
                    (try rw [Addr.add_zero'] at hx287_2)
                    replace hx287_0 := (HB.out.cell (World.block_lt_of_cell? w _ hx287_0)).trans hx287_0
                    replace hx287_1 := (HB.out.cell (World.block_lt_of_cell? w _ hx287_1)).trans hx287_1
                    replace hx287_2 := (HB.out.cell (World.block_lt_of_cell? w _ hx287_2)).trans hx287_2
                    replace p287 := eq_true p287
                    replace q287 := eq_true q287
                    have hnb29 := NB280_279.out
                    have hnc29 := NB279_280.out
                    have hcz30_0 : wc.cell? ⟨gb280, 0, none⟩ = some (.int .i64 a0) := (blk_cell BK280.out 0).trans rfl
                    have hcz30_1 : wc.cell? ⟨gb280, 1, none⟩ = some (.string (⟨#[]⟩ : ByteArray)) := (blk_cell BK280.out 1).trans rfl
                    have hcz30_2 : wc.cell? ⟨gb280, 2, none⟩ = some (.int .i64 0) := (blk_cell BK280.out 2).trans rfl
                    have hcz30_3 : wc.cell? ⟨gb280, 3, none⟩ = some (.int .i64 0) := (blk_cell BK280.out 3).trans rfl
                    have hcz30_4 : wc.cell? ⟨gb280, 4, none⟩ = some (.int .i64 0) := (blk_cell BK280.out 4).trans rfl
                    have hcz30_5 : wc.cell? ⟨gb280, 5, none⟩ = some (.int .i64 0) := (blk_cell BK280.out 5).trans rfl
                    have hcz30_6 : wc.cell? ⟨gb280, 6, none⟩ = some (.int .i64 0) := (blk_cell BK280.out 6).trans rfl
                    have hfz30_0 := blk_frozen BK280.out 0
                    have hfz30_1 := blk_frozen BK280.out 1
                    have hfz30_2 := blk_frozen BK280.out 2
                    have hfz30_3 := blk_frozen BK280.out 3
                    have hfz30_4 := blk_frozen BK280.out 4
                    have hfz30_5 := blk_frozen BK280.out 5
                    have hfz30_6 := blk_frozen BK280.out 6
                    have p288 : 0 ≤ (1 : Int) := (by omega)
                    have q288 : 1 < (l1.length : Int) := of_decide_eq_true (by first | (with_reducible assumption) | assumption)
                    obtain ⟨ad288, e288, hx288_0, hx288_1, hx288_2⟩ := at_T62 HR1.out 1 p288 q288
                    obtain rfl : ad287 = ad288 := (by injection e288)
                    (try simp only [show (1 : Int).toNat = 1 from rfl, Nat.reduceMul, Nat.reduceEqDiff, Go.Addr.add, ↓reduceIte] at hx288_0)
                    (try simp only [show (1 : Int).toNat = 1 from rfl, Nat.reduceMul, Nat.reduceEqDiff, Go.Addr.add, ↓reduceIte] at hx288_1)
                    (try simp only [show (1 : Int).toNat = 1 from rfl, Nat.reduceMul, Nat.reduceEqDiff, Go.Addr.add, ↓reduceIte] at hx288_2)
                    have qi288 : (1 < l1.length) = True := eq_true (by omega)
                    (try rw [show ((1 : Int)).toNat = 1 from rfl] at hx288_0)
                    (try rw [show 1 * 3 = 3 from rfl] at hx288_0)
                    (try rw [show ((1 : Int)).toNat = 1 from rfl] at hx288_1)
                    (try rw [show 1 * 3 = 3 from rfl] at hx288_1)
                    (try rw [show ((1 : Int)).toNat = 1 from rfl] at hx288_2)
                    (try rw [show 1 * 3 = 3 from rfl] at hx288_2)
                    have hn288_0 : ad287.block ≠ gb280 := Nat.ne_of_lt (Nat.lt_of_lt_of_le (by have := World.block_lt_of_cell? _ _ hx288_0; first | rwa [add_block] at this | exact this) GW280.out)
                    replace hx288_0 := (HB.out.cell (World.block_lt_of_cell? w _ hx288_0)).trans hx288_0
                    replace hx288_1 := (HB.out.cell (World.block_lt_of_cell? w _ hx288_1)).trans hx288_1
                    replace hx288_2 := (HB.out.cell (World.block_lt_of_cell? w _ hx288_2)).trans hx288_2
                    replace hx288_0 := (cell_far (p := ⟨gb280, 1, none⟩) (by first | (rw [add_block]; exact hn288_0) | (show (Addr.add _ _).block ≠ _; rw [add_block]; exact hn288_0) | exact hn288_0) (.string ((rd_T62 l1 0).f2))).trans hx288_0
                    replace hx288_1 := (cell_far (p := ⟨gb280, 1, none⟩) (by first | (rw [add_block]; exact hn288_0) | (show (Addr.add _ _).block ≠ _; rw [add_block]; exact hn288_0) | exact hn288_0) (.string ((rd_T62 l1 0).f2))).trans hx288_1
                    replace hx288_2 := (cell_far (p := ⟨gb280, 1, none⟩) (by first | (rw [add_block]; exact hn288_0) | (show (Addr.add _ _).block ≠ _; rw [add_block]; exact hn288_0) | exact hn288_0) (.string ((rd_T62 l1 0).f2))).trans hx288_2
                    clear hn288_0
                    replace p288 := eq_true p288
                    replace q288 := eq_true q288
                    have hcz31_0 : wc.cell? ⟨gb279, 0, none⟩ = some (.int .i64 0) := (blk_cell BK279.out 0).trans rfl
                    have hcz31_1 : wc.cell? ⟨gb279, 1, none⟩ = some (.string (⟨#[]⟩ : ByteArray)) := (blk_cell BK279.out 1).trans rfl
                    have hcz31_2 : wc.cell? ⟨gb279, 2, none⟩ = some (.int .i64 0) := (blk_cell BK279.out 2).trans rfl
                    have hcz31_3 : wc.cell? ⟨gb279, 3, none⟩ = some (.int .i64 0) := (blk_cell BK279.out 3).trans rfl
                    have hcz31_4 : wc.cell? ⟨gb279, 4, none⟩ = some (.int .i64 0) := (blk_cell BK279.out 4).trans rfl
                    have hcz31_5 : wc.cell? ⟨gb279, 5, none⟩ = some (.int .i64 0) := (blk_cell BK279.out 5).trans rfl
                    have hcz31_6 : wc.cell? ⟨gb279, 6, none⟩ = some (.int .i64 0) := (blk_cell BK279.out 6).trans rfl
                    have hfz31_0 := blk_frozen BK279.out 0
                    have hfz31_1 := blk_frozen BK279.out 1
                    have hfz31_2 := blk_frozen BK279.out 2
                    have hfz31_3 := blk_frozen BK279.out 3
                    have hfz31_4 := blk_frozen BK279.out 4
                    have hfz31_5 := blk_frozen BK279.out 5
                    have hfz31_6 := blk_frozen BK279.out 6
                    go_wp2
                    refine bodyPost_ret (results_cell_row rfl _ _ gb279 37 #[.int .i64 a0, .string ((rd_T62 l1 0).f2), .int .i64 ((rd_T62 l1 1).f1), .int .i64 0, .int .i64 0, .int .i64 0, .int .i64 0] (0, 0) _ rfl (by (with_reducible repeat (first | refine blk_drewN ?_ _ | refine blk_drew ?_ | refine blk_alloc ?_ _)); refine blk_put (cs := #[.int .i64 a0, .string ((rd_T62 l1 0).f2), .int .i64 ((rd_T62 l1 1).f1), .int .i64 0, .int .i64 0, .int .i64 0, .int .i64 0]) ?_ 6 _ rfl; (with_reducible repeat (first | refine blk_drewN ?_ _ | refine blk_drew ?_ | refine blk_alloc ?_ _)); refine blk_put (cs := #[.int .i64 a0, .string ((rd_T62 l1 0).f2), .int .i64 ((rd_T62 l1 1).f1), .int .i64 0, .int .i64 0, .int .i64 0, .int .i64 0]) ?_ 5 _ rfl; (with_reducible repeat (first | refine blk_drewN ?_ _ | refine blk_drew ?_ | refine blk_alloc ?_ _)); refine blk_put (cs := #[.int .i64 a0, .string ((rd_T62 l1 0).f2), .int .i64 ((rd_T62 l1 1).f1), .int .i64 0, .int .i64 0, .int .i64 0, .int .i64 0]) ?_ 4 _ rfl; (with_reducible repeat (first | refine blk_drewN ?_ _ | refine blk_drew ?_ | refine blk_alloc ?_ _)); refine blk_put (cs := #[.int .i64 a0, .string ((rd_T62 l1 0).f2), .int .i64 ((rd_T62 l1 1).f1), .int .i64 0, .int .i64 0, .int .i64 0, .int .i64 0]) ?_ 3 _ rfl; (with_reducible repeat (first | refine blk_drewN ?_ _ | refine blk_drew ?_ | refine blk_alloc ?_ _)); refine blk_put (cs := #[.int .i64 a0, .string ((rd_T62 l1 0).f2), .int .i64 0, .int .i64 0, .int .i64 0, .int .i64 0, .int .i64 0]) ?_ 2 _ rfl; (with_reducible repeat (first | refine blk_drewN ?_ _ | refine blk_drew ?_ | refine blk_alloc ?_ _)); refine blk_put (cs := #[.int .i64 a0, .string (⟨#[]⟩ : ByteArray), .int .i64 0, .int .i64 0, .int .i64 0, .int .i64 0, .int .i64 0]) ?_ 1 _ rfl; (with_reducible repeat (first | refine blk_drewN ?_ _ | refine blk_drew ?_ | refine blk_alloc ?_ _)); refine blk_put (cs := #[.int .i64 0, .string (⟨#[]⟩ : ByteArray), .int .i64 0, .int .i64 0, .int .i64 0, .int .i64 0, .int .i64 0]) ?_ 0 _ rfl; (with_reducible repeat (first | refine blk_drewN ?_ _ | refine blk_drew ?_ | refine blk_alloc ?_ _)); refine blk_far ?_ NB279_280.out _; (with_reducible repeat (first | refine blk_drewN ?_ _ | refine blk_drew ?_ | refine blk_alloc ?_ _)); refine blk_far ?_ NB279_280.out _; (with_reducible repeat (first | refine blk_drewN ?_ _ | refine blk_drew ?_ | refine blk_alloc ?_ _)); exact BK279.out) Try.underlying37 rfl (by kernel_rfl)) rfl ?_
                    exact ⟨by first | rfl | (simp [errW_none, errW_some] <;> rfl) | (simp [*, errW_none, errW_some] <;> rfl), by repeat (first | (with_reducible first | exact HB.out | apply below_alloc | apply pw_below_drewN | apply below_drew1 | refine below_set ?_ GE279.out | refine below_set ?_ GE280.out) | exact HB.out)⟩
                  · rw [if_neg c28] at H
                    exact absurd H (by simp)
                · rw [if_neg c27] at H
                  exact absurd H (by simp)
              · replace c26 := Bool.eq_false_iff.mpr c26
                subst c26
                have H1 : (if a0 = 6 then (lienref22_made.j2 kj23 l1 a0 (a0 == 6) a0 (⟨#[]⟩ : ByteArray) 0 0 0 0 0) else (lienref22_made.j2 kj23 l1 a0 (a0 == 12) a0 (⟨#[]⟩ : ByteArray) 0 0 0 0 0)) = some (r1, r2, r3, r4, r5, r6, r7) := by rw [if_neg (show ¬ (false = true) by decide)] at H; exact H
                clear H
                have H := H1
                clear H1
                have HC32 := Aside0.mk H
                clear H
                go_upto_if 58 with (fail)
                go_cut [58] (fun v58 wc => ∃ (kq : Nat) (x58_31 : Bool), v58 = .bool x58_31 ∧ Aside0 (lienref22_made.j2 kq l1 a0 x58_31 a0 (⟨#[]⟩ : ByteArray) 0 0 0 0 0 = some (r1, r2, r3, r4, r5, r6, r7)) ∧ Aside0 (kq ≤ kj23) ∧ Aside0 (wc.heap[gb279]? = some (.cells #[.int .i64 0, .string (⟨#[]⟩ : ByteArray), .int .i64 0, .int .i64 0, .int .i64 0, .int .i64 0, .int .i64 0] 37 (0, 0))) ∧ Aside0 (wc.heap[gb280]? = some (.cells #[.int .i64 a0, .string (⟨#[]⟩ : ByteArray), .int .i64 0, .int .i64 0, .int .i64 0, .int .i64 0, .int .i64 0] 37 (0, 0))) ∧ Aside0 (Below w.heap.size w wc))
                case first =>
                  have H := HC32.out
                  clear HC32
                  by_cases c33 : a0 = 6
                  · rw [if_pos c33] at H
                    have c33b0 : (a0 == 6) = true := beq_iff_eq.mpr c33
                    have c33b1 : (a0 != 6) = false := bne_eq_false_iff_eq.mpr c33
                    clear c33
                    (first | rw [c33b0] | (simp only [i64_w, i32_w]; rw [c33b0]) | skip)
                    have H' := Aside0.mk H
                    clear H
                    go_wp2
                    go_meet
                    case rel => exact ⟨_, ((a0 == 6)), (by first | rfl | (simp; done) | (simp [*]; done)), H', ⟨by have := HJ2.out; have := HJ23.out; first | omega | exact Nat.le_refl _⟩, ⟨by (with_reducible repeat (first | refine blk_drewN ?_ _ | refine blk_drew ?_ | refine blk_alloc ?_ _)); exact BK279.out⟩, ⟨by (with_reducible repeat (first | refine blk_drewN ?_ _ | refine blk_drew ?_ | refine blk_alloc ?_ _)); exact BK280.out⟩, ⟨by repeat (first | (with_reducible first | exact HB.out | apply below_alloc | apply pw_below_drewN | apply below_drew1 | refine below_set ?_ GE279.out | refine below_set ?_ GE280.out) | exact HB.out)⟩⟩
                  · rw [if_neg c33] at H
                    have c33b0 : (a0 == 6) = false := beq_eq_false_iff_ne.mpr c33
                    have c33b1 : (a0 != 6) = true := bne_iff_ne.mpr c33
                    (first | rw [c33b0] | (simp only [i64_w, i32_w]; rw [c33b0]) | skip)
                    have H' := Aside0.mk H
                    clear H
                    go_wp2
                    go_meet
                    case rel => exact ⟨_, ((a0 == 12)), (by first | rfl | (simp; done) | (simp [*]; done)), H', ⟨by have := HJ2.out; have := HJ23.out; first | omega | exact Nat.le_refl _⟩, ⟨by (with_reducible repeat (first | refine blk_drewN ?_ _ | refine blk_drew ?_ | refine blk_alloc ?_ _)); exact BK279.out⟩, ⟨by (with_reducible repeat (first | refine blk_drewN ?_ _ | refine blk_drew ?_ | refine blk_alloc ?_ _)); exact BK280.out⟩, ⟨by repeat (first | (with_reducible first | exact HB.out | apply below_alloc | apply pw_below_drewN | apply below_drew1 | refine below_set ?_ GE279.out | refine below_set ?_ GE280.out) | exact HB.out)⟩⟩
                case rest =>
                  clear HC32
                  try clear c1
                  try clear c2
                  try clear p2
                  try clear q2
                  try clear hx2
                  try clear qi2
                  try clear c3
                  try clear c4
                  try clear c6
                  try clear c8
                  try clear c8b0
                  try clear c8b1
                  try clear c9
                  try clear c9b0
                  try clear c9b1
                  try clear c10
                  try clear c11
                  try clear c11b0
                  try clear c11b1
                  try clear c12
                  try clear c12b0
                  try clear c12b1
                  try clear c13
                  try clear c16
                  try clear c16b0
                  try clear c16b1
                  try clear c17
                  try clear c17b0
                  try clear c17b1
                  try clear c18
                  try clear c18b0
                  try clear c18b1
                  try clear c19
                  try clear c19b0
                  try clear c19b1
                  try clear c20
                  try clear c20b0
                  try clear c20b1
                  try clear c21
                  try clear c25
                  try clear c25b0
                  try clear c25b1
                  try clear c26
                  try clear c27
                  try clear c27b0
                  try clear c27b1
                  try clear c28
                  try clear c28b0
                  try clear c28b1
                  try clear p28
                  try clear q28
                  try clear hx28
                  try clear qi28
                  try clear c29
                  try clear c33
                  try clear c33b0
                  try clear c33b1
                  try clear hcz14_0
                  try clear hcz14_1
                  try clear hcz14_2
                  try clear hcz14_3
                  try clear hcz14_4
                  try clear hcz14_5
                  try clear hcz14_6
                  try clear hcz15_0
                  try clear hcz15_1
                  try clear hcz15_2
                  try clear hcz15_3
                  try clear hcz15_4
                  try clear hcz15_5
                  try clear hcz15_6
                  try clear hcz22_0
                  try clear hcz22_1
                  try clear hcz22_2
                  try clear hcz22_3
                  try clear hcz22_4
                  try clear hcz22_5
                  try clear hcz22_6
                  try clear hcz23_0
                  try clear hcz23_1
                  try clear hcz23_2
                  try clear hcz23_3
                  try clear hcz23_4
                  try clear hcz23_5
                  try clear hcz23_6
                  try clear hcz30_0
                  try clear hcz30_1
                  try clear hcz30_2
                  try clear hcz30_3
                  try clear hcz30_4
                  try clear hcz30_5
                  try clear hcz30_6
                  try clear hcz31_0
                  try clear hcz31_1
                  try clear hcz31_2
                  try clear hcz31_3
                  try clear hcz31_4
                  try clear hcz31_5
                  try clear hcz31_6
                  try clear hcz7_0
                  try clear hcz7_1
                  try clear hcz7_2
                  try clear hcz7_3
                  try clear hcz7_4
                  try clear hcz7_5
                  try clear hcz7_6
                  try clear hfz14_0
                  try clear hfz14_1
                  try clear hfz14_2
                  try clear hfz14_3
                  try clear hfz14_4
                  try clear hfz14_5
                  try clear hfz14_6
                  try clear hfz15_0
                  try clear hfz15_1
                  try clear hfz15_2
                  try clear hfz15_3
                  try clear hfz15_4
                  try clear hfz15_5
                  try clear hfz15_6
                  try clear hfz22_0
                  try clear hfz22_1
                  try clear hfz22_2
                  try clear hfz22_3
                  try clear hfz22_4
                  try clear hfz22_5
                  try clear hfz22_6
                  try clear hfz23_0
                  try clear hfz23_1
                  try clear hfz23_2
                  try clear hfz23_3
                  try clear hfz23_4
                  try clear hfz23_5
                  try clear hfz23_6
                  try clear hfz30_0
                  try clear hfz30_1
                  try clear hfz30_2
                  try clear hfz30_3
                  try clear hfz30_4
                  try clear hfz30_5
                  try clear hfz30_6
                  try clear hfz31_0
                  try clear hfz31_1
                  try clear hfz31_2
                  try clear hfz31_3
                  try clear hfz31_4
                  try clear hfz31_5
                  try clear hfz31_6
                  try clear hfz7_0
                  try clear hfz7_1
                  try clear hfz7_2
                  try clear hfz7_3
                  try clear hfz7_4
                  try clear hfz7_5
                  try clear hfz7_6
                  try clear hx281_0
                  try clear hx281_1
                  try clear hx281_2
                  try clear hx282_0
                  try clear hx282_1
                  try clear hx282_2
                  try clear hx283_0
                  try clear hx283_1
                  try clear hx283_2
                  try clear hx284_0
                  try clear hx284_1
                  try clear hx284_2
                  try clear hx285_0
                  try clear hx285_1
                  try clear hx285_2
                  try clear hx286_0
                  try clear hx286_1
                  try clear hx286_2
                  try clear hx287_0
                  try clear hx287_1
                  try clear hx287_2
                  try clear hx288_0
                  try clear hx288_1
                  try clear hx288_2
                  try clear p2
                  try clear p281
                  try clear p282
                  try clear p283
                  try clear p284
                  try clear p285
                  try clear p286
                  try clear p287
                  try clear p288
                  try clear q2
                  try clear q281
                  try clear q282
                  try clear q283
                  try clear q284
                  try clear q285
                  try clear q286
                  try clear q287
                  try clear q288
                  obtain ⟨kq, x58_31, rfl, HA, HJ31, BK279, BK280, HB⟩ := hcut
                  cases kq with
                  | zero => exact absurd HA.out (by simp [lienref22_made.j2])
                  | succ kj31 =>
                    have H := HA.out
                    clear HA
                    simp only [lienref22_made.j2] at H
                    by_cases c34 : x58_31 = true
                    · subst c34
                      have H1 : (if 0 < (l1.length : Int) then (some (a0, (rd_T62 l1 0).f2, 0, 0, 0, 0, 0)) else (none)) = some (r1, r2, r3, r4, r5, r6, r7) := by rw [if_pos rfl] at H; exact H
                      clear H
                      have H := H1
                      clear H1
                      by_cases c35 : 0 < (l1.length : Int)
                      · rw [if_pos c35] at H
                        have c35b0 : decide (0 < (l1.length : Int)) = true := decide_eq_true c35
                        have c35b1 : decide (0 < l1.length) = true := decide_eq_true (by omega)
                        clear c35
                        simp only [Option.some.injEq, Prod.mk.injEq] at H
                        obtain ⟨rfl, rfl, rfl, rfl, rfl, rfl, rfl⟩ := H
                        have p289 : 0 ≤ (0 : Int) := (by omega)
                        have q289 : 0 < (l1.length : Int) := of_decide_eq_true (by first | (with_reducible assumption) | assumption)
                        obtain ⟨ad289, e289, hx289_0, hx289_1, hx289_2⟩ := at_T62 HR1.out 0 p289 q289
                        cases e289
                        have qi289 : (0 < l1.length) = True := eq_true (by omega)
                        (try rw [show ((0 : Int)).toNat = 0 from rfl] at hx289_0)
                        (try rw [show 0 * 3 = 0 from rfl] at hx289_0)
                        (try rw [Addr.add_zero'] at hx289_0)
                        (try rw [show ((0 : Int)).toNat = 0 from rfl] at hx289_1)
                        (try rw [show 0 * 3 = 0 from rfl] at hx289_1)
                        (try rw [Addr.add_zero'] at hx289_1)
                        (try rw [show ((0 : Int)).toNat = 0 from rfl] at hx289_2)
                        (try rw [show 0 * 3 = 0 from rfl] at hx289_2)
                        (try rw [Addr.add_zero'] at hx289_2)
                        replace hx289_0 := (HB.out.cell (World.block_lt_of_cell? w _ hx289_0)).trans hx289_0
                        replace hx289_1 := (HB.out.cell (World.block_lt_of_cell? w _ hx289_1)).trans hx289_1
                        replace hx289_2 := (HB.out.cell (World.block_lt_of_cell? w _ hx289_2)).trans hx289_2
                        replace p289 := eq_true p289
                        replace q289 := eq_true q289
                        have hnb36 := NB280_279.out
                        have hnc36 := NB279_280.out
                        have hcz37_0 : wc.cell? ⟨gb280, 0, none⟩ = some (.int .i64 a0) := (blk_cell BK280.out 0).trans rfl
                        have hcz37_1 : wc.cell? ⟨gb280, 1, none⟩ = some (.string (⟨#[]⟩ : ByteArray)) := (blk_cell BK280.out 1).trans rfl
                        have hcz37_2 : wc.cell? ⟨gb280, 2, none⟩ = some (.int .i64 0) := (blk_cell BK280.out 2).trans rfl
                        have hcz37_3 : wc.cell? ⟨gb280, 3, none⟩ = some (.int .i64 0) := (blk_cell BK280.out 3).trans rfl
                        have hcz37_4 : wc.cell? ⟨gb280, 4, none⟩ = some (.int .i64 0) := (blk_cell BK280.out 4).trans rfl
                        have hcz37_5 : wc.cell? ⟨gb280, 5, none⟩ = some (.int .i64 0) := (blk_cell BK280.out 5).trans rfl
                        have hcz37_6 : wc.cell? ⟨gb280, 6, none⟩ = some (.int .i64 0) := (blk_cell BK280.out 6).trans rfl
                        have hfz37_0 := blk_frozen BK280.out 0
                        have hfz37_1 := blk_frozen BK280.out 1
                        have hfz37_2 := blk_frozen BK280.out 2
                        have hfz37_3 := blk_frozen BK280.out 3
                        have hfz37_4 := blk_frozen BK280.out 4
                        have hfz37_5 := blk_frozen BK280.out 5
                        have hfz37_6 := blk_frozen BK280.out 6
                        have hcz38_0 : wc.cell? ⟨gb279, 0, none⟩ = some (.int .i64 0) := (blk_cell BK279.out 0).trans rfl
                        have hcz38_1 : wc.cell? ⟨gb279, 1, none⟩ = some (.string (⟨#[]⟩ : ByteArray)) := (blk_cell BK279.out 1).trans rfl
                        have hcz38_2 : wc.cell? ⟨gb279, 2, none⟩ = some (.int .i64 0) := (blk_cell BK279.out 2).trans rfl
                        have hcz38_3 : wc.cell? ⟨gb279, 3, none⟩ = some (.int .i64 0) := (blk_cell BK279.out 3).trans rfl
                        have hcz38_4 : wc.cell? ⟨gb279, 4, none⟩ = some (.int .i64 0) := (blk_cell BK279.out 4).trans rfl
                        have hcz38_5 : wc.cell? ⟨gb279, 5, none⟩ = some (.int .i64 0) := (blk_cell BK279.out 5).trans rfl
                        have hcz38_6 : wc.cell? ⟨gb279, 6, none⟩ = some (.int .i64 0) := (blk_cell BK279.out 6).trans rfl
                        have hfz38_0 := blk_frozen BK279.out 0
                        have hfz38_1 := blk_frozen BK279.out 1
                        have hfz38_2 := blk_frozen BK279.out 2
                        have hfz38_3 := blk_frozen BK279.out 3
                        have hfz38_4 := blk_frozen BK279.out 4
                        have hfz38_5 := blk_frozen BK279.out 5
                        have hfz38_6 := blk_frozen BK279.out 6
                        go_wp2
                        refine bodyPost_ret (results_cell_row rfl _ _ gb279 37 #[.int .i64 a0, .string ((rd_T62 l1 0).f2), .int .i64 0, .int .i64 0, .int .i64 0, .int .i64 0, .int .i64 0] (0, 0) _ rfl (by (with_reducible repeat (first | refine blk_drewN ?_ _ | refine blk_drew ?_ | refine blk_alloc ?_ _)); refine blk_put (cs := #[.int .i64 a0, .string ((rd_T62 l1 0).f2), .int .i64 0, .int .i64 0, .int .i64 0, .int .i64 0, .int .i64 0]) ?_ 6 _ rfl; (with_reducible repeat (first | refine blk_drewN ?_ _ | refine blk_drew ?_ | refine blk_alloc ?_ _)); refine blk_put (cs := #[.int .i64 a0, .string ((rd_T62 l1 0).f2), .int .i64 0, .int .i64 0, .int .i64 0, .int .i64 0, .int .i64 0]) ?_ 5 _ rfl; (with_reducible repeat (first | refine blk_drewN ?_ _ | refine blk_drew ?_ | refine blk_alloc ?_ _)); refine blk_put (cs := #[.int .i64 a0, .string ((rd_T62 l1 0).f2), .int .i64 0, .int .i64 0, .int .i64 0, .int .i64 0, .int .i64 0]) ?_ 4 _ rfl; (with_reducible repeat (first | refine blk_drewN ?_ _ | refine blk_drew ?_ | refine blk_alloc ?_ _)); refine blk_put (cs := #[.int .i64 a0, .string ((rd_T62 l1 0).f2), .int .i64 0, .int .i64 0, .int .i64 0, .int .i64 0, .int .i64 0]) ?_ 3 _ rfl; (with_reducible repeat (first | refine blk_drewN ?_ _ | refine blk_drew ?_ | refine blk_alloc ?_ _)); refine blk_put (cs := #[.int .i64 a0, .string ((rd_T62 l1 0).f2), .int .i64 0, .int .i64 0, .int .i64 0, .int .i64 0, .int .i64 0]) ?_ 2 _ rfl; (with_reducible repeat (first | refine blk_drewN ?_ _ | refine blk_drew ?_ | refine blk_alloc ?_ _)); refine blk_put (cs := #[.int .i64 a0, .string (⟨#[]⟩ : ByteArray), .int .i64 0, .int .i64 0, .int .i64 0, .int .i64 0, .int .i64 0]) ?_ 1 _ rfl; (with_reducible repeat (first | refine blk_drewN ?_ _ | refine blk_drew ?_ | refine blk_alloc ?_ _)); refine blk_put (cs := #[.int .i64 0, .string (⟨#[]⟩ : ByteArray), .int .i64 0, .int .i64 0, .int .i64 0, .int .i64 0, .int .i64 0]) ?_ 0 _ rfl; (with_reducible repeat (first | refine blk_drewN ?_ _ | refine blk_drew ?_ | refine blk_alloc ?_ _)); refine blk_far ?_ NB279_280.out _; (with_reducible repeat (first | refine blk_drewN ?_ _ | refine blk_drew ?_ | refine blk_alloc ?_ _)); exact BK279.out) Try.underlying37 rfl (by kernel_rfl)) rfl ?_
                        exact ⟨by first | rfl | (simp [errW_none, errW_some] <;> rfl) | (simp [*, errW_none, errW_some] <;> rfl), by repeat (first | (with_reducible first | exact HB.out | apply below_alloc | apply pw_below_drewN | apply below_drew1 | refine below_set ?_ GE279.out | refine below_set ?_ GE280.out) | exact HB.out)⟩
                      · rw [if_neg c35] at H
                        exact absurd H (by simp)
                    · replace c34 := Bool.eq_false_iff.mpr c34
                      subst c34
                      have H1 : (if a0 = 7 then (if 0 < (l1.length : Int) then (some (a0, (⟨#[]⟩ : ByteArray), 0, (rd_T62 l1 0).f1, 0, 0, 0)) else (none)) else (if a0 = 9 then (if 0 < (l1.length : Int) then (if 1 < (l1.length : Int) then (if 2 < (l1.length : Int) then (some (a0, (rd_T62 l1 0).f2, 0, (rd_T62 l1 2).f1, 0, (rd_T62 l1 1).f1, 0)) else (none)) else (none)) else (none)) else (if a0 = 10 then (if 0 < (l1.length : Int) then (if 1 < (l1.length : Int) then (some (a0, (⟨#[]⟩ : ByteArray), 0, 0, 0, (rd_T62 l1 0).f1, (rd_T62 l1 1).f1)) else (none)) else (none)) else (if a0 = 11 then (if 0 < (l1.length : Int) then (if 1 < (l1.length : Int) then (if 2 < (l1.length : Int) then (if 3 < (l1.length : Int) then (some (a0, (rd_T62 l1 2).f2, 0, (rd_T62 l1 3).f1, 0, (rd_T62 l1 0).f1, (rd_T62 l1 1).f1)) else (none)) else (none)) else (none)) else (none)) else (some (a0, (⟨#[]⟩ : ByteArray), 0, 0, 0, 0, 0)))))) = some (r1, r2, r3, r4, r5, r6, r7) := by rw [if_neg (show ¬ (false = true) by decide)] at H; exact H
                      clear H
                      have H := H1
                      clear H1
                      by_cases c39 : a0 = 7
                      · rw [if_pos c39] at H
                        have c39b0 : (a0 == 7) = true := beq_iff_eq.mpr c39
                        have c39b1 : (a0 != 7) = false := bne_eq_false_iff_eq.mpr c39
                        clear c39
                        by_cases c40 : 0 < (l1.length : Int)
                        · rw [if_pos c40] at H
                          have c40b0 : decide (0 < (l1.length : Int)) = true := decide_eq_true c40
                          have c40b1 : decide (0 < l1.length) = true := decide_eq_true (by omega)
                          clear c40
                          simp only [Option.some.injEq, Prod.mk.injEq] at H
                          obtain ⟨rfl, rfl, rfl, rfl, rfl, rfl, rfl⟩ := H
                          have p290 : 0 ≤ (0 : Int) := (by omega)
                          have q290 : 0 < (l1.length : Int) := of_decide_eq_true (by first | (with_reducible assumption) | assumption)
                          obtain ⟨ad290, e290, hx290_0, hx290_1, hx290_2⟩ := at_T62 HR1.out 0 p290 q290
                          cases e290
                          have qi290 : (0 < l1.length) = True := eq_true (by omega)
                          (try rw [show ((0 : Int)).toNat = 0 from rfl] at hx290_0)
                          (try rw [show 0 * 3 = 0 from rfl] at hx290_0)
                          (try rw [Addr.add_zero'] at hx290_0)
                          (try rw [show ((0 : Int)).toNat = 0 from rfl] at hx290_1)
                          (try rw [show 0 * 3 = 0 from rfl] at hx290_1)
                          (try rw [Addr.add_zero'] at hx290_1)
                          (try rw [show ((0 : Int)).toNat = 0 from rfl] at hx290_2)
                          (try rw [show 0 * 3 = 0 from rfl] at hx290_2)
                          (try rw [Addr.add_zero'] at hx290_2)
                          replace hx290_0 := (HB.out.cell (World.block_lt_of_cell? w _ hx290_0)).trans hx290_0
                          replace hx290_1 := (HB.out.cell (World.block_lt_of_cell? w _ hx290_1)).trans hx290_1
                          replace hx290_2 := (HB.out.cell (World.block_lt_of_cell? w _ hx290_2)).trans hx290_2
                          replace p290 := eq_true p290
                          replace q290 := eq_true q290
                          have hnb41 := NB280_279.out
                          have hnc41 := NB279_280.out
                          have hcz42_0 : wc.cell? ⟨gb280, 0, none⟩ = some (.int .i64 a0) := (blk_cell BK280.out 0).trans rfl
                          have hcz42_1 : wc.cell? ⟨gb280, 1, none⟩ = some (.string (⟨#[]⟩ : ByteArray)) := (blk_cell BK280.out 1).trans rfl
                          have hcz42_2 : wc.cell? ⟨gb280, 2, none⟩ = some (.int .i64 0) := (blk_cell BK280.out 2).trans rfl
                          have hcz42_3 : wc.cell? ⟨gb280, 3, none⟩ = some (.int .i64 0) := (blk_cell BK280.out 3).trans rfl
                          have hcz42_4 : wc.cell? ⟨gb280, 4, none⟩ = some (.int .i64 0) := (blk_cell BK280.out 4).trans rfl
                          have hcz42_5 : wc.cell? ⟨gb280, 5, none⟩ = some (.int .i64 0) := (blk_cell BK280.out 5).trans rfl
                          have hcz42_6 : wc.cell? ⟨gb280, 6, none⟩ = some (.int .i64 0) := (blk_cell BK280.out 6).trans rfl
                          have hfz42_0 := blk_frozen BK280.out 0
                          have hfz42_1 := blk_frozen BK280.out 1
                          have hfz42_2 := blk_frozen BK280.out 2
                          have hfz42_3 := blk_frozen BK280.out 3
                          have hfz42_4 := blk_frozen BK280.out 4
                          have hfz42_5 := blk_frozen BK280.out 5
                          have hfz42_6 := blk_frozen BK280.out 6
                          have hcz43_0 : wc.cell? ⟨gb279, 0, none⟩ = some (.int .i64 0) := (blk_cell BK279.out 0).trans rfl
                          have hcz43_1 : wc.cell? ⟨gb279, 1, none⟩ = some (.string (⟨#[]⟩ : ByteArray)) := (blk_cell BK279.out 1).trans rfl
                          have hcz43_2 : wc.cell? ⟨gb279, 2, none⟩ = some (.int .i64 0) := (blk_cell BK279.out 2).trans rfl
                          have hcz43_3 : wc.cell? ⟨gb279, 3, none⟩ = some (.int .i64 0) := (blk_cell BK279.out 3).trans rfl
                          have hcz43_4 : wc.cell? ⟨gb279, 4, none⟩ = some (.int .i64 0) := (blk_cell BK279.out 4).trans rfl
                          have hcz43_5 : wc.cell? ⟨gb279, 5, none⟩ = some (.int .i64 0) := (blk_cell BK279.out 5).trans rfl
                          have hcz43_6 : wc.cell? ⟨gb279, 6, none⟩ = some (.int .i64 0) := (blk_cell BK279.out 6).trans rfl
                          have hfz43_0 := blk_frozen BK279.out 0
                          have hfz43_1 := blk_frozen BK279.out 1
                          have hfz43_2 := blk_frozen BK279.out 2
                          have hfz43_3 := blk_frozen BK279.out 3
                          have hfz43_4 := blk_frozen BK279.out 4
                          have hfz43_5 := blk_frozen BK279.out 5
                          have hfz43_6 := blk_frozen BK279.out 6
                          go_wp2
                          refine bodyPost_ret (results_cell_row rfl _ _ gb279 37 #[.int .i64 a0, .string (⟨#[]⟩ : ByteArray), .int .i64 0, .int .i64 ((rd_T62 l1 0).f1), .int .i64 0, .int .i64 0, .int .i64 0] (0, 0) _ rfl (by (with_reducible repeat (first | refine blk_drewN ?_ _ | refine blk_drew ?_ | refine blk_alloc ?_ _)); refine blk_put (cs := #[.int .i64 a0, .string (⟨#[]⟩ : ByteArray), .int .i64 0, .int .i64 ((rd_T62 l1 0).f1), .int .i64 0, .int .i64 0, .int .i64 0]) ?_ 6 _ rfl; (with_reducible repeat (first | refine blk_drewN ?_ _ | refine blk_drew ?_ | refine blk_alloc ?_ _)); refine blk_put (cs := #[.int .i64 a0, .string (⟨#[]⟩ : ByteArray), .int .i64 0, .int .i64 ((rd_T62 l1 0).f1), .int .i64 0, .int .i64 0, .int .i64 0]) ?_ 5 _ rfl; (with_reducible repeat (first | refine blk_drewN ?_ _ | refine blk_drew ?_ | refine blk_alloc ?_ _)); refine blk_put (cs := #[.int .i64 a0, .string (⟨#[]⟩ : ByteArray), .int .i64 0, .int .i64 ((rd_T62 l1 0).f1), .int .i64 0, .int .i64 0, .int .i64 0]) ?_ 4 _ rfl; (with_reducible repeat (first | refine blk_drewN ?_ _ | refine blk_drew ?_ | refine blk_alloc ?_ _)); refine blk_put (cs := #[.int .i64 a0, .string (⟨#[]⟩ : ByteArray), .int .i64 0, .int .i64 0, .int .i64 0, .int .i64 0, .int .i64 0]) ?_ 3 _ rfl; (with_reducible repeat (first | refine blk_drewN ?_ _ | refine blk_drew ?_ | refine blk_alloc ?_ _)); refine blk_put (cs := #[.int .i64 a0, .string (⟨#[]⟩ : ByteArray), .int .i64 0, .int .i64 0, .int .i64 0, .int .i64 0, .int .i64 0]) ?_ 2 _ rfl; (with_reducible repeat (first | refine blk_drewN ?_ _ | refine blk_drew ?_ | refine blk_alloc ?_ _)); refine blk_put (cs := #[.int .i64 a0, .string (⟨#[]⟩ : ByteArray), .int .i64 0, .int .i64 0, .int .i64 0, .int .i64 0, .int .i64 0]) ?_ 1 _ rfl; (with_reducible repeat (first | refine blk_drewN ?_ _ | refine blk_drew ?_ | refine blk_alloc ?_ _)); refine blk_put (cs := #[.int .i64 0, .string (⟨#[]⟩ : ByteArray), .int .i64 0, .int .i64 0, .int .i64 0, .int .i64 0, .int .i64 0]) ?_ 0 _ rfl; (with_reducible repeat (first | refine blk_drewN ?_ _ | refine blk_drew ?_ | refine blk_alloc ?_ _)); refine blk_far ?_ NB279_280.out _; (with_reducible repeat (first | refine blk_drewN ?_ _ | refine blk_drew ?_ | refine blk_alloc ?_ _)); exact BK279.out) Try.underlying37 rfl (by kernel_rfl)) rfl ?_
                          exact ⟨by first | rfl | (simp [errW_none, errW_some] <;> rfl) | (simp [*, errW_none, errW_some] <;> rfl), by repeat (first | (with_reducible first | exact HB.out | apply below_alloc | apply pw_below_drewN | apply below_drew1 | refine below_set ?_ GE279.out | refine below_set ?_ GE280.out) | exact HB.out)⟩
                        · rw [if_neg c40] at H
                          exact absurd H (by simp)
                      · rw [if_neg c39] at H
                        have c39b0 : (a0 == 7) = false := beq_eq_false_iff_ne.mpr c39
                        have c39b1 : (a0 != 7) = true := bne_iff_ne.mpr c39
                        by_cases c44 : a0 = 9
                        · rw [if_pos c44] at H
                          have c44b0 : (a0 == 9) = true := beq_iff_eq.mpr c44
                          have c44b1 : (a0 != 9) = false := bne_eq_false_iff_eq.mpr c44
                          clear c44
                          by_cases c45 : 0 < (l1.length : Int)
                          · rw [if_pos c45] at H
                            have c45b0 : decide (0 < (l1.length : Int)) = true := decide_eq_true c45
                            have c45b1 : decide (0 < l1.length) = true := decide_eq_true (by omega)
                            clear c45
                            by_cases c46 : 1 < (l1.length : Int)
                            · rw [if_pos c46] at H
                              have c46b0 : decide (1 < (l1.length : Int)) = true := decide_eq_true c46
                              have c46b1 : decide (1 < l1.length) = true := decide_eq_true (by omega)
                              clear c46
                              by_cases c47 : 2 < (l1.length : Int)
                              · rw [if_pos c47] at H
                                have c47b0 : decide (2 < (l1.length : Int)) = true := decide_eq_true c47
                                have c47b1 : decide (2 < l1.length) = true := decide_eq_true (by omega)
                                clear c47
                                simp only [Option.some.injEq, Prod.mk.injEq] at H
                                obtain ⟨rfl, rfl, rfl, rfl, rfl, rfl, rfl⟩ := H
                                have p291 : 0 ≤ (0 : Int) := (by omega)
                                have q291 : 0 < (l1.length : Int) := of_decide_eq_true (by first | (with_reducible assumption) | assumption)
                                obtain ⟨ad291, e291, hx291_0, hx291_1, hx291_2⟩ := at_T62 HR1.out 0 p291 q291
                                cases e291
                                have qi291 : (0 < l1.length) = True := eq_true (by omega)
                                (try rw [show ((0 : Int)).toNat = 0 from rfl] at hx291_0)
                                (try rw [show 0 * 3 = 0 from rfl] at hx291_0)
                                (try rw [Addr.add_zero'] at hx291_0)
                                (try rw [show ((0 : Int)).toNat = 0 from rfl] at hx291_1)
                                (try rw [show 0 * 3 = 0 from rfl] at hx291_1)
                                (try rw [Addr.add_zero'] at hx291_1)
                                (try rw [show ((0 : Int)).toNat = 0 from rfl] at hx291_2)
                                (try rw [show 0 * 3 = 0 from rfl] at hx291_2)
                                (try rw [Addr.add_zero'] at hx291_2)
                                replace hx291_0 := (HB.out.cell (World.block_lt_of_cell? w _ hx291_0)).trans hx291_0
                                replace hx291_1 := (HB.out.cell (World.block_lt_of_cell? w _ hx291_1)).trans hx291_1
                                replace hx291_2 := (HB.out.cell (World.block_lt_of_cell? w _ hx291_2)).trans hx291_2
                                replace p291 := eq_true p291
                                replace q291 := eq_true q291
                                have hnb48 := NB280_279.out
                                have hnc48 := NB279_280.out
                                have hcz49_0 : wc.cell? ⟨gb280, 0, none⟩ = some (.int .i64 a0) := (blk_cell BK280.out 0).trans rfl
                                have hcz49_1 : wc.cell? ⟨gb280, 1, none⟩ = some (.string (⟨#[]⟩ : ByteArray)) := (blk_cell BK280.out 1).trans rfl
                                have hcz49_2 : wc.cell? ⟨gb280, 2, none⟩ = some (.int .i64 0) := (blk_cell BK280.out 2).trans rfl
                                have hcz49_3 : wc.cell? ⟨gb280, 3, none⟩ = some (.int .i64 0) := (blk_cell BK280.out 3).trans rfl
                                have hcz49_4 : wc.cell? ⟨gb280, 4, none⟩ = some (.int .i64 0) := (blk_cell BK280.out 4).trans rfl
                                have hcz49_5 : wc.cell? ⟨gb280, 5, none⟩ = some (.int .i64 0) := (blk_cell BK280.out 5).trans rfl
                                have hcz49_6 : wc.cell? ⟨gb280, 6, none⟩ = some (.int .i64 0) := (blk_cell BK280.out 6).trans rfl
                                have hfz49_0 := blk_frozen BK280.out 0
                                have hfz49_1 := blk_frozen BK280.out 1
                                have hfz49_2 := blk_frozen BK280.out 2
                                have hfz49_3 := blk_frozen BK280.out 3
                                have hfz49_4 := blk_frozen BK280.out 4
                                have hfz49_5 := blk_frozen BK280.out 5
                                have hfz49_6 := blk_frozen BK280.out 6
                                have p292 : 0 ≤ (1 : Int) := (by omega)
                                have q292 : 1 < (l1.length : Int) := of_decide_eq_true (by first | (with_reducible assumption) | assumption)
                                obtain ⟨ad292, e292, hx292_0, hx292_1, hx292_2⟩ := at_T62 HR1.out 1 p292 q292
                                obtain rfl : ad291 = ad292 := (by injection e292)
                                (try simp only [show (1 : Int).toNat = 1 from rfl, Nat.reduceMul, Nat.reduceEqDiff, Go.Addr.add, ↓reduceIte] at hx292_0)
                                (try simp only [show (1 : Int).toNat = 1 from rfl, Nat.reduceMul, Nat.reduceEqDiff, Go.Addr.add, ↓reduceIte] at hx292_1)
                                (try simp only [show (1 : Int).toNat = 1 from rfl, Nat.reduceMul, Nat.reduceEqDiff, Go.Addr.add, ↓reduceIte] at hx292_2)
                                have qi292 : (1 < l1.length) = True := eq_true (by omega)
                                (try rw [show ((1 : Int)).toNat = 1 from rfl] at hx292_0)
                                (try rw [show 1 * 3 = 3 from rfl] at hx292_0)
                                (try rw [show ((1 : Int)).toNat = 1 from rfl] at hx292_1)
                                (try rw [show 1 * 3 = 3 from rfl] at hx292_1)
                                (try rw [show ((1 : Int)).toNat = 1 from rfl] at hx292_2)
                                (try rw [show 1 * 3 = 3 from rfl] at hx292_2)
                                have hn292_0 : ad291.block ≠ gb280 := Nat.ne_of_lt (Nat.lt_of_lt_of_le (by have := World.block_lt_of_cell? _ _ hx292_0; first | rwa [add_block] at this | exact this) GW280.out)
                                replace hx292_0 := (HB.out.cell (World.block_lt_of_cell? w _ hx292_0)).trans hx292_0
                                replace hx292_1 := (HB.out.cell (World.block_lt_of_cell? w _ hx292_1)).trans hx292_1
                                replace hx292_2 := (HB.out.cell (World.block_lt_of_cell? w _ hx292_2)).trans hx292_2
                                replace hx292_0 := (cell_far (p := ⟨gb280, 1, none⟩) (by first | (rw [add_block]; exact hn292_0) | (show (Addr.add _ _).block ≠ _; rw [add_block]; exact hn292_0) | exact hn292_0) (.string ((rd_T62 l1 0).f2))).trans hx292_0
                                replace hx292_1 := (cell_far (p := ⟨gb280, 1, none⟩) (by first | (rw [add_block]; exact hn292_0) | (show (Addr.add _ _).block ≠ _; rw [add_block]; exact hn292_0) | exact hn292_0) (.string ((rd_T62 l1 0).f2))).trans hx292_1
                                replace hx292_2 := (cell_far (p := ⟨gb280, 1, none⟩) (by first | (rw [add_block]; exact hn292_0) | (show (Addr.add _ _).block ≠ _; rw [add_block]; exact hn292_0) | exact hn292_0) (.string ((rd_T62 l1 0).f2))).trans hx292_2
                                clear hn292_0
                                replace p292 := eq_true p292
                                replace q292 := eq_true q292
                                have p293 : 0 ≤ (2 : Int) := (by omega)
                                have q293 : 2 < (l1.length : Int) := of_decide_eq_true (by first | (with_reducible assumption) | assumption)
                                obtain ⟨ad293, e293, hx293_0, hx293_1, hx293_2⟩ := at_T62 HR1.out 2 p293 q293
                                obtain rfl : ad291 = ad293 := (by injection e293)
                                (try simp only [show (2 : Int).toNat = 2 from rfl, Nat.reduceMul, Nat.reduceEqDiff, Go.Addr.add, ↓reduceIte] at hx293_0)
                                (try simp only [show (2 : Int).toNat = 2 from rfl, Nat.reduceMul, Nat.reduceEqDiff, Go.Addr.add, ↓reduceIte] at hx293_1)
                                (try simp only [show (2 : Int).toNat = 2 from rfl, Nat.reduceMul, Nat.reduceEqDiff, Go.Addr.add, ↓reduceIte] at hx293_2)
                                have qi293 : (2 < l1.length) = True := eq_true (by omega)
                                (try rw [show ((2 : Int)).toNat = 2 from rfl] at hx293_0)
                                (try rw [show 2 * 3 = 6 from rfl] at hx293_0)
                                (try rw [show ((2 : Int)).toNat = 2 from rfl] at hx293_1)
                                (try rw [show 2 * 3 = 6 from rfl] at hx293_1)
                                (try rw [show ((2 : Int)).toNat = 2 from rfl] at hx293_2)
                                (try rw [show 2 * 3 = 6 from rfl] at hx293_2)
                                have hn293_0 : ad291.block ≠ gb280 := Nat.ne_of_lt (Nat.lt_of_lt_of_le (by have := World.block_lt_of_cell? _ _ hx293_0; first | rwa [add_block] at this | exact this) GW280.out)
                                have hn293_1 : ad291.block ≠ gb280 := Nat.ne_of_lt (Nat.lt_of_lt_of_le (by have := World.block_lt_of_cell? _ _ hx293_0; first | rwa [add_block] at this | exact this) GW280.out)
                                replace hx293_0 := (HB.out.cell (World.block_lt_of_cell? w _ hx293_0)).trans hx293_0
                                replace hx293_1 := (HB.out.cell (World.block_lt_of_cell? w _ hx293_1)).trans hx293_1
                                replace hx293_2 := (HB.out.cell (World.block_lt_of_cell? w _ hx293_2)).trans hx293_2
                                replace hx293_0 := (cell_far (p := ⟨gb280, 1, none⟩) (by first | (rw [add_block]; exact hn293_0) | (show (Addr.add _ _).block ≠ _; rw [add_block]; exact hn293_0) | exact hn293_0) (.string ((rd_T62 l1 0).f2))).trans hx293_0
                                replace hx293_1 := (cell_far (p := ⟨gb280, 1, none⟩) (by first | (rw [add_block]; exact hn293_0) | (show (Addr.add _ _).block ≠ _; rw [add_block]; exact hn293_0) | exact hn293_0) (.string ((rd_T62 l1 0).f2))).trans hx293_1
                                replace hx293_2 := (cell_far (p := ⟨gb280, 1, none⟩) (by first | (rw [add_block]; exact hn293_0) | (show (Addr.add _ _).block ≠ _; rw [add_block]; exact hn293_0) | exact hn293_0) (.string ((rd_T62 l1 0).f2))).trans hx293_2
                                replace hx293_0 := (cell_far (p := ⟨gb280, 5, none⟩) (by first | (rw [add_block]; exact hn293_1) | (show (Addr.add _ _).block ≠ _; rw [add_block]; exact hn293_1) | exact hn293_1) (.int .i64 ((rd_T62 l1 1).f1))).trans hx293_0
                                replace hx293_1 := (cell_far (p := ⟨gb280, 5, none⟩) (by first | (rw [add_block]; exact hn293_1) | (show (Addr.add _ _).block ≠ _; rw [add_block]; exact hn293_1) | exact hn293_1) (.int .i64 ((rd_T62 l1 1).f1))).trans hx293_1
                                replace hx293_2 := (cell_far (p := ⟨gb280, 5, none⟩) (by first | (rw [add_block]; exact hn293_1) | (show (Addr.add _ _).block ≠ _; rw [add_block]; exact hn293_1) | exact hn293_1) (.int .i64 ((rd_T62 l1 1).f1))).trans hx293_2
                                clear hn293_0
                                clear hn293_1
                                replace p293 := eq_true p293
                                replace q293 := eq_true q293
                                have hcz50_0 : wc.cell? ⟨gb279, 0, none⟩ = some (.int .i64 0) := (blk_cell BK279.out 0).trans rfl
                                have hcz50_1 : wc.cell? ⟨gb279, 1, none⟩ = some (.string (⟨#[]⟩ : ByteArray)) := (blk_cell BK279.out 1).trans rfl
                                have hcz50_2 : wc.cell? ⟨gb279, 2, none⟩ = some (.int .i64 0) := (blk_cell BK279.out 2).trans rfl
                                have hcz50_3 : wc.cell? ⟨gb279, 3, none⟩ = some (.int .i64 0) := (blk_cell BK279.out 3).trans rfl
                                have hcz50_4 : wc.cell? ⟨gb279, 4, none⟩ = some (.int .i64 0) := (blk_cell BK279.out 4).trans rfl
                                have hcz50_5 : wc.cell? ⟨gb279, 5, none⟩ = some (.int .i64 0) := (blk_cell BK279.out 5).trans rfl
                                have hcz50_6 : wc.cell? ⟨gb279, 6, none⟩ = some (.int .i64 0) := (blk_cell BK279.out 6).trans rfl
                                have hfz50_0 := blk_frozen BK279.out 0
                                have hfz50_1 := blk_frozen BK279.out 1
                                have hfz50_2 := blk_frozen BK279.out 2
                                have hfz50_3 := blk_frozen BK279.out 3
                                have hfz50_4 := blk_frozen BK279.out 4
                                have hfz50_5 := blk_frozen BK279.out 5
                                have hfz50_6 := blk_frozen BK279.out 6
                                go_wp2
                                refine bodyPost_ret (results_cell_row rfl _ _ gb279 37 #[.int .i64 a0, .string ((rd_T62 l1 0).f2), .int .i64 0, .int .i64 ((rd_T62 l1 2).f1), .int .i64 0, .int .i64 ((rd_T62 l1 1).f1), .int .i64 0] (0, 0) _ rfl (by (with_reducible repeat (first | refine blk_drewN ?_ _ | refine blk_drew ?_ | refine blk_alloc ?_ _)); refine blk_put (cs := #[.int .i64 a0, .string ((rd_T62 l1 0).f2), .int .i64 0, .int .i64 ((rd_T62 l1 2).f1), .int .i64 0, .int .i64 ((rd_T62 l1 1).f1), .int .i64 0]) ?_ 6 _ rfl; (with_reducible repeat (first | refine blk_drewN ?_ _ | refine blk_drew ?_ | refine blk_alloc ?_ _)); refine blk_put (cs := #[.int .i64 a0, .string ((rd_T62 l1 0).f2), .int .i64 0, .int .i64 ((rd_T62 l1 2).f1), .int .i64 0, .int .i64 0, .int .i64 0]) ?_ 5 _ rfl; (with_reducible repeat (first | refine blk_drewN ?_ _ | refine blk_drew ?_ | refine blk_alloc ?_ _)); refine blk_put (cs := #[.int .i64 a0, .string ((rd_T62 l1 0).f2), .int .i64 0, .int .i64 ((rd_T62 l1 2).f1), .int .i64 0, .int .i64 0, .int .i64 0]) ?_ 4 _ rfl; (with_reducible repeat (first | refine blk_drewN ?_ _ | refine blk_drew ?_ | refine blk_alloc ?_ _)); refine blk_put (cs := #[.int .i64 a0, .string ((rd_T62 l1 0).f2), .int .i64 0, .int .i64 0, .int .i64 0, .int .i64 0, .int .i64 0]) ?_ 3 _ rfl; (with_reducible repeat (first | refine blk_drewN ?_ _ | refine blk_drew ?_ | refine blk_alloc ?_ _)); refine blk_put (cs := #[.int .i64 a0, .string ((rd_T62 l1 0).f2), .int .i64 0, .int .i64 0, .int .i64 0, .int .i64 0, .int .i64 0]) ?_ 2 _ rfl; (with_reducible repeat (first | refine blk_drewN ?_ _ | refine blk_drew ?_ | refine blk_alloc ?_ _)); refine blk_put (cs := #[.int .i64 a0, .string (⟨#[]⟩ : ByteArray), .int .i64 0, .int .i64 0, .int .i64 0, .int .i64 0, .int .i64 0]) ?_ 1 _ rfl; (with_reducible repeat (first | refine blk_drewN ?_ _ | refine blk_drew ?_ | refine blk_alloc ?_ _)); refine blk_put (cs := #[.int .i64 0, .string (⟨#[]⟩ : ByteArray), .int .i64 0, .int .i64 0, .int .i64 0, .int .i64 0, .int .i64 0]) ?_ 0 _ rfl; (with_reducible repeat (first | refine blk_drewN ?_ _ | refine blk_drew ?_ | refine blk_alloc ?_ _)); refine blk_far ?_ NB279_280.out _; (with_reducible repeat (first | refine blk_drewN ?_ _ | refine blk_drew ?_ | refine blk_alloc ?_ _)); refine blk_far ?_ NB279_280.out _; (with_reducible repeat (first | refine blk_drewN ?_ _ | refine blk_drew ?_ | refine blk_alloc ?_ _)); refine blk_far ?_ NB279_280.out _; (with_reducible repeat (first | refine blk_drewN ?_ _ | refine blk_drew ?_ | refine blk_alloc ?_ _)); exact BK279.out) Try.underlying37 rfl (by kernel_rfl)) rfl ?_
                                exact ⟨by first | rfl | (simp [errW_none, errW_some] <;> rfl) | (simp [*, errW_none, errW_some] <;> rfl), by repeat (first | (with_reducible first | exact HB.out | apply below_alloc | apply pw_below_drewN | apply below_drew1 | refine below_set ?_ GE279.out | refine below_set ?_ GE280.out) | exact HB.out)⟩
                              · rw [if_neg c47] at H
                                exact absurd H (by simp)
                            · rw [if_neg c46] at H
                              exact absurd H (by simp)
                          · rw [if_neg c45] at H
                            exact absurd H (by simp)
                        · rw [if_neg c44] at H
                          have c44b0 : (a0 == 9) = false := beq_eq_false_iff_ne.mpr c44
                          have c44b1 : (a0 != 9) = true := bne_iff_ne.mpr c44
                          by_cases c51 : a0 = 10
                          · rw [if_pos c51] at H
                            have c51b0 : (a0 == 10) = true := beq_iff_eq.mpr c51
                            have c51b1 : (a0 != 10) = false := bne_eq_false_iff_eq.mpr c51
                            clear c51
                            by_cases c52 : 0 < (l1.length : Int)
                            · rw [if_pos c52] at H
                              have c52b0 : decide (0 < (l1.length : Int)) = true := decide_eq_true c52
                              have c52b1 : decide (0 < l1.length) = true := decide_eq_true (by omega)
                              clear c52
                              by_cases c53 : 1 < (l1.length : Int)
                              · rw [if_pos c53] at H
                                have c53b0 : decide (1 < (l1.length : Int)) = true := decide_eq_true c53
                                have c53b1 : decide (1 < l1.length) = true := decide_eq_true (by omega)
                                clear c53
                                simp only [Option.some.injEq, Prod.mk.injEq] at H
                                obtain ⟨rfl, rfl, rfl, rfl, rfl, rfl, rfl⟩ := H
                                have p294 : 0 ≤ (0 : Int) := (by omega)
                                have q294 : 0 < (l1.length : Int) := of_decide_eq_true (by first | (with_reducible assumption) | assumption)
                                obtain ⟨ad294, e294, hx294_0, hx294_1, hx294_2⟩ := at_T62 HR1.out 0 p294 q294
                                cases e294
                                have qi294 : (0 < l1.length) = True := eq_true (by omega)
                                (try rw [show ((0 : Int)).toNat = 0 from rfl] at hx294_0)
                                (try rw [show 0 * 3 = 0 from rfl] at hx294_0)
                                (try rw [Addr.add_zero'] at hx294_0)
                                (try rw [show ((0 : Int)).toNat = 0 from rfl] at hx294_1)
                                (try rw [show 0 * 3 = 0 from rfl] at hx294_1)
                                (try rw [Addr.add_zero'] at hx294_1)
                                (try rw [show ((0 : Int)).toNat = 0 from rfl] at hx294_2)
                                (try rw [show 0 * 3 = 0 from rfl] at hx294_2)
                                (try rw [Addr.add_zero'] at hx294_2)
                                replace hx294_0 := (HB.out.cell (World.block_lt_of_cell? w _ hx294_0)).trans hx294_0
                                replace hx294_1 := (HB.out.cell (World.block_lt_of_cell? w _ hx294_1)).trans hx294_1
                                replace hx294_2 := (HB.out.cell (World.block_lt_of_cell? w _ hx294_2)).trans hx294_2
                                replace p294 := eq_true p294
                                replace q294 := eq_true q294
                                have hnb54 := NB280_279.out
                                have hnc54 := NB279_280.out
                                have hcz55_0 : wc.cell? ⟨gb280, 0, none⟩ = some (.int .i64 a0) := (blk_cell BK280.out 0).trans rfl
                                have hcz55_1 : wc.cell? ⟨gb280, 1, none⟩ = some (.string (⟨#[]⟩ : ByteArray)) := (blk_cell BK280.out 1).trans rfl
                                have hcz55_2 : wc.cell? ⟨gb280, 2, none⟩ = some (.int .i64 0) := (blk_cell BK280.out 2).trans rfl
                                have hcz55_3 : wc.cell? ⟨gb280, 3, none⟩ = some (.int .i64 0) := (blk_cell BK280.out 3).trans rfl
                                have hcz55_4 : wc.cell? ⟨gb280, 4, none⟩ = some (.int .i64 0) := (blk_cell BK280.out 4).trans rfl
                                have hcz55_5 : wc.cell? ⟨gb280, 5, none⟩ = some (.int .i64 0) := (blk_cell BK280.out 5).trans rfl
                                have hcz55_6 : wc.cell? ⟨gb280, 6, none⟩ = some (.int .i64 0) := (blk_cell BK280.out 6).trans rfl
                                have hfz55_0 := blk_frozen BK280.out 0
                                have hfz55_1 := blk_frozen BK280.out 1
                                have hfz55_2 := blk_frozen BK280.out 2
                                have hfz55_3 := blk_frozen BK280.out 3
                                have hfz55_4 := blk_frozen BK280.out 4
                                have hfz55_5 := blk_frozen BK280.out 5
                                have hfz55_6 := blk_frozen BK280.out 6
                                have p295 : 0 ≤ (1 : Int) := (by omega)
                                have q295 : 1 < (l1.length : Int) := of_decide_eq_true (by first | (with_reducible assumption) | assumption)
                                obtain ⟨ad295, e295, hx295_0, hx295_1, hx295_2⟩ := at_T62 HR1.out 1 p295 q295
                                obtain rfl : ad294 = ad295 := (by injection e295)
                                (try simp only [show (1 : Int).toNat = 1 from rfl, Nat.reduceMul, Nat.reduceEqDiff, Go.Addr.add, ↓reduceIte] at hx295_0)
                                (try simp only [show (1 : Int).toNat = 1 from rfl, Nat.reduceMul, Nat.reduceEqDiff, Go.Addr.add, ↓reduceIte] at hx295_1)
                                (try simp only [show (1 : Int).toNat = 1 from rfl, Nat.reduceMul, Nat.reduceEqDiff, Go.Addr.add, ↓reduceIte] at hx295_2)
                                have qi295 : (1 < l1.length) = True := eq_true (by omega)
                                (try rw [show ((1 : Int)).toNat = 1 from rfl] at hx295_0)
                                (try rw [show 1 * 3 = 3 from rfl] at hx295_0)
                                (try rw [show ((1 : Int)).toNat = 1 from rfl] at hx295_1)
                                (try rw [show 1 * 3 = 3 from rfl] at hx295_1)
                                (try rw [show ((1 : Int)).toNat = 1 from rfl] at hx295_2)
                                (try rw [show 1 * 3 = 3 from rfl] at hx295_2)
                                have hn295_0 : ad294.block ≠ gb280 := Nat.ne_of_lt (Nat.lt_of_lt_of_le (by have := World.block_lt_of_cell? _ _ hx295_0; first | rwa [add_block] at this | exact this) GW280.out)
                                replace hx295_0 := (HB.out.cell (World.block_lt_of_cell? w _ hx295_0)).trans hx295_0
                                replace hx295_1 := (HB.out.cell (World.block_lt_of_cell? w _ hx295_1)).trans hx295_1
                                replace hx295_2 := (HB.out.cell (World.block_lt_of_cell? w _ hx295_2)).trans hx295_2
                                replace hx295_0 := (cell_far (p := ⟨gb280, 5, none⟩) (by first | (rw [add_block]; exact hn295_0) | (show (Addr.add _ _).block ≠ _; rw [add_block]; exact hn295_0) | exact hn295_0) (.int .i64 ((rd_T62 l1 0).f1))).trans hx295_0
                                replace hx295_1 := (cell_far (p := ⟨gb280, 5, none⟩) (by first | (rw [add_block]; exact hn295_0) | (show (Addr.add _ _).block ≠ _; rw [add_block]; exact hn295_0) | exact hn295_0) (.int .i64 ((rd_T62 l1 0).f1))).trans hx295_1
                                replace hx295_2 := (cell_far (p := ⟨gb280, 5, none⟩) (by first | (rw [add_block]; exact hn295_0) | (show (Addr.add _ _).block ≠ _; rw [add_block]; exact hn295_0) | exact hn295_0) (.int .i64 ((rd_T62 l1 0).f1))).trans hx295_2
                                clear hn295_0
                                replace p295 := eq_true p295
                                replace q295 := eq_true q295
                                have hcz56_0 : wc.cell? ⟨gb279, 0, none⟩ = some (.int .i64 0) := (blk_cell BK279.out 0).trans rfl
                                have hcz56_1 : wc.cell? ⟨gb279, 1, none⟩ = some (.string (⟨#[]⟩ : ByteArray)) := (blk_cell BK279.out 1).trans rfl
                                have hcz56_2 : wc.cell? ⟨gb279, 2, none⟩ = some (.int .i64 0) := (blk_cell BK279.out 2).trans rfl
                                have hcz56_3 : wc.cell? ⟨gb279, 3, none⟩ = some (.int .i64 0) := (blk_cell BK279.out 3).trans rfl
                                have hcz56_4 : wc.cell? ⟨gb279, 4, none⟩ = some (.int .i64 0) := (blk_cell BK279.out 4).trans rfl
                                have hcz56_5 : wc.cell? ⟨gb279, 5, none⟩ = some (.int .i64 0) := (blk_cell BK279.out 5).trans rfl
                                have hcz56_6 : wc.cell? ⟨gb279, 6, none⟩ = some (.int .i64 0) := (blk_cell BK279.out 6).trans rfl
                                have hfz56_0 := blk_frozen BK279.out 0
                                have hfz56_1 := blk_frozen BK279.out 1
                                have hfz56_2 := blk_frozen BK279.out 2
                                have hfz56_3 := blk_frozen BK279.out 3
                                have hfz56_4 := blk_frozen BK279.out 4
                                have hfz56_5 := blk_frozen BK279.out 5
                                have hfz56_6 := blk_frozen BK279.out 6
                                go_wp2
                                refine bodyPost_ret (results_cell_row rfl _ _ gb279 37 #[.int .i64 a0, .string (⟨#[]⟩ : ByteArray), .int .i64 0, .int .i64 0, .int .i64 0, .int .i64 ((rd_T62 l1 0).f1), .int .i64 ((rd_T62 l1 1).f1)] (0, 0) _ rfl (by (with_reducible repeat (first | refine blk_drewN ?_ _ | refine blk_drew ?_ | refine blk_alloc ?_ _)); refine blk_put (cs := #[.int .i64 a0, .string (⟨#[]⟩ : ByteArray), .int .i64 0, .int .i64 0, .int .i64 0, .int .i64 ((rd_T62 l1 0).f1), .int .i64 0]) ?_ 6 _ rfl; (with_reducible repeat (first | refine blk_drewN ?_ _ | refine blk_drew ?_ | refine blk_alloc ?_ _)); refine blk_put (cs := #[.int .i64 a0, .string (⟨#[]⟩ : ByteArray), .int .i64 0, .int .i64 0, .int .i64 0, .int .i64 0, .int .i64 0]) ?_ 5 _ rfl; (with_reducible repeat (first | refine blk_drewN ?_ _ | refine blk_drew ?_ | refine blk_alloc ?_ _)); refine blk_put (cs := #[.int .i64 a0, .string (⟨#[]⟩ : ByteArray), .int .i64 0, .int .i64 0, .int .i64 0, .int .i64 0, .int .i64 0]) ?_ 4 _ rfl; (with_reducible repeat (first | refine blk_drewN ?_ _ | refine blk_drew ?_ | refine blk_alloc ?_ _)); refine blk_put (cs := #[.int .i64 a0, .string (⟨#[]⟩ : ByteArray), .int .i64 0, .int .i64 0, .int .i64 0, .int .i64 0, .int .i64 0]) ?_ 3 _ rfl; (with_reducible repeat (first | refine blk_drewN ?_ _ | refine blk_drew ?_ | refine blk_alloc ?_ _)); refine blk_put (cs := #[.int .i64 a0, .string (⟨#[]⟩ : ByteArray), .int .i64 0, .int .i64 0, .int .i64 0, .int .i64 0, .int .i64 0]) ?_ 2 _ rfl; (with_reducible repeat (first | refine blk_drewN ?_ _ | refine blk_drew ?_ | refine blk_alloc ?_ _)); refine blk_put (cs := #[.int .i64 a0, .string (⟨#[]⟩ : ByteArray), .int .i64 0, .int .i64 0, .int .i64 0, .int .i64 0, .int .i64 0]) ?_ 1 _ rfl; (with_reducible repeat (first | refine blk_drewN ?_ _ | refine blk_drew ?_ | refine blk_alloc ?_ _)); refine blk_put (cs := #[.int .i64 0, .string (⟨#[]⟩ : ByteArray), .int .i64 0, .int .i64 0, .int .i64 0, .int .i64 0, .int .i64 0]) ?_ 0 _ rfl; (with_reducible repeat (first | refine blk_drewN ?_ _ | refine blk_drew ?_ | refine blk_alloc ?_ _)); refine blk_far ?_ NB279_280.out _; (with_reducible repeat (first | refine blk_drewN ?_ _ | refine blk_drew ?_ | refine blk_alloc ?_ _)); refine blk_far ?_ NB279_280.out _; (with_reducible repeat (first | refine blk_drewN ?_ _ | refine blk_drew ?_ | refine blk_alloc ?_ _)); exact BK279.out) Try.underlying37 rfl (by kernel_rfl)) rfl ?_
                                exact ⟨by first | rfl | (simp [errW_none, errW_some] <;> rfl) | (simp [*, errW_none, errW_some] <;> rfl), by repeat (first | (with_reducible first | exact HB.out | apply below_alloc | apply pw_below_drewN | apply below_drew1 | refine below_set ?_ GE279.out | refine below_set ?_ GE280.out) | exact HB.out)⟩
                              · rw [if_neg c53] at H
                                exact absurd H (by simp)
                            · rw [if_neg c52] at H
                              exact absurd H (by simp)
                          · rw [if_neg c51] at H
                            have c51b0 : (a0 == 10) = false := beq_eq_false_iff_ne.mpr c51
                            have c51b1 : (a0 != 10) = true := bne_iff_ne.mpr c51
                            by_cases c57 : a0 = 11
                            · rw [if_pos c57] at H
                              have c57b0 : (a0 == 11) = true := beq_iff_eq.mpr c57
                              have c57b1 : (a0 != 11) = false := bne_eq_false_iff_eq.mpr c57
                              clear c57
                              by_cases c58 : 0 < (l1.length : Int)
                              · rw [if_pos c58] at H
                                have c58b0 : decide (0 < (l1.length : Int)) = true := decide_eq_true c58
                                have c58b1 : decide (0 < l1.length) = true := decide_eq_true (by omega)
                                clear c58
                                by_cases c59 : 1 < (l1.length : Int)
                                · rw [if_pos c59] at H
                                  have c59b0 : decide (1 < (l1.length : Int)) = true := decide_eq_true c59
                                  have c59b1 : decide (1 < l1.length) = true := decide_eq_true (by omega)
                                  clear c59
                                  by_cases c60 : 2 < (l1.length : Int)
                                  · rw [if_pos c60] at H
                                    have c60b0 : decide (2 < (l1.length : Int)) = true := decide_eq_true c60
                                    have c60b1 : decide (2 < l1.length) = true := decide_eq_true (by omega)
                                    clear c60
                                    by_cases c61 : 3 < (l1.length : Int)
                                    · rw [if_pos c61] at H
                                      have c61b0 : decide (3 < (l1.length : Int)) = true := decide_eq_true c61
                                      have c61b1 : decide (3 < l1.length) = true := decide_eq_true (by omega)
                                      clear c61
                                      simp only [Option.some.injEq, Prod.mk.injEq] at H
                                      obtain ⟨rfl, rfl, rfl, rfl, rfl, rfl, rfl⟩ := H
                                      have p296 : 0 ≤ (0 : Int) := (by omega)
                                      have q296 : 0 < (l1.length : Int) := of_decide_eq_true (by first | (with_reducible assumption) | assumption)
                                      obtain ⟨ad296, e296, hx296_0, hx296_1, hx296_2⟩ := at_T62 HR1.out 0 p296 q296
                                      cases e296
                                      have qi296 : (0 < l1.length) = True := eq_true (by omega)
                                      (try rw [show ((0 : Int)).toNat = 0 from rfl] at hx296_0)
                                      (try rw [show 0 * 3 = 0 from rfl] at hx296_0)
                                      (try rw [Addr.add_zero'] at hx296_0)
                                      (try rw [show ((0 : Int)).toNat = 0 from rfl] at hx296_1)
                                      (try rw [show 0 * 3 = 0 from rfl] at hx296_1)
                                      (try rw [Addr.add_zero'] at hx296_1)
                                      (try rw [show ((0 : Int)).toNat = 0 from rfl] at hx296_2)
                                      (try rw [show 0 * 3 = 0 from rfl] at hx296_2)
                                      (try rw [Addr.add_zero'] at hx296_2)
                                      replace hx296_0 := (HB.out.cell (World.block_lt_of_cell? w _ hx296_0)).trans hx296_0
                                      replace hx296_1 := (HB.out.cell (World.block_lt_of_cell? w _ hx296_1)).trans hx296_1
                                      replace hx296_2 := (HB.out.cell (World.block_lt_of_cell? w _ hx296_2)).trans hx296_2
                                      replace p296 := eq_true p296
                                      replace q296 := eq_true q296
                                      have hnb62 := NB280_279.out
                                      have hnc62 := NB279_280.out
                                      have hcz63_0 : wc.cell? ⟨gb280, 0, none⟩ = some (.int .i64 a0) := (blk_cell BK280.out 0).trans rfl
                                      have hcz63_1 : wc.cell? ⟨gb280, 1, none⟩ = some (.string (⟨#[]⟩ : ByteArray)) := (blk_cell BK280.out 1).trans rfl
                                      have hcz63_2 : wc.cell? ⟨gb280, 2, none⟩ = some (.int .i64 0) := (blk_cell BK280.out 2).trans rfl
                                      have hcz63_3 : wc.cell? ⟨gb280, 3, none⟩ = some (.int .i64 0) := (blk_cell BK280.out 3).trans rfl
                                      have hcz63_4 : wc.cell? ⟨gb280, 4, none⟩ = some (.int .i64 0) := (blk_cell BK280.out 4).trans rfl
                                      have hcz63_5 : wc.cell? ⟨gb280, 5, none⟩ = some (.int .i64 0) := (blk_cell BK280.out 5).trans rfl
                                      have hcz63_6 : wc.cell? ⟨gb280, 6, none⟩ = some (.int .i64 0) := (blk_cell BK280.out 6).trans rfl
                                      have hfz63_0 := blk_frozen BK280.out 0
                                      have hfz63_1 := blk_frozen BK280.out 1
                                      have hfz63_2 := blk_frozen BK280.out 2
                                      have hfz63_3 := blk_frozen BK280.out 3
                                      have hfz63_4 := blk_frozen BK280.out 4
                                      have hfz63_5 := blk_frozen BK280.out 5
                                      have hfz63_6 := blk_frozen BK280.out 6
                                      have p297 : 0 ≤ (1 : Int) := (by omega)
                                      have q297 : 1 < (l1.length : Int) := of_decide_eq_true (by first | (with_reducible assumption) | assumption)
                                      obtain ⟨ad297, e297, hx297_0, hx297_1, hx297_2⟩ := at_T62 HR1.out 1 p297 q297
                                      obtain rfl : ad296 = ad297 := (by injection e297)
                                      (try simp only [show (1 : Int).toNat = 1 from rfl, Nat.reduceMul, Nat.reduceEqDiff, Go.Addr.add, ↓reduceIte] at hx297_0)
                                      (try simp only [show (1 : Int).toNat = 1 from rfl, Nat.reduceMul, Nat.reduceEqDiff, Go.Addr.add, ↓reduceIte] at hx297_1)
                                      (try simp only [show (1 : Int).toNat = 1 from rfl, Nat.reduceMul, Nat.reduceEqDiff, Go.Addr.add, ↓reduceIte] at hx297_2)
                                      have qi297 : (1 < l1.length) = True := eq_true (by omega)
                                      (try rw [show ((1 : Int)).toNat = 1 from rfl] at hx297_0)
                                      (try rw [show 1 * 3 = 3 from rfl] at hx297_0)
                                      (try rw [show ((1 : Int)).toNat = 1 from rfl] at hx297_1)
                                      (try rw [show 1 * 3 = 3 from rfl] at hx297_1)
                                      (try rw [show ((1 : Int)).toNat = 1 from rfl] at hx297_2)
                                      (try rw [show 1 * 3 = 3 from rfl] at hx297_2)
                                      have hn297_0 : ad296.block ≠ gb280 := Nat.ne_of_lt (Nat.lt_of_lt_of_le (by have := World.block_lt_of_cell? _ _ hx297_0; first | rwa [add_block] at this | exact this) GW280.out)
                                      replace hx297_0 := (HB.out.cell (World.block_lt_of_cell? w _ hx297_0)).trans hx297_0
                                      replace hx297_1 := (HB.out.cell (World.block_lt_of_cell? w _ hx297_1)).trans hx297_1
                                      replace hx297_2 := (HB.out.cell (World.block_lt_of_cell? w _ hx297_2)).trans hx297_2
                                      replace hx297_0 := (cell_far (p := ⟨gb280, 5, none⟩) (by first | (rw [add_block]; exact hn297_0) | (show (Addr.add _ _).block ≠ _; rw [add_block]; exact hn297_0) | exact hn297_0) (.int .i64 ((rd_T62 l1 0).f1))).trans hx297_0
                                      replace hx297_1 := (cell_far (p := ⟨gb280, 5, none⟩) (by first | (rw [add_block]; exact hn297_0) | (show (Addr.add _ _).block ≠ _; rw [add_block]; exact hn297_0) | exact hn297_0) (.int .i64 ((rd_T62 l1 0).f1))).trans hx297_1
                                      replace hx297_2 := (cell_far (p := ⟨gb280, 5, none⟩) (by first | (rw [add_block]; exact hn297_0) | (show (Addr.add _ _).block ≠ _; rw [add_block]; exact hn297_0) | exact hn297_0) (.int .i64 ((rd_T62 l1 0).f1))).trans hx297_2
                                      clear hn297_0
                                      replace p297 := eq_true p297
                                      replace q297 := eq_true q297
                                      have p298 : 0 ≤ (2 : Int) := (by omega)
                                      have q298 : 2 < (l1.length : Int) := of_decide_eq_true (by first | (with_reducible assumption) | assumption)
                                      obtain ⟨ad298, e298, hx298_0, hx298_1, hx298_2⟩ := at_T62 HR1.out 2 p298 q298
                                      obtain rfl : ad296 = ad298 := (by injection e298)
                                      (try simp only [show (2 : Int).toNat = 2 from rfl, Nat.reduceMul, Nat.reduceEqDiff, Go.Addr.add, ↓reduceIte] at hx298_0)
                                      (try simp only [show (2 : Int).toNat = 2 from rfl, Nat.reduceMul, Nat.reduceEqDiff, Go.Addr.add, ↓reduceIte] at hx298_1)
                                      (try simp only [show (2 : Int).toNat = 2 from rfl, Nat.reduceMul, Nat.reduceEqDiff, Go.Addr.add, ↓reduceIte] at hx298_2)
                                      have qi298 : (2 < l1.length) = True := eq_true (by omega)
                                      (try rw [show ((2 : Int)).toNat = 2 from rfl] at hx298_0)
                                      (try rw [show 2 * 3 = 6 from rfl] at hx298_0)
                                      (try rw [show ((2 : Int)).toNat = 2 from rfl] at hx298_1)
                                      (try rw [show 2 * 3 = 6 from rfl] at hx298_1)
                                      (try rw [show ((2 : Int)).toNat = 2 from rfl] at hx298_2)
                                      (try rw [show 2 * 3 = 6 from rfl] at hx298_2)
                                      have hn298_0 : ad296.block ≠ gb280 := Nat.ne_of_lt (Nat.lt_of_lt_of_le (by have := World.block_lt_of_cell? _ _ hx298_0; first | rwa [add_block] at this | exact this) GW280.out)
                                      have hn298_1 : ad296.block ≠ gb280 := Nat.ne_of_lt (Nat.lt_of_lt_of_le (by have := World.block_lt_of_cell? _ _ hx298_0; first | rwa [add_block] at this | exact this) GW280.out)
                                      replace hx298_0 := (HB.out.cell (World.block_lt_of_cell? w _ hx298_0)).trans hx298_0
                                      replace hx298_1 := (HB.out.cell (World.block_lt_of_cell? w _ hx298_1)).trans hx298_1
                                      replace hx298_2 := (HB.out.cell (World.block_lt_of_cell? w _ hx298_2)).trans hx298_2
                                      replace hx298_0 := (cell_far (p := ⟨gb280, 5, none⟩) (by first | (rw [add_block]; exact hn298_0) | (show (Addr.add _ _).block ≠ _; rw [add_block]; exact hn298_0) | exact hn298_0) (.int .i64 ((rd_T62 l1 0).f1))).trans hx298_0
                                      replace hx298_1 := (cell_far (p := ⟨gb280, 5, none⟩) (by first | (rw [add_block]; exact hn298_0) | (show (Addr.add _ _).block ≠ _; rw [add_block]; exact hn298_0) | exact hn298_0) (.int .i64 ((rd_T62 l1 0).f1))).trans hx298_1
                                      replace hx298_2 := (cell_far (p := ⟨gb280, 5, none⟩) (by first | (rw [add_block]; exact hn298_0) | (show (Addr.add _ _).block ≠ _; rw [add_block]; exact hn298_0) | exact hn298_0) (.int .i64 ((rd_T62 l1 0).f1))).trans hx298_2
                                      replace hx298_0 := (cell_far (p := ⟨gb280, 6, none⟩) (by first | (rw [add_block]; exact hn298_1) | (show (Addr.add _ _).block ≠ _; rw [add_block]; exact hn298_1) | exact hn298_1) (.int .i64 ((rd_T62 l1 1).f1))).trans hx298_0
                                      replace hx298_1 := (cell_far (p := ⟨gb280, 6, none⟩) (by first | (rw [add_block]; exact hn298_1) | (show (Addr.add _ _).block ≠ _; rw [add_block]; exact hn298_1) | exact hn298_1) (.int .i64 ((rd_T62 l1 1).f1))).trans hx298_1
                                      replace hx298_2 := (cell_far (p := ⟨gb280, 6, none⟩) (by first | (rw [add_block]; exact hn298_1) | (show (Addr.add _ _).block ≠ _; rw [add_block]; exact hn298_1) | exact hn298_1) (.int .i64 ((rd_T62 l1 1).f1))).trans hx298_2
                                      clear hn298_0
                                      clear hn298_1
                                      replace p298 := eq_true p298
                                      replace q298 := eq_true q298
                                      have p299 : 0 ≤ (3 : Int) := (by omega)
                                      have q299 : 3 < (l1.length : Int) := of_decide_eq_true (by first | (with_reducible assumption) | assumption)
                                      obtain ⟨ad299, e299, hx299_0, hx299_1, hx299_2⟩ := at_T62 HR1.out 3 p299 q299
                                      obtain rfl : ad296 = ad299 := (by injection e299)
                                      (try simp only [show (3 : Int).toNat = 3 from rfl, Nat.reduceMul, Nat.reduceEqDiff, Go.Addr.add, ↓reduceIte] at hx299_0)
                                      (try simp only [show (3 : Int).toNat = 3 from rfl, Nat.reduceMul, Nat.reduceEqDiff, Go.Addr.add, ↓reduceIte] at hx299_1)
                                      (try simp only [show (3 : Int).toNat = 3 from rfl, Nat.reduceMul, Nat.reduceEqDiff, Go.Addr.add, ↓reduceIte] at hx299_2)
                                      have qi299 : (3 < l1.length) = True := eq_true (by omega)
                                      (try rw [show ((3 : Int)).toNat = 3 from rfl] at hx299_0)
                                      (try rw [show 3 * 3 = 9 from rfl] at hx299_0)
                                      (try rw [show ((3 : Int)).toNat = 3 from rfl] at hx299_1)
                                      (try rw [show 3 * 3 = 9 from rfl] at hx299_1)
                                      (try rw [show ((3 : Int)).toNat = 3 from rfl] at hx299_2)
                                      (try rw [show 3 * 3 = 9 from rfl] at hx299_2)
                                      have hn299_0 : ad296.block ≠ gb280 := Nat.ne_of_lt (Nat.lt_of_lt_of_le (by have := World.block_lt_of_cell? _ _ hx299_0; first | rwa [add_block] at this | exact this) GW280.out)
                                      have hn299_1 : ad296.block ≠ gb280 := Nat.ne_of_lt (Nat.lt_of_lt_of_le (by have := World.block_lt_of_cell? _ _ hx299_0; first | rwa [add_block] at this | exact this) GW280.out)
                                      have hn299_2 : ad296.block ≠ gb280 := Nat.ne_of_lt (Nat.lt_of_lt_of_le (by have := World.block_lt_of_cell? _ _ hx299_0; first | rwa [add_block] at this | exact this) GW280.out)
                                      replace hx299_0 := (HB.out.cell (World.block_lt_of_cell? w _ hx299_0)).trans hx299_0
                                      replace hx299_1 := (HB.out.cell (World.block_lt_of_cell? w _ hx299_1)).trans hx299_1
                                      replace hx299_2 := (HB.out.cell (World.block_lt_of_cell? w _ hx299_2)).trans hx299_2
                                      replace hx299_0 := (cell_far (p := ⟨gb280, 5, none⟩) (by first | (rw [add_block]; exact hn299_0) | (show (Addr.add _ _).block ≠ _; rw [add_block]; exact hn299_0) | exact hn299_0) (.int .i64 ((rd_T62 l1 0).f1))).trans hx299_0
                                      replace hx299_1 := (cell_far (p := ⟨gb280, 5, none⟩) (by first | (rw [add_block]; exact hn299_0) | (show (Addr.add _ _).block ≠ _; rw [add_block]; exact hn299_0) | exact hn299_0) (.int .i64 ((rd_T62 l1 0).f1))).trans hx299_1
                                      replace hx299_2 := (cell_far (p := ⟨gb280, 5, none⟩) (by first | (rw [add_block]; exact hn299_0) | (show (Addr.add _ _).block ≠ _; rw [add_block]; exact hn299_0) | exact hn299_0) (.int .i64 ((rd_T62 l1 0).f1))).trans hx299_2
                                      replace hx299_0 := (cell_far (p := ⟨gb280, 6, none⟩) (by first | (rw [add_block]; exact hn299_1) | (show (Addr.add _ _).block ≠ _; rw [add_block]; exact hn299_1) | exact hn299_1) (.int .i64 ((rd_T62 l1 1).f1))).trans hx299_0
                                      replace hx299_1 := (cell_far (p := ⟨gb280, 6, none⟩) (by first | (rw [add_block]; exact hn299_1) | (show (Addr.add _ _).block ≠ _; rw [add_block]; exact hn299_1) | exact hn299_1) (.int .i64 ((rd_T62 l1 1).f1))).trans hx299_1
                                      replace hx299_2 := (cell_far (p := ⟨gb280, 6, none⟩) (by first | (rw [add_block]; exact hn299_1) | (show (Addr.add _ _).block ≠ _; rw [add_block]; exact hn299_1) | exact hn299_1) (.int .i64 ((rd_T62 l1 1).f1))).trans hx299_2
                                      replace hx299_0 := (cell_far (p := ⟨gb280, 1, none⟩) (by first | (rw [add_block]; exact hn299_2) | (show (Addr.add _ _).block ≠ _; rw [add_block]; exact hn299_2) | exact hn299_2) (.string ((rd_T62 l1 2).f2))).trans hx299_0
                                      replace hx299_1 := (cell_far (p := ⟨gb280, 1, none⟩) (by first | (rw [add_block]; exact hn299_2) | (show (Addr.add _ _).block ≠ _; rw [add_block]; exact hn299_2) | exact hn299_2) (.string ((rd_T62 l1 2).f2))).trans hx299_1
                                      replace hx299_2 := (cell_far (p := ⟨gb280, 1, none⟩) (by first | (rw [add_block]; exact hn299_2) | (show (Addr.add _ _).block ≠ _; rw [add_block]; exact hn299_2) | exact hn299_2) (.string ((rd_T62 l1 2).f2))).trans hx299_2
                                      clear hn299_0
                                      clear hn299_1
                                      clear hn299_2
                                      replace p299 := eq_true p299
                                      replace q299 := eq_true q299
                                      have hcz64_0 : wc.cell? ⟨gb279, 0, none⟩ = some (.int .i64 0) := (blk_cell BK279.out 0).trans rfl
                                      have hcz64_1 : wc.cell? ⟨gb279, 1, none⟩ = some (.string (⟨#[]⟩ : ByteArray)) := (blk_cell BK279.out 1).trans rfl
                                      have hcz64_2 : wc.cell? ⟨gb279, 2, none⟩ = some (.int .i64 0) := (blk_cell BK279.out 2).trans rfl
                                      have hcz64_3 : wc.cell? ⟨gb279, 3, none⟩ = some (.int .i64 0) := (blk_cell BK279.out 3).trans rfl
                                      have hcz64_4 : wc.cell? ⟨gb279, 4, none⟩ = some (.int .i64 0) := (blk_cell BK279.out 4).trans rfl
                                      have hcz64_5 : wc.cell? ⟨gb279, 5, none⟩ = some (.int .i64 0) := (blk_cell BK279.out 5).trans rfl
                                      have hcz64_6 : wc.cell? ⟨gb279, 6, none⟩ = some (.int .i64 0) := (blk_cell BK279.out 6).trans rfl
                                      have hfz64_0 := blk_frozen BK279.out 0
                                      have hfz64_1 := blk_frozen BK279.out 1
                                      have hfz64_2 := blk_frozen BK279.out 2
                                      have hfz64_3 := blk_frozen BK279.out 3
                                      have hfz64_4 := blk_frozen BK279.out 4
                                      have hfz64_5 := blk_frozen BK279.out 5
                                      have hfz64_6 := blk_frozen BK279.out 6
                                      go_wp2
                                      refine bodyPost_ret (results_cell_row rfl _ _ gb279 37 #[.int .i64 a0, .string ((rd_T62 l1 2).f2), .int .i64 0, .int .i64 ((rd_T62 l1 3).f1), .int .i64 0, .int .i64 ((rd_T62 l1 0).f1), .int .i64 ((rd_T62 l1 1).f1)] (0, 0) _ rfl (by (with_reducible repeat (first | refine blk_drewN ?_ _ | refine blk_drew ?_ | refine blk_alloc ?_ _)); refine blk_put (cs := #[.int .i64 a0, .string ((rd_T62 l1 2).f2), .int .i64 0, .int .i64 ((rd_T62 l1 3).f1), .int .i64 0, .int .i64 ((rd_T62 l1 0).f1), .int .i64 0]) ?_ 6 _ rfl; (with_reducible repeat (first | refine blk_drewN ?_ _ | refine blk_drew ?_ | refine blk_alloc ?_ _)); refine blk_put (cs := #[.int .i64 a0, .string ((rd_T62 l1 2).f2), .int .i64 0, .int .i64 ((rd_T62 l1 3).f1), .int .i64 0, .int .i64 0, .int .i64 0]) ?_ 5 _ rfl; (with_reducible repeat (first | refine blk_drewN ?_ _ | refine blk_drew ?_ | refine blk_alloc ?_ _)); refine blk_put (cs := #[.int .i64 a0, .string ((rd_T62 l1 2).f2), .int .i64 0, .int .i64 ((rd_T62 l1 3).f1), .int .i64 0, .int .i64 0, .int .i64 0]) ?_ 4 _ rfl; (with_reducible repeat (first | refine blk_drewN ?_ _ | refine blk_drew ?_ | refine blk_alloc ?_ _)); refine blk_put (cs := #[.int .i64 a0, .string ((rd_T62 l1 2).f2), .int .i64 0, .int .i64 0, .int .i64 0, .int .i64 0, .int .i64 0]) ?_ 3 _ rfl; (with_reducible repeat (first | refine blk_drewN ?_ _ | refine blk_drew ?_ | refine blk_alloc ?_ _)); refine blk_put (cs := #[.int .i64 a0, .string ((rd_T62 l1 2).f2), .int .i64 0, .int .i64 0, .int .i64 0, .int .i64 0, .int .i64 0]) ?_ 2 _ rfl; (with_reducible repeat (first | refine blk_drewN ?_ _ | refine blk_drew ?_ | refine blk_alloc ?_ _)); refine blk_put (cs := #[.int .i64 a0, .string (⟨#[]⟩ : ByteArray), .int .i64 0, .int .i64 0, .int .i64 0, .int .i64 0, .int .i64 0]) ?_ 1 _ rfl; (with_reducible repeat (first | refine blk_drewN ?_ _ | refine blk_drew ?_ | refine blk_alloc ?_ _)); refine blk_put (cs := #[.int .i64 0, .string (⟨#[]⟩ : ByteArray), .int .i64 0, .int .i64 0, .int .i64 0, .int .i64 0, .int .i64 0]) ?_ 0 _ rfl; (with_reducible repeat (first | refine blk_drewN ?_ _ | refine blk_drew ?_ | refine blk_alloc ?_ _)); refine blk_far ?_ NB279_280.out _; (with_reducible repeat (first | refine blk_drewN ?_ _ | refine blk_drew ?_ | refine blk_alloc ?_ _)); refine blk_far ?_ NB279_280.out _; (with_reducible repeat (first | refine blk_drewN ?_ _ | refine blk_drew ?_ | refine blk_alloc ?_ _)); refine blk_far ?_ NB279_280.out _; (with_reducible repeat (first | refine blk_drewN ?_ _ | refine blk_drew ?_ | refine blk_alloc ?_ _)); refine blk_far ?_ NB279_280.out _; (with_reducible repeat (first | refine blk_drewN ?_ _ | refine blk_drew ?_ | refine blk_alloc ?_ _)); exact BK279.out) Try.underlying37 rfl (by kernel_rfl)) rfl ?_
                                      exact ⟨by first | rfl | (simp [errW_none, errW_some] <;> rfl) | (simp [*, errW_none, errW_some] <;> rfl), by repeat (first | (with_reducible first | exact HB.out | apply below_alloc | apply pw_below_drewN | apply below_drew1 | refine below_set ?_ GE279.out | refine below_set ?_ GE280.out) | exact HB.out)⟩
                                    · rw [if_neg c61] at H
                                      exact absurd H (by simp)
                                  · rw [if_neg c60] at H
                                    exact absurd H (by simp)
                                · rw [if_neg c59] at H
                                  exact absurd H (by simp)
                              · rw [if_neg c58] at H
                                exact absurd H (by simp)
                            · rw [if_neg c57] at H
                              have c57b0 : (a0 == 11) = false := beq_eq_false_iff_ne.mpr c57
                              have c57b1 : (a0 != 11) = true := bne_iff_ne.mpr c57
                              simp only [Option.some.injEq, Prod.mk.injEq] at H
                              obtain ⟨rfl, rfl, rfl, rfl, rfl, rfl, rfl⟩ := H
                              have hnb65 := NB280_279.out
                              have hnc65 := NB279_280.out
                              have hcz66_0 : wc.cell? ⟨gb280, 0, none⟩ = some (.int .i64 a0) := (blk_cell BK280.out 0).trans rfl
                              have hcz66_1 : wc.cell? ⟨gb280, 1, none⟩ = some (.string (⟨#[]⟩ : ByteArray)) := (blk_cell BK280.out 1).trans rfl
                              have hcz66_2 : wc.cell? ⟨gb280, 2, none⟩ = some (.int .i64 0) := (blk_cell BK280.out 2).trans rfl
                              have hcz66_3 : wc.cell? ⟨gb280, 3, none⟩ = some (.int .i64 0) := (blk_cell BK280.out 3).trans rfl
                              have hcz66_4 : wc.cell? ⟨gb280, 4, none⟩ = some (.int .i64 0) := (blk_cell BK280.out 4).trans rfl
                              have hcz66_5 : wc.cell? ⟨gb280, 5, none⟩ = some (.int .i64 0) := (blk_cell BK280.out 5).trans rfl
                              have hcz66_6 : wc.cell? ⟨gb280, 6, none⟩ = some (.int .i64 0) := (blk_cell BK280.out 6).trans rfl
                              have hfz66_0 := blk_frozen BK280.out 0
                              have hfz66_1 := blk_frozen BK280.out 1
                              have hfz66_2 := blk_frozen BK280.out 2
                              have hfz66_3 := blk_frozen BK280.out 3
                              have hfz66_4 := blk_frozen BK280.out 4
                              have hfz66_5 := blk_frozen BK280.out 5
                              have hfz66_6 := blk_frozen BK280.out 6
                              have hcz67_0 : wc.cell? ⟨gb279, 0, none⟩ = some (.int .i64 0) := (blk_cell BK279.out 0).trans rfl
                              have hcz67_1 : wc.cell? ⟨gb279, 1, none⟩ = some (.string (⟨#[]⟩ : ByteArray)) := (blk_cell BK279.out 1).trans rfl
                              have hcz67_2 : wc.cell? ⟨gb279, 2, none⟩ = some (.int .i64 0) := (blk_cell BK279.out 2).trans rfl
                              have hcz67_3 : wc.cell? ⟨gb279, 3, none⟩ = some (.int .i64 0) := (blk_cell BK279.out 3).trans rfl
                              have hcz67_4 : wc.cell? ⟨gb279, 4, none⟩ = some (.int .i64 0) := (blk_cell BK279.out 4).trans rfl
                              have hcz67_5 : wc.cell? ⟨gb279, 5, none⟩ = some (.int .i64 0) := (blk_cell BK279.out 5).trans rfl
                              have hcz67_6 : wc.cell? ⟨gb279, 6, none⟩ = some (.int .i64 0) := (blk_cell BK279.out 6).trans rfl
                              have hfz67_0 := blk_frozen BK279.out 0
                              have hfz67_1 := blk_frozen BK279.out 1
                              have hfz67_2 := blk_frozen BK279.out 2
                              have hfz67_3 := blk_frozen BK279.out 3
                              have hfz67_4 := blk_frozen BK279.out 4
                              have hfz67_5 := blk_frozen BK279.out 5
                              have hfz67_6 := blk_frozen BK279.out 6
                              go_wp2
                              refine bodyPost_ret (results_cell_row rfl _ _ gb279 37 #[.int .i64 a0, .string (⟨#[]⟩ : ByteArray), .int .i64 0, .int .i64 0, .int .i64 0, .int .i64 0, .int .i64 0] (0, 0) _ rfl (by (with_reducible repeat (first | refine blk_drewN ?_ _ | refine blk_drew ?_ | refine blk_alloc ?_ _)); refine blk_put (cs := #[.int .i64 a0, .string (⟨#[]⟩ : ByteArray), .int .i64 0, .int .i64 0, .int .i64 0, .int .i64 0, .int .i64 0]) ?_ 6 _ rfl; (with_reducible repeat (first | refine blk_drewN ?_ _ | refine blk_drew ?_ | refine blk_alloc ?_ _)); refine blk_put (cs := #[.int .i64 a0, .string (⟨#[]⟩ : ByteArray), .int .i64 0, .int .i64 0, .int .i64 0, .int .i64 0, .int .i64 0]) ?_ 5 _ rfl; (with_reducible repeat (first | refine blk_drewN ?_ _ | refine blk_drew ?_ | refine blk_alloc ?_ _)); refine blk_put (cs := #[.int .i64 a0, .string (⟨#[]⟩ : ByteArray), .int .i64 0, .int .i64 0, .int .i64 0, .int .i64 0, .int .i64 0]) ?_ 4 _ rfl; (with_reducible repeat (first | refine blk_drewN ?_ _ | refine blk_drew ?_ | refine blk_alloc ?_ _)); refine blk_put (cs := #[.int .i64 a0, .string (⟨#[]⟩ : ByteArray), .int .i64 0, .int .i64 0, .int .i64 0, .int .i64 0, .int .i64 0]) ?_ 3 _ rfl; (with_reducible repeat (first | refine blk_drewN ?_ _ | refine blk_drew ?_ | refine blk_alloc ?_ _)); refine blk_put (cs := #[.int .i64 a0, .string (⟨#[]⟩ : ByteArray), .int .i64 0, .int .i64 0, .int .i64 0, .int .i64 0, .int .i64 0]) ?_ 2 _ rfl; (with_reducible repeat (first | refine blk_drewN ?_ _ | refine blk_drew ?_ | refine blk_alloc ?_ _)); refine blk_put (cs := #[.int .i64 a0, .string (⟨#[]⟩ : ByteArray), .int .i64 0, .int .i64 0, .int .i64 0, .int .i64 0, .int .i64 0]) ?_ 1 _ rfl; (with_reducible repeat (first | refine blk_drewN ?_ _ | refine blk_drew ?_ | refine blk_alloc ?_ _)); refine blk_put (cs := #[.int .i64 0, .string (⟨#[]⟩ : ByteArray), .int .i64 0, .int .i64 0, .int .i64 0, .int .i64 0, .int .i64 0]) ?_ 0 _ rfl; (with_reducible repeat (first | refine blk_drewN ?_ _ | refine blk_drew ?_ | refine blk_alloc ?_ _)); exact BK279.out) Try.underlying37 rfl (by kernel_rfl)) rfl ?_
                              exact ⟨by first | rfl | (simp [errW_none, errW_some] <;> rfl) | (simp [*, errW_none, errW_some] <;> rfl), by repeat (first | (with_reducible first | exact HB.out | apply below_alloc | apply pw_below_drewN | apply below_drew1 | refine below_set ?_ GE279.out | refine below_set ?_ GE280.out) | exact HB.out)⟩

end Go.Proofs.Ytklnnmgfoebbhaa.PWireAsks
