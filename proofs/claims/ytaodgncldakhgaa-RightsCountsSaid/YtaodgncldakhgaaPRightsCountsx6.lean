-- Written by wip/xprint of this repo (our own program) out of the translation; what is marked BY HAND is ours. Not trusted: Lean checks it.
import Derived.Test.YtaodgncldakhgaaPRightsCountsx0
import Derived.Test.YtaodgncldakhgaaPRightsCountsx1
import Derived.Test.YtaodgncldakhgaaPRightsCountsx3
import Derived.Test.YtaodgncldakhgaaPRightsCountsx4
import Derived.Test.YtaodgncldakhgaaPRightsCountsx5
namespace Go.Proofs.Ytaodgncldakhgaa.PRightsCounts
open Go.RowKit Go.Proofs.YtaodgncldakhgaaW.PrintWords Go.Proofs.YtaodgncldakhgaaW.PrintLast Go.Proofs.YtaodgncldakhgaaW.PrintMore
attribute [local go_sem] max2_int min2_int max_two min_two max_three min_three max_four min_four   -- for this text's walks alone
set_option linter.unusedVariables false
set_option linter.unusedSimpArgs false

attribute [local go_sem high] eqA23
/-! ### lienlaw20_RightsCounts: function 7 -/
mutual
def lienlaw20_RightsCounts.j0 : Nat → Int → Bool → Int → Int → Int → Option (Bool)
  | 0, _, _, _, _, _ => none
  | k + 1, x1, x46, x202000, x202001, x202002 => if x46 = true then (some false) else ((rights_Spend.f x202000 x202001 x202002 x1).bind fun bt217 => ((rights_Debit.f x202000 x202001 x202002 x1).bind fun bt221 => ((lienref20_Less.f x202000 x202001 x202002 x1).bind fun bt225 => (if (!(bt217.1 == bt225.1) || (!(bt217.2.1 == bt225.2.1) || (!(bt217.2.2.1 == bt225.2.2.1)))) = true then (lienlaw20_RightsCounts.j1 k x1 true x202000 x202001 x202002) else (if (!(bt221.1 == bt225.1) || (!(bt221.2.1 == bt225.2.1) || (!(bt221.2.2.1 == bt225.2.2.1)))) = true then (lienlaw20_RightsCounts.j1 k x1 true x202000 x202001 x202002) else (if bt217.2.2.2 = bt225.2.2.2 then (lienlaw20_RightsCounts.j1 k x1 (bt221.2.2.2 != bt225.2.2.2) x202000 x202001 x202002) else (lienlaw20_RightsCounts.j1 k x1 true x202000 x202001 x202002)))))))
def lienlaw20_RightsCounts.j1 : Nat → Int → Bool → Int → Int → Int → Option (Bool)
  | 0, _, _, _, _, _ => none
  | k + 1, x1, x82, x202000, x202001, x202002 => if x82 = true then (some false) else ((rights_Quota.f x202000 x202001 x202002 x1).bind fun bt229 => ((lienref20_Quota.f x202000 x202001 x202002 x1).bind fun bt233 => (if (bt229.1 == bt233.1 && (bt229.2.1 == bt233.2.1 && (bt229.2.2.1 == bt233.2.2.1))) = true then (if bt229.2.2.2 = bt233.2.2.2 then ((lienlaw20_awake.f k).bind fun t237 => (some t237)) else (some false)) else (some false))))
end
def lienlaw20_RightsCounts.f (k : Nat) (a0_0 : Int) (a0_1 : Int) (a0_2 : Int) (a1 : Int) : Option (Bool) := (rights_Grant.f a0_0 a0_1 a0_2 a1).bind fun bt202 => ((rights_Credit.f a0_0 a0_1 a0_2 a1).bind fun bt207 => ((lienref20_More.f a0_0 a0_1 a0_2 a1).bind fun bt212 => (if (!(bt202.1 == bt212.1) || (!(bt202.2.1 == bt212.2.1) || (!(bt202.2.2.1 == bt212.2.2.1)))) = true then (lienlaw20_RightsCounts.j0 k a1 true a0_0 a0_1 a0_2) else (if (!(bt207.1 == bt212.1) || (!(bt207.2.1 == bt212.2.1) || (!(bt207.2.2.1 == bt212.2.2.1)))) = true then (lienlaw20_RightsCounts.j0 k a1 true a0_0 a0_1 a0_2) else (if bt202.2.2.2 = bt212.2.2.2 then (lienlaw20_RightsCounts.j0 k a1 (bt207.2.2.2 != bt212.2.2.2) a0_0 a0_1 a0_2) else (lienlaw20_RightsCounts.j0 k a1 true a0_0 a0_1 a0_2))))))
theorem lienlaw20_RightsCounts.mono_l : ∀ k, (∀ y0 y1 y2 y3 y4, LeO (lienlaw20_RightsCounts.j0 k y0 y1 y2 y3 y4) (lienlaw20_RightsCounts.j0 (k + 1) y0 y1 y2 y3 y4)) ∧ (∀ y0 y1 y2 y3 y4, LeO (lienlaw20_RightsCounts.j1 k y0 y1 y2 y3 y4) (lienlaw20_RightsCounts.j1 (k + 1) y0 y1 y2 y3 y4))
  | 0 => ⟨fun _ _ _ _ _ r h => by simp [lienlaw20_RightsCounts.j0] at h, fun _ _ _ _ _ r h => by simp [lienlaw20_RightsCounts.j1] at h⟩
  | k + 1 => by
    obtain ⟨ih0, ih1⟩ := lienlaw20_RightsCounts.mono_l k
    refine ⟨?_, ?_⟩
    · intro y0 y1 y2 y3 y4
      unfold lienlaw20_RightsCounts.j0
      repeat' first
      | (with_reducible exact ih0 _ _ _ _ _)
      | (with_reducible exact ih1 _ _ _ _ _)
      | (with_reducible exact lienlaw20_awake.mono _)
      | (with_reducible exact LeO.refl _)
      | (with_reducible exact LeO.none _)
      | (with_reducible refine LeO.ite ?_ ?_)
      | (with_reducible refine LeO.bind ?_ (fun _ => ?_))
      | exact ih0 _ _ _ _ _
      | exact ih1 _ _ _ _ _
      | exact lienlaw20_awake.mono _
      | exact LeO.none _
      | refine LeO.ite ?_ ?_
      | refine LeO.bind ?_ (fun _ => ?_)
    · intro y0 y1 y2 y3 y4
      unfold lienlaw20_RightsCounts.j1
      repeat' first
      | (with_reducible exact ih0 _ _ _ _ _)
      | (with_reducible exact ih1 _ _ _ _ _)
      | (with_reducible exact lienlaw20_awake.mono _)
      | (with_reducible exact LeO.refl _)
      | (with_reducible exact LeO.none _)
      | (with_reducible refine LeO.ite ?_ ?_)
      | (with_reducible refine LeO.bind ?_ (fun _ => ?_))
      | exact ih0 _ _ _ _ _
      | exact ih1 _ _ _ _ _
      | exact lienlaw20_awake.mono _
      | exact LeO.none _
      | refine LeO.ite ?_ ?_
      | refine LeO.bind ?_ (fun _ => ?_)
theorem lienlaw20_RightsCounts.mono : ∀ a0 a1 a2 a3 k, LeO (lienlaw20_RightsCounts.f k a0 a1 a2 a3) (lienlaw20_RightsCounts.f (k + 1) a0 a1 a2 a3) := by
  intro a0 a1 a2 a3 k
  obtain ⟨ih0, ih1⟩ := lienlaw20_RightsCounts.mono_l k
  unfold lienlaw20_RightsCounts.f
  repeat' first
      | (with_reducible exact ih0 _ _ _ _ _)
      | (with_reducible exact ih1 _ _ _ _ _)
      | (with_reducible exact lienlaw20_awake.mono _)
      | (with_reducible exact LeO.refl _)
      | (with_reducible exact LeO.none _)
      | (with_reducible refine LeO.ite ?_ ?_)
      | (with_reducible refine LeO.bind ?_ (fun _ => ?_))
      | exact ih0 _ _ _ _ _
      | exact ih1 _ _ _ _ _
      | exact lienlaw20_awake.mono _
      | exact LeO.none _
      | refine LeO.ite ?_ ?_
      | refine LeO.bind ?_ (fun _ => ?_)
set_option maxHeartbeats 8000000 in
set_option maxRecDepth 100000 in
theorem lienlaw20_RightsCounts.calls (k : Nat) (a0_0 : Int) (a0_1 : Int) (a0_2 : Int) (a1 : Int) (r : Bool) (w : World) (h : lienlaw20_RightsCounts.f k a0_0 a0_1 a0_2 a1 = some r) (hr_ : Aside0 (r = true)) :
    Calls Try.prog 7 #[.agg #[.int .i64 a0_0, .int .i64 a0_1, .int .i64 a0_2], .int .i64 a1] w fun e w' => e = .returned (.bool r) ∧ Below w.heap.size w w' := by
  have hu23 := Try.underlying23
  have HB := Aside0.mk (Below.refl w.heap.size w)
  have H : ((rights_Grant.f a0_0 a0_1 a0_2 a1).bind fun bt202 => ((rights_Credit.f a0_0 a0_1 a0_2 a1).bind fun bt207 => ((lienref20_More.f a0_0 a0_1 a0_2 a1).bind fun bt212 => (if (!(bt202.1 == bt212.1) || (!(bt202.2.1 == bt212.2.1) || (!(bt202.2.2.1 == bt212.2.2.1)))) = true then (lienlaw20_RightsCounts.j0 k a1 true a0_0 a0_1 a0_2) else (if (!(bt207.1 == bt212.1) || (!(bt207.2.1 == bt212.2.1) || (!(bt207.2.2.1 == bt212.2.2.1)))) = true then (lienlaw20_RightsCounts.j0 k a1 true a0_0 a0_1 a0_2) else (if bt202.2.2.2 = bt212.2.2.2 then (lienlaw20_RightsCounts.j0 k a1 (bt207.2.2.2 != bt212.2.2.2) a0_0 a0_1 a0_2) else (lienlaw20_RightsCounts.j0 k a1 true a0_0 a0_1 a0_2))))))) = some r := h
  clear h
  replace H := Option.bind_eq_some_iff.mp H
  obtain ⟨⟨t202, t203, t204, t205⟩, A30, H⟩ := H
  replace H : ((rights_Credit.f a0_0 a0_1 a0_2 a1).bind fun bt207 => ((lienref20_More.f a0_0 a0_1 a0_2 a1).bind fun bt212 => (if (!(t202 == bt212.1) || (!(t203 == bt212.2.1) || (!(t204 == bt212.2.2.1)))) = true then (lienlaw20_RightsCounts.j0 k a1 true a0_0 a0_1 a0_2) else (if (!(bt207.1 == bt212.1) || (!(bt207.2.1 == bt212.2.1) || (!(bt207.2.2.1 == bt212.2.2.1)))) = true then (lienlaw20_RightsCounts.j0 k a1 true a0_0 a0_1 a0_2) else (if t205 = bt212.2.2.2 then (lienlaw20_RightsCounts.j0 k a1 (bt207.2.2.2 != bt212.2.2.2) a0_0 a0_1 a0_2) else (lienlaw20_RightsCounts.j0 k a1 true a0_0 a0_1 a0_2)))))) = some r := H
  have A3 := Aside0.mk A30
  clear A30
  replace H := Option.bind_eq_some_iff.mp H
  obtain ⟨⟨t207, t208, t209, t210⟩, A40, H⟩ := H
  replace H : ((lienref20_More.f a0_0 a0_1 a0_2 a1).bind fun bt212 => (if (!(t202 == bt212.1) || (!(t203 == bt212.2.1) || (!(t204 == bt212.2.2.1)))) = true then (lienlaw20_RightsCounts.j0 k a1 true a0_0 a0_1 a0_2) else (if (!(t207 == bt212.1) || (!(t208 == bt212.2.1) || (!(t209 == bt212.2.2.1)))) = true then (lienlaw20_RightsCounts.j0 k a1 true a0_0 a0_1 a0_2) else (if t205 = bt212.2.2.2 then (lienlaw20_RightsCounts.j0 k a1 (t210 != bt212.2.2.2) a0_0 a0_1 a0_2) else (lienlaw20_RightsCounts.j0 k a1 true a0_0 a0_1 a0_2))))) = some r := H
  have A4 := Aside0.mk A40
  clear A40
  replace H := Option.bind_eq_some_iff.mp H
  obtain ⟨⟨t212, t213, t214, t215⟩, A50, H⟩ := H
  replace H : (if (!(t202 == t212) || (!(t203 == t213) || (!(t204 == t214)))) = true then (lienlaw20_RightsCounts.j0 k a1 true a0_0 a0_1 a0_2) else (if (!(t207 == t212) || (!(t208 == t213) || (!(t209 == t214)))) = true then (lienlaw20_RightsCounts.j0 k a1 true a0_0 a0_1 a0_2) else (if t205 = t215 then (lienlaw20_RightsCounts.j0 k a1 (t210 != t215) a0_0 a0_1 a0_2) else (lienlaw20_RightsCounts.j0 k a1 true a0_0 a0_1 a0_2)))) = some r := H
  have A5 := Aside0.mk A50
  clear A50
  have HC6 := Aside0.mk H
  clear H
  go_enter Try.func7, Try.ntmps7
  go_upto_region 4 with (first | ((with_reducible refine gate_dst (N := 2) rfl ?_); refine box_event ?hg (N := 2) ?hd (cs := #[.int .i64 a0_0, .int .i64 a0_1, .int .i64 a0_2]) (t := 23) ?hr ?_; (case hd => rfl); (case hg => rfl); (case hr => first | (go_simp; done) | (go_simp; rfl)); intro gb201 hg w7 hbox hb; have n0_ := Aside0.mk (below_step (by repeat (first | (with_reducible first | exact HB.out | apply below_alloc | apply pw_below_drewN | apply below_drew1) | exact HB.out)) hb); have n1_ := Aside0.mk (hbox); have n2_ := Aside0.mk ((by rw [hg]; exact (below_size (by repeat (first | (with_reducible first | exact HB.out | apply below_alloc | apply pw_below_drewN | apply below_drew1) | exact HB.out))) : w.heap.size ≤ gb201)); have n3_ := Aside0.mk ((by rw [hg]; exact (below_size (by repeat (first | (with_reducible first | exact HB.out | apply below_alloc | apply pw_below_drewN | apply below_drew1) | exact HB.out))) : w.heap.size ≤ gb201)); clear HB; have HB := n0_; have BK201 := n1_; have GW201 := n2_; have GE201 := n3_; clear n0_ n1_ n2_ n3_; clear hb hbox hg; have hcz8_0 : w7.cell? ⟨gb201, 0, none⟩ = some (.int .i64 a0_0) := (blk_cell BK201.out 0).trans rfl; have hcz8_1 : w7.cell? ⟨gb201, 1, none⟩ = some (.int .i64 a0_1) := (blk_cell BK201.out 1).trans rfl; have hcz8_2 : w7.cell? ⟨gb201, 2, none⟩ = some (.int .i64 a0_2) := (blk_cell BK201.out 2).trans rfl; have hfz8_0 := blk_frozen BK201.out 0; have hfz8_1 := blk_frozen BK201.out 1; have hfz8_2 := blk_frozen BK201.out 2) | ((with_reducible refine gate_callee (f := 26) rfl ?_); refine goesL_ (some 14) rfl rfl Try.func26 (by kernel_rfl) rfl #[.agg #[.int .i64 a0_0, .int .i64 a0_1, .int .i64 a0_2], .int .i64 a1] rfl (by (try simp only [List.map_toArray, List.map_cons, List.map_nil]); first | done | rfl | (simp only [List.length_drop, List.length_take]; rfl)) ?_; (with_reducible refine (rights_Grant.calls a0_0 a0_1 a0_2 a1 t202 t203 t204 t205 _ A3.out).mono ?_); rintro e w9 ⟨rfl, hb⟩; refine ⟨_, rfl, ?_⟩; have n0_ := Aside0.mk (blk_below (g := gb201) (o := .cells #[.int .i64 a0_0, .int .i64 a0_1, .int .i64 a0_2] 23 (0, 0)) (by (with_reducible repeat (first | refine blk_drewN ?_ _ | refine blk_drew ?_ | refine blk_alloc ?_ _)); exact BK201.out) hb); have n1_ := Aside0.mk (below_step (by repeat (first | (with_reducible first | exact HB.out | apply below_alloc | apply pw_below_drewN | apply below_drew1 | refine below_set ?_ GE201.out) | exact HB.out)) hb); clear BK201; clear HB; have BK201 := n0_; have HB := n1_; clear n0_ n1_; (try clear hb); (try clear hb2); (try clear hk); (try clear hi)) | ((with_reducible refine gate_dst (N := 5) rfl ?_); refine box_event ?hg (N := 5) ?hd (cs := #[.int .i64 0, .int .i64 0, .int .i64 0]) (t := 23) ?hr ?_; (case hd => rfl); (case hg => rfl); (case hr => first | (go_simp; done) | (go_simp; rfl)); intro gb206 hg w10 hbox hb; have n0_ := Aside0.mk (blk_below (g := gb201) (o := .cells #[.int .i64 a0_0, .int .i64 a0_1, .int .i64 a0_2] 23 (0, 0)) (by (with_reducible repeat (first | refine blk_drewN ?_ _ | refine blk_drew ?_ | refine blk_alloc ?_ _)); exact BK201.out) hb); have n1_ := Aside0.mk (below_step (by repeat (first | (with_reducible first | exact HB.out | apply below_alloc | apply pw_below_drewN | apply below_drew1 | refine below_set ?_ GE201.out) | exact HB.out)) hb); have n2_ := Aside0.mk (hbox); have n3_ := Aside0.mk ((by rw [hg]; exact (below_size (by repeat (first | (with_reducible first | exact HB.out | apply below_alloc | apply pw_below_drewN | apply below_drew1 | refine below_set ?_ GE201.out) | exact HB.out))) : w.heap.size ≤ gb206)); have n4_ := Aside0.mk ((by rw [hg]; exact (below_size (by repeat (first | (with_reducible first | exact HB.out | apply below_alloc | apply pw_below_drewN | apply below_drew1 | refine below_set ?_ GE201.out) | exact HB.out))) : w.heap.size ≤ gb206)); have n5_ := Aside0.mk ((by rw [hg]; exact Nat.ne_of_lt (blk_lt (g := gb201) (o := .cells #[.int .i64 a0_0, .int .i64 a0_1, .int .i64 a0_2] 23 (0, 0)) (by (with_reducible repeat (first | refine blk_drewN ?_ _ | refine blk_drew ?_ | refine blk_alloc ?_ _)); exact BK201.out)) : gb201 ≠ gb206)); have n6_ := Aside0.mk ((by rw [hg]; exact Nat.ne_of_gt (blk_lt (g := gb201) (o := .cells #[.int .i64 a0_0, .int .i64 a0_1, .int .i64 a0_2] 23 (0, 0)) (by (with_reducible repeat (first | refine blk_drewN ?_ _ | refine blk_drew ?_ | refine blk_alloc ?_ _)); exact BK201.out)) : gb206 ≠ gb201)); clear BK201; clear HB; have BK201 := n0_; have HB := n1_; have BK206 := n2_; have GW206 := n3_; have GE206 := n4_; have NB201_206 := n5_; have NB206_201 := n6_; clear n0_ n1_ n2_ n3_ n4_ n5_ n6_; clear hb hbox hg; have hnb11 := NB206_201.out; have hnc11 := NB201_206.out; have hcz12_0 : w10.cell? ⟨gb206, 0, none⟩ = some (.int .i64 0) := (blk_cell BK206.out 0).trans rfl; have hcz12_1 : w10.cell? ⟨gb206, 1, none⟩ = some (.int .i64 0) := (blk_cell BK206.out 1).trans rfl; have hcz12_2 : w10.cell? ⟨gb206, 2, none⟩ = some (.int .i64 0) := (blk_cell BK206.out 2).trans rfl; have hfz12_0 := blk_frozen BK206.out 0; have hfz12_1 := blk_frozen BK206.out 1; have hfz12_2 := blk_frozen BK206.out 2; have hcz13_0 : w10.cell? ⟨gb201, 0, none⟩ = some (.int .i64 a0_0) := (blk_cell BK201.out 0).trans rfl; have hcz13_1 : w10.cell? ⟨gb201, 1, none⟩ = some (.int .i64 a0_1) := (blk_cell BK201.out 1).trans rfl; have hcz13_2 : w10.cell? ⟨gb201, 2, none⟩ = some (.int .i64 a0_2) := (blk_cell BK201.out 2).trans rfl; have hfz13_0 := blk_frozen BK201.out 0; have hfz13_1 := blk_frozen BK201.out 1; have hfz13_2 := blk_frozen BK201.out 2) | ((with_reducible refine gate_callee (f := 27) rfl ?_); refine goesL_ (some 20) rfl rfl Try.func27 (by kernel_rfl) rfl #[.agg #[.int .i64 a0_0, .int .i64 a0_1, .int .i64 a0_2], .int .i64 a1] rfl (by (try simp only [List.map_toArray, List.map_cons, List.map_nil]); first | done | rfl | (simp only [List.length_drop, List.length_take]; rfl)) ?_; (with_reducible refine (rights_Credit.calls a0_0 a0_1 a0_2 a1 t207 t208 t209 t210 _ A4.out).mono ?_); rintro e w14 ⟨rfl, hb⟩; refine ⟨_, rfl, ?_⟩; have n0_ := Aside0.mk (blk_below (g := gb201) (o := .cells #[.int .i64 a0_0, .int .i64 a0_1, .int .i64 a0_2] 23 (0, 0)) (by (with_reducible repeat (first | refine blk_drewN ?_ _ | refine blk_drew ?_ | refine blk_alloc ?_ _)); refine blk_far ?_ NB201_206.out _; (with_reducible repeat (first | refine blk_drewN ?_ _ | refine blk_drew ?_ | refine blk_alloc ?_ _)); refine blk_far ?_ NB201_206.out _; (with_reducible repeat (first | refine blk_drewN ?_ _ | refine blk_drew ?_ | refine blk_alloc ?_ _)); refine blk_far ?_ NB201_206.out _; (with_reducible repeat (first | refine blk_drewN ?_ _ | refine blk_drew ?_ | refine blk_alloc ?_ _)); exact BK201.out) hb); have n1_ := Aside0.mk (blk_below (g := gb206) (o := .cells #[.int .i64 t202, .int .i64 t203, .int .i64 t204] 23 (0, 0)) (by (with_reducible repeat (first | refine blk_drewN ?_ _ | refine blk_drew ?_ | refine blk_alloc ?_ _)); refine blk_put (cs := #[.int .i64 t202, .int .i64 t203, .int .i64 0]) ?_ 2 _ rfl; (with_reducible repeat (first | refine blk_drewN ?_ _ | refine blk_drew ?_ | refine blk_alloc ?_ _)); refine blk_put (cs := #[.int .i64 t202, .int .i64 0, .int .i64 0]) ?_ 1 _ rfl; (with_reducible repeat (first | refine blk_drewN ?_ _ | refine blk_drew ?_ | refine blk_alloc ?_ _)); refine blk_put (cs := #[.int .i64 0, .int .i64 0, .int .i64 0]) ?_ 0 _ rfl; (with_reducible repeat (first | refine blk_drewN ?_ _ | refine blk_drew ?_ | refine blk_alloc ?_ _)); exact BK206.out) hb); have n2_ := Aside0.mk (below_step (by repeat (first | (with_reducible first | exact HB.out | apply below_alloc | apply pw_below_drewN | apply below_drew1 | refine below_set ?_ GE201.out | refine below_set ?_ GE206.out) | exact HB.out)) hb); clear BK201; clear BK206; clear HB; have BK201 := n0_; have BK206 := n1_; have HB := n2_; clear n0_ n1_ n2_; (try clear hb); (try clear hb2); (try clear hk); (try clear hi)) | ((with_reducible refine gate_dst (N := 7) rfl ?_); refine box_event ?hg (N := 7) ?hd (cs := #[.int .i64 0, .int .i64 0, .int .i64 0]) (t := 23) ?hr ?_; (case hd => rfl); (case hg => rfl); (case hr => first | (go_simp; done) | (go_simp; rfl)); intro gb211 hg w15 hbox hb; have n0_ := Aside0.mk (blk_below (g := gb201) (o := .cells #[.int .i64 a0_0, .int .i64 a0_1, .int .i64 a0_2] 23 (0, 0)) (by (with_reducible repeat (first | refine blk_drewN ?_ _ | refine blk_drew ?_ | refine blk_alloc ?_ _)); exact BK201.out) hb); have n1_ := Aside0.mk (blk_below (g := gb206) (o := .cells #[.int .i64 t202, .int .i64 t203, .int .i64 t204] 23 (0, 0)) (by (with_reducible repeat (first | refine blk_drewN ?_ _ | refine blk_drew ?_ | refine blk_alloc ?_ _)); exact BK206.out) hb); have n2_ := Aside0.mk (below_step (by repeat (first | (with_reducible first | exact HB.out | apply below_alloc | apply pw_below_drewN | apply below_drew1 | refine below_set ?_ GE201.out | refine below_set ?_ GE206.out) | exact HB.out)) hb); have n3_ := Aside0.mk (hbox); have n4_ := Aside0.mk ((by rw [hg]; exact (below_size (by repeat (first | (with_reducible first | exact HB.out | apply below_alloc | apply pw_below_drewN | apply below_drew1 | refine below_set ?_ GE201.out | refine below_set ?_ GE206.out) | exact HB.out))) : w.heap.size ≤ gb211)); have n5_ := Aside0.mk ((by rw [hg]; exact (below_size (by repeat (first | (with_reducible first | exact HB.out | apply below_alloc | apply pw_below_drewN | apply below_drew1 | refine below_set ?_ GE201.out | refine below_set ?_ GE206.out) | exact HB.out))) : w.heap.size ≤ gb211)); have n6_ := Aside0.mk ((by rw [hg]; exact Nat.ne_of_lt (blk_lt (g := gb201) (o := .cells #[.int .i64 a0_0, .int .i64 a0_1, .int .i64 a0_2] 23 (0, 0)) (by (with_reducible repeat (first | refine blk_drewN ?_ _ | refine blk_drew ?_ | refine blk_alloc ?_ _)); exact BK201.out)) : gb201 ≠ gb211)); have n7_ := Aside0.mk ((by rw [hg]; exact Nat.ne_of_gt (blk_lt (g := gb201) (o := .cells #[.int .i64 a0_0, .int .i64 a0_1, .int .i64 a0_2] 23 (0, 0)) (by (with_reducible repeat (first | refine blk_drewN ?_ _ | refine blk_drew ?_ | refine blk_alloc ?_ _)); exact BK201.out)) : gb211 ≠ gb201)); have n8_ := Aside0.mk ((by rw [hg]; exact Nat.ne_of_lt (blk_lt (g := gb206) (o := .cells #[.int .i64 t202, .int .i64 t203, .int .i64 t204] 23 (0, 0)) (by (with_reducible repeat (first | refine blk_drewN ?_ _ | refine blk_drew ?_ | refine blk_alloc ?_ _)); exact BK206.out)) : gb206 ≠ gb211)); have n9_ := Aside0.mk ((by rw [hg]; exact Nat.ne_of_gt (blk_lt (g := gb206) (o := .cells #[.int .i64 t202, .int .i64 t203, .int .i64 t204] 23 (0, 0)) (by (with_reducible repeat (first | refine blk_drewN ?_ _ | refine blk_drew ?_ | refine blk_alloc ?_ _)); exact BK206.out)) : gb211 ≠ gb206)); clear BK201; clear BK206; clear HB; have BK201 := n0_; have BK206 := n1_; have HB := n2_; have BK211 := n3_; have GW211 := n4_; have GE211 := n5_; have NB201_211 := n6_; have NB211_201 := n7_; have NB206_211 := n8_; have NB211_206 := n9_; clear n0_ n1_ n2_ n3_ n4_ n5_ n6_ n7_ n8_ n9_; clear hb hbox hg; have hnb16 := NB211_201.out; have hnc16 := NB201_211.out; have hnb17 := NB211_206.out; have hnc17 := NB206_211.out; have hcz18_0 : w15.cell? ⟨gb211, 0, none⟩ = some (.int .i64 0) := (blk_cell BK211.out 0).trans rfl; have hcz18_1 : w15.cell? ⟨gb211, 1, none⟩ = some (.int .i64 0) := (blk_cell BK211.out 1).trans rfl; have hcz18_2 : w15.cell? ⟨gb211, 2, none⟩ = some (.int .i64 0) := (blk_cell BK211.out 2).trans rfl; have hfz18_0 := blk_frozen BK211.out 0; have hfz18_1 := blk_frozen BK211.out 1; have hfz18_2 := blk_frozen BK211.out 2; have hcz19_0 : w15.cell? ⟨gb201, 0, none⟩ = some (.int .i64 a0_0) := (blk_cell BK201.out 0).trans rfl; have hcz19_1 : w15.cell? ⟨gb201, 1, none⟩ = some (.int .i64 a0_1) := (blk_cell BK201.out 1).trans rfl; have hcz19_2 : w15.cell? ⟨gb201, 2, none⟩ = some (.int .i64 a0_2) := (blk_cell BK201.out 2).trans rfl; have hfz19_0 := blk_frozen BK201.out 0; have hfz19_1 := blk_frozen BK201.out 1; have hfz19_2 := blk_frozen BK201.out 2) | ((with_reducible refine gate_callee (f := 28) rfl ?_); refine goesL_ (some 26) rfl rfl Try.func28 (by kernel_rfl) rfl #[.agg #[.int .i64 a0_0, .int .i64 a0_1, .int .i64 a0_2], .int .i64 a1] rfl (by (try simp only [List.map_toArray, List.map_cons, List.map_nil]); first | done | rfl | (simp only [List.length_drop, List.length_take]; rfl)) ?_; (with_reducible refine (lienref20_More.calls a0_0 a0_1 a0_2 a1 t212 t213 t214 t215 _ A5.out).mono ?_); rintro e w20 ⟨rfl, hb⟩; refine ⟨_, rfl, ?_⟩; have n0_ := Aside0.mk (blk_below (g := gb201) (o := .cells #[.int .i64 a0_0, .int .i64 a0_1, .int .i64 a0_2] 23 (0, 0)) (by (with_reducible repeat (first | refine blk_drewN ?_ _ | refine blk_drew ?_ | refine blk_alloc ?_ _)); refine blk_far ?_ NB201_211.out _; (with_reducible repeat (first | refine blk_drewN ?_ _ | refine blk_drew ?_ | refine blk_alloc ?_ _)); refine blk_far ?_ NB201_211.out _; (with_reducible repeat (first | refine blk_drewN ?_ _ | refine blk_drew ?_ | refine blk_alloc ?_ _)); refine blk_far ?_ NB201_211.out _; (with_reducible repeat (first | refine blk_drewN ?_ _ | refine blk_drew ?_ | refine blk_alloc ?_ _)); exact BK201.out) hb); have n1_ := Aside0.mk (blk_below (g := gb206) (o := .cells #[.int .i64 t202, .int .i64 t203, .int .i64 t204] 23 (0, 0)) (by (with_reducible repeat (first | refine blk_drewN ?_ _ | refine blk_drew ?_ | refine blk_alloc ?_ _)); refine blk_far ?_ NB206_211.out _; (with_reducible repeat (first | refine blk_drewN ?_ _ | refine blk_drew ?_ | refine blk_alloc ?_ _)); refine blk_far ?_ NB206_211.out _; (with_reducible repeat (first | refine blk_drewN ?_ _ | refine blk_drew ?_ | refine blk_alloc ?_ _)); refine blk_far ?_ NB206_211.out _; (with_reducible repeat (first | refine blk_drewN ?_ _ | refine blk_drew ?_ | refine blk_alloc ?_ _)); exact BK206.out) hb); have n2_ := Aside0.mk (blk_below (g := gb211) (o := .cells #[.int .i64 t207, .int .i64 t208, .int .i64 t209] 23 (0, 0)) (by (with_reducible repeat (first | refine blk_drewN ?_ _ | refine blk_drew ?_ | refine blk_alloc ?_ _)); refine blk_put (cs := #[.int .i64 t207, .int .i64 t208, .int .i64 0]) ?_ 2 _ rfl; (with_reducible repeat (first | refine blk_drewN ?_ _ | refine blk_drew ?_ | refine blk_alloc ?_ _)); refine blk_put (cs := #[.int .i64 t207, .int .i64 0, .int .i64 0]) ?_ 1 _ rfl; (with_reducible repeat (first | refine blk_drewN ?_ _ | refine blk_drew ?_ | refine blk_alloc ?_ _)); refine blk_put (cs := #[.int .i64 0, .int .i64 0, .int .i64 0]) ?_ 0 _ rfl; (with_reducible repeat (first | refine blk_drewN ?_ _ | refine blk_drew ?_ | refine blk_alloc ?_ _)); exact BK211.out) hb); have n3_ := Aside0.mk (below_step (by repeat (first | (with_reducible first | exact HB.out | apply below_alloc | apply pw_below_drewN | apply below_drew1 | refine below_set ?_ GE201.out | refine below_set ?_ GE206.out | refine below_set ?_ GE211.out) | exact HB.out)) hb); clear BK201; clear BK206; clear BK211; clear HB; have BK201 := n0_; have BK206 := n1_; have BK211 := n2_; have HB := n3_; clear n0_ n1_ n2_ n3_; (try clear hb); (try clear hb2); (try clear hk); (try clear hi)) | ((with_reducible refine gate_dst (N := 9) rfl ?_); refine box_event ?hg (N := 9) ?hd (cs := #[.int .i64 0, .int .i64 0, .int .i64 0]) (t := 23) ?hr ?_; (case hd => rfl); (case hg => rfl); (case hr => first | (go_simp; done) | (go_simp; rfl)); intro gb216 hg w21 hbox hb; have n0_ := Aside0.mk (blk_below (g := gb201) (o := .cells #[.int .i64 a0_0, .int .i64 a0_1, .int .i64 a0_2] 23 (0, 0)) (by (with_reducible repeat (first | refine blk_drewN ?_ _ | refine blk_drew ?_ | refine blk_alloc ?_ _)); exact BK201.out) hb); have n1_ := Aside0.mk (blk_below (g := gb206) (o := .cells #[.int .i64 t202, .int .i64 t203, .int .i64 t204] 23 (0, 0)) (by (with_reducible repeat (first | refine blk_drewN ?_ _ | refine blk_drew ?_ | refine blk_alloc ?_ _)); exact BK206.out) hb); have n2_ := Aside0.mk (blk_below (g := gb211) (o := .cells #[.int .i64 t207, .int .i64 t208, .int .i64 t209] 23 (0, 0)) (by (with_reducible repeat (first | refine blk_drewN ?_ _ | refine blk_drew ?_ | refine blk_alloc ?_ _)); exact BK211.out) hb); have n3_ := Aside0.mk (below_step (by repeat (first | (with_reducible first | exact HB.out | apply below_alloc | apply pw_below_drewN | apply below_drew1 | refine below_set ?_ GE201.out | refine below_set ?_ GE206.out | refine below_set ?_ GE211.out) | exact HB.out)) hb); have n4_ := Aside0.mk (hbox); have n5_ := Aside0.mk ((by rw [hg]; exact (below_size (by repeat (first | (with_reducible first | exact HB.out | apply below_alloc | apply pw_below_drewN | apply below_drew1 | refine below_set ?_ GE201.out | refine below_set ?_ GE206.out | refine below_set ?_ GE211.out) | exact HB.out))) : w.heap.size ≤ gb216)); have n6_ := Aside0.mk ((by rw [hg]; exact (below_size (by repeat (first | (with_reducible first | exact HB.out | apply below_alloc | apply pw_below_drewN | apply below_drew1 | refine below_set ?_ GE201.out | refine below_set ?_ GE206.out | refine below_set ?_ GE211.out) | exact HB.out))) : w.heap.size ≤ gb216)); have n7_ := Aside0.mk ((by rw [hg]; exact Nat.ne_of_lt (blk_lt (g := gb201) (o := .cells #[.int .i64 a0_0, .int .i64 a0_1, .int .i64 a0_2] 23 (0, 0)) (by (with_reducible repeat (first | refine blk_drewN ?_ _ | refine blk_drew ?_ | refine blk_alloc ?_ _)); exact BK201.out)) : gb201 ≠ gb216)); have n8_ := Aside0.mk ((by rw [hg]; exact Nat.ne_of_gt (blk_lt (g := gb201) (o := .cells #[.int .i64 a0_0, .int .i64 a0_1, .int .i64 a0_2] 23 (0, 0)) (by (with_reducible repeat (first | refine blk_drewN ?_ _ | refine blk_drew ?_ | refine blk_alloc ?_ _)); exact BK201.out)) : gb216 ≠ gb201)); have n9_ := Aside0.mk ((by rw [hg]; exact Nat.ne_of_lt (blk_lt (g := gb206) (o := .cells #[.int .i64 t202, .int .i64 t203, .int .i64 t204] 23 (0, 0)) (by (with_reducible repeat (first | refine blk_drewN ?_ _ | refine blk_drew ?_ | refine blk_alloc ?_ _)); exact BK206.out)) : gb206 ≠ gb216)); have n10_ := Aside0.mk ((by rw [hg]; exact Nat.ne_of_gt (blk_lt (g := gb206) (o := .cells #[.int .i64 t202, .int .i64 t203, .int .i64 t204] 23 (0, 0)) (by (with_reducible repeat (first | refine blk_drewN ?_ _ | refine blk_drew ?_ | refine blk_alloc ?_ _)); exact BK206.out)) : gb216 ≠ gb206)); have n11_ := Aside0.mk ((by rw [hg]; exact Nat.ne_of_lt (blk_lt (g := gb211) (o := .cells #[.int .i64 t207, .int .i64 t208, .int .i64 t209] 23 (0, 0)) (by (with_reducible repeat (first | refine blk_drewN ?_ _ | refine blk_drew ?_ | refine blk_alloc ?_ _)); exact BK211.out)) : gb211 ≠ gb216)); have n12_ := Aside0.mk ((by rw [hg]; exact Nat.ne_of_gt (blk_lt (g := gb211) (o := .cells #[.int .i64 t207, .int .i64 t208, .int .i64 t209] 23 (0, 0)) (by (with_reducible repeat (first | refine blk_drewN ?_ _ | refine blk_drew ?_ | refine blk_alloc ?_ _)); exact BK211.out)) : gb216 ≠ gb211)); clear BK201; clear BK206; clear BK211; clear HB; have BK201 := n0_; have BK206 := n1_; have BK211 := n2_; have HB := n3_; have BK216 := n4_; have GW216 := n5_; have GE216 := n6_; have NB201_216 := n7_; have NB216_201 := n8_; have NB206_216 := n9_; have NB216_206 := n10_; have NB211_216 := n11_; have NB216_211 := n12_; clear n0_ n1_ n2_ n3_ n4_ n5_ n6_ n7_ n8_ n9_ n10_ n11_ n12_; clear hb hbox hg; have hnb22 := NB216_201.out; have hnc22 := NB201_216.out; have hnb23 := NB216_206.out; have hnc23 := NB206_216.out; have hnb24 := NB216_211.out; have hnc24 := NB211_216.out; have hcz25_0 : w21.cell? ⟨gb216, 0, none⟩ = some (.int .i64 0) := (blk_cell BK216.out 0).trans rfl; have hcz25_1 : w21.cell? ⟨gb216, 1, none⟩ = some (.int .i64 0) := (blk_cell BK216.out 1).trans rfl; have hcz25_2 : w21.cell? ⟨gb216, 2, none⟩ = some (.int .i64 0) := (blk_cell BK216.out 2).trans rfl; have hfz25_0 := blk_frozen BK216.out 0; have hfz25_1 := blk_frozen BK216.out 1; have hfz25_2 := blk_frozen BK216.out 2))
  (try simp only [Act.put, List.setIfInBounds_toArray, List.set_cons_zero, List.set_cons_succ])
  go_cut [46] (fun v46 wc => ∃ (kq : Nat) (x46_5 : Bool), v46 = .bool x46_5 ∧ Aside0 (lienlaw20_RightsCounts.j0 kq a1 x46_5 a0_0 a0_1 a0_2 = some r) ∧ Aside0 (kq ≤ k) ∧ Aside0 (wc.heap[gb201]? = some (.cells #[.int .i64 a0_0, .int .i64 a0_1, .int .i64 a0_2] 23 (0, 0))) ∧ Aside0 (wc.heap[gb206]? = some (.cells #[.int .i64 t202, .int .i64 t203, .int .i64 t204] 23 (0, 0))) ∧ Aside0 (wc.heap[gb211]? = some (.cells #[.int .i64 t207, .int .i64 t208, .int .i64 t209] 23 (0, 0))) ∧ Aside0 (wc.heap[gb216]? = some (.cells #[.int .i64 t212, .int .i64 t213, .int .i64 t214] 23 (0, 0))) ∧ Aside0 (Below w.heap.size w wc))
  case first =>
    have H := HC6.out
    clear HC6
    by_cases c26 : (!(t202 == t212) || (!(t203 == t213) || (!(t204 == t214)))) = true
    · rw [if_pos c26] at H
      have c26b0 : (!(t202 == t212) || (!(t203 == t213) || (!(t204 == t214)))) = true := c26
      clear c26
      (first | rw [c26b0] | (simp only [i64_w, i32_w]; rw [c26b0]) | skip)
      have H' := Aside0.mk H
      clear H
      have hnb27 := NB206_201.out
      have hnc27 := NB201_206.out
      have hnb28 := NB206_211.out
      have hnc28 := NB211_206.out
      have hnb29 := NB206_216.out
      have hnc29 := NB216_206.out
      have hcz30_0 : w21.cell? ⟨gb206, 0, none⟩ = some (.int .i64 t202) := (blk_cell BK206.out 0).trans rfl
      have hcz30_1 : w21.cell? ⟨gb206, 1, none⟩ = some (.int .i64 t203) := (blk_cell BK206.out 1).trans rfl
      have hcz30_2 : w21.cell? ⟨gb206, 2, none⟩ = some (.int .i64 t204) := (blk_cell BK206.out 2).trans rfl
      have hfz30_0 := blk_frozen BK206.out 0
      have hfz30_1 := blk_frozen BK206.out 1
      have hfz30_2 := blk_frozen BK206.out 2
      have hnb31 := NB216_201.out
      have hnc31 := NB201_216.out
      have hnb32 := NB216_211.out
      have hnc32 := NB211_216.out
      have hcz33_0 : w21.cell? ⟨gb216, 0, none⟩ = some (.int .i64 0) := (blk_cell BK216.out 0).trans rfl
      have hcz33_1 : w21.cell? ⟨gb216, 1, none⟩ = some (.int .i64 0) := (blk_cell BK216.out 1).trans rfl
      have hcz33_2 : w21.cell? ⟨gb216, 2, none⟩ = some (.int .i64 0) := (blk_cell BK216.out 2).trans rfl
      have hfz33_0 := blk_frozen BK216.out 0
      have hfz33_1 := blk_frozen BK216.out 1
      have hfz33_2 := blk_frozen BK216.out 2
      go_wp2
      go_meet
      case rel => exact ⟨_, (true), (by first | rfl | (simp; done) | (simp [*]; done)), H', ⟨by first | omega | exact Nat.le_refl _⟩, ⟨by (with_reducible repeat (first | refine blk_drewN ?_ _ | refine blk_drew ?_ | refine blk_alloc ?_ _)); refine blk_far ?_ NB201_216.out _; (with_reducible repeat (first | refine blk_drewN ?_ _ | refine blk_drew ?_ | refine blk_alloc ?_ _)); refine blk_far ?_ NB201_216.out _; (with_reducible repeat (first | refine blk_drewN ?_ _ | refine blk_drew ?_ | refine blk_alloc ?_ _)); refine blk_far ?_ NB201_216.out _; (with_reducible repeat (first | refine blk_drewN ?_ _ | refine blk_drew ?_ | refine blk_alloc ?_ _)); exact BK201.out⟩, ⟨by (with_reducible repeat (first | refine blk_drewN ?_ _ | refine blk_drew ?_ | refine blk_alloc ?_ _)); refine blk_far ?_ NB206_216.out _; (with_reducible repeat (first | refine blk_drewN ?_ _ | refine blk_drew ?_ | refine blk_alloc ?_ _)); refine blk_far ?_ NB206_216.out _; (with_reducible repeat (first | refine blk_drewN ?_ _ | refine blk_drew ?_ | refine blk_alloc ?_ _)); refine blk_far ?_ NB206_216.out _; (with_reducible repeat (first | refine blk_drewN ?_ _ | refine blk_drew ?_ | refine blk_alloc ?_ _)); exact BK206.out⟩, ⟨by (with_reducible repeat (first | refine blk_drewN ?_ _ | refine blk_drew ?_ | refine blk_alloc ?_ _)); refine blk_far ?_ NB211_216.out _; (with_reducible repeat (first | refine blk_drewN ?_ _ | refine blk_drew ?_ | refine blk_alloc ?_ _)); refine blk_far ?_ NB211_216.out _; (with_reducible repeat (first | refine blk_drewN ?_ _ | refine blk_drew ?_ | refine blk_alloc ?_ _)); refine blk_far ?_ NB211_216.out _; (with_reducible repeat (first | refine blk_drewN ?_ _ | refine blk_drew ?_ | refine blk_alloc ?_ _)); exact BK211.out⟩, ⟨by (with_reducible repeat (first | refine blk_drewN ?_ _ | refine blk_drew ?_ | refine blk_alloc ?_ _)); refine blk_put (cs := #[.int .i64 t212, .int .i64 t213, .int .i64 0]) ?_ 2 _ rfl; (with_reducible repeat (first | refine blk_drewN ?_ _ | refine blk_drew ?_ | refine blk_alloc ?_ _)); refine blk_put (cs := #[.int .i64 t212, .int .i64 0, .int .i64 0]) ?_ 1 _ rfl; (with_reducible repeat (first | refine blk_drewN ?_ _ | refine blk_drew ?_ | refine blk_alloc ?_ _)); refine blk_put (cs := #[.int .i64 0, .int .i64 0, .int .i64 0]) ?_ 0 _ rfl; (with_reducible repeat (first | refine blk_drewN ?_ _ | refine blk_drew ?_ | refine blk_alloc ?_ _)); exact BK216.out⟩, ⟨by repeat (first | (with_reducible first | exact HB.out | apply below_alloc | apply pw_below_drewN | apply below_drew1 | refine below_set ?_ GE201.out | refine below_set ?_ GE206.out | refine below_set ?_ GE211.out | refine below_set ?_ GE216.out) | exact HB.out)⟩⟩
    · rw [if_neg c26] at H
      have c26b0 : (!(t202 == t212) || (!(t203 == t213) || (!(t204 == t214)))) = false := by simpa using c26
      clear c26
      (first | rw [c26b0] | (simp only [i64_w, i32_w]; rw [c26b0]) | skip)
      by_cases c34 : (!(t207 == t212) || (!(t208 == t213) || (!(t209 == t214)))) = true
      · rw [if_pos c34] at H
        have c34b0 : (!(t207 == t212) || (!(t208 == t213) || (!(t209 == t214)))) = true := c34
        clear c34
        have H' := Aside0.mk H
        clear H
        have hnb35 := NB206_201.out
        have hnc35 := NB201_206.out
        have hnb36 := NB206_211.out
        have hnc36 := NB211_206.out
        have hnb37 := NB206_216.out
        have hnc37 := NB216_206.out
        have hcz38_0 : w21.cell? ⟨gb206, 0, none⟩ = some (.int .i64 t202) := (blk_cell BK206.out 0).trans rfl
        have hcz38_1 : w21.cell? ⟨gb206, 1, none⟩ = some (.int .i64 t203) := (blk_cell BK206.out 1).trans rfl
        have hcz38_2 : w21.cell? ⟨gb206, 2, none⟩ = some (.int .i64 t204) := (blk_cell BK206.out 2).trans rfl
        have hfz38_0 := blk_frozen BK206.out 0
        have hfz38_1 := blk_frozen BK206.out 1
        have hfz38_2 := blk_frozen BK206.out 2
        have hnb39 := NB216_201.out
        have hnc39 := NB201_216.out
        have hnb40 := NB216_211.out
        have hnc40 := NB211_216.out
        have hcz41_0 : w21.cell? ⟨gb216, 0, none⟩ = some (.int .i64 0) := (blk_cell BK216.out 0).trans rfl
        have hcz41_1 : w21.cell? ⟨gb216, 1, none⟩ = some (.int .i64 0) := (blk_cell BK216.out 1).trans rfl
        have hcz41_2 : w21.cell? ⟨gb216, 2, none⟩ = some (.int .i64 0) := (blk_cell BK216.out 2).trans rfl
        have hfz41_0 := blk_frozen BK216.out 0
        have hfz41_1 := blk_frozen BK216.out 1
        have hfz41_2 := blk_frozen BK216.out 2
        have hnb42 := NB211_201.out
        have hnc42 := NB201_211.out
        have hcz43_0 : w21.cell? ⟨gb211, 0, none⟩ = some (.int .i64 t207) := (blk_cell BK211.out 0).trans rfl
        have hcz43_1 : w21.cell? ⟨gb211, 1, none⟩ = some (.int .i64 t208) := (blk_cell BK211.out 1).trans rfl
        have hcz43_2 : w21.cell? ⟨gb211, 2, none⟩ = some (.int .i64 t209) := (blk_cell BK211.out 2).trans rfl
        have hfz43_0 := blk_frozen BK211.out 0
        have hfz43_1 := blk_frozen BK211.out 1
        have hfz43_2 := blk_frozen BK211.out 2
        go_wp2
        go_meet
        case rel => exact ⟨_, (true), (by first | rfl | (simp; done) | (simp [*]; done)), H', ⟨by first | omega | exact Nat.le_refl _⟩, ⟨by (with_reducible repeat (first | refine blk_drewN ?_ _ | refine blk_drew ?_ | refine blk_alloc ?_ _)); refine blk_far ?_ NB201_216.out _; (with_reducible repeat (first | refine blk_drewN ?_ _ | refine blk_drew ?_ | refine blk_alloc ?_ _)); refine blk_far ?_ NB201_216.out _; (with_reducible repeat (first | refine blk_drewN ?_ _ | refine blk_drew ?_ | refine blk_alloc ?_ _)); refine blk_far ?_ NB201_216.out _; (with_reducible repeat (first | refine blk_drewN ?_ _ | refine blk_drew ?_ | refine blk_alloc ?_ _)); exact BK201.out⟩, ⟨by (with_reducible repeat (first | refine blk_drewN ?_ _ | refine blk_drew ?_ | refine blk_alloc ?_ _)); refine blk_far ?_ NB206_216.out _; (with_reducible repeat (first | refine blk_drewN ?_ _ | refine blk_drew ?_ | refine blk_alloc ?_ _)); refine blk_far ?_ NB206_216.out _; (with_reducible repeat (first | refine blk_drewN ?_ _ | refine blk_drew ?_ | refine blk_alloc ?_ _)); refine blk_far ?_ NB206_216.out _; (with_reducible repeat (first | refine blk_drewN ?_ _ | refine blk_drew ?_ | refine blk_alloc ?_ _)); exact BK206.out⟩, ⟨by (with_reducible repeat (first | refine blk_drewN ?_ _ | refine blk_drew ?_ | refine blk_alloc ?_ _)); refine blk_far ?_ NB211_216.out _; (with_reducible repeat (first | refine blk_drewN ?_ _ | refine blk_drew ?_ | refine blk_alloc ?_ _)); refine blk_far ?_ NB211_216.out _; (with_reducible repeat (first | refine blk_drewN ?_ _ | refine blk_drew ?_ | refine blk_alloc ?_ _)); refine blk_far ?_ NB211_216.out _; (with_reducible repeat (first | refine blk_drewN ?_ _ | refine blk_drew ?_ | refine blk_alloc ?_ _)); exact BK211.out⟩, ⟨by (with_reducible repeat (first | refine blk_drewN ?_ _ | refine blk_drew ?_ | refine blk_alloc ?_ _)); refine blk_put (cs := #[.int .i64 t212, .int .i64 t213, .int .i64 0]) ?_ 2 _ rfl; (with_reducible repeat (first | refine blk_drewN ?_ _ | refine blk_drew ?_ | refine blk_alloc ?_ _)); refine blk_put (cs := #[.int .i64 t212, .int .i64 0, .int .i64 0]) ?_ 1 _ rfl; (with_reducible repeat (first | refine blk_drewN ?_ _ | refine blk_drew ?_ | refine blk_alloc ?_ _)); refine blk_put (cs := #[.int .i64 0, .int .i64 0, .int .i64 0]) ?_ 0 _ rfl; (with_reducible repeat (first | refine blk_drewN ?_ _ | refine blk_drew ?_ | refine blk_alloc ?_ _)); exact BK216.out⟩, ⟨by repeat (first | (with_reducible first | exact HB.out | apply below_alloc | apply pw_below_drewN | apply below_drew1 | refine below_set ?_ GE201.out | refine below_set ?_ GE206.out | refine below_set ?_ GE211.out | refine below_set ?_ GE216.out) | exact HB.out)⟩⟩
      · rw [if_neg c34] at H
        have c34b0 : (!(t207 == t212) || (!(t208 == t213) || (!(t209 == t214)))) = false := by simpa using c34
        clear c34
        by_cases c44 : t205 = t215
        · rw [if_pos c44] at H
          have c44b0 : (t205 == t215) = true := beq_iff_eq.mpr c44
          have c44b1 : (t205 != t215) = false := bne_eq_false_iff_eq.mpr c44
          clear c44
          have H' := Aside0.mk H
          clear H
          have hnb45 := NB206_201.out
          have hnc45 := NB201_206.out
          have hnb46 := NB206_211.out
          have hnc46 := NB211_206.out
          have hnb47 := NB206_216.out
          have hnc47 := NB216_206.out
          have hcz48_0 : w21.cell? ⟨gb206, 0, none⟩ = some (.int .i64 t202) := (blk_cell BK206.out 0).trans rfl
          have hcz48_1 : w21.cell? ⟨gb206, 1, none⟩ = some (.int .i64 t203) := (blk_cell BK206.out 1).trans rfl
          have hcz48_2 : w21.cell? ⟨gb206, 2, none⟩ = some (.int .i64 t204) := (blk_cell BK206.out 2).trans rfl
          have hfz48_0 := blk_frozen BK206.out 0
          have hfz48_1 := blk_frozen BK206.out 1
          have hfz48_2 := blk_frozen BK206.out 2
          have hnb49 := NB216_201.out
          have hnc49 := NB201_216.out
          have hnb50 := NB216_211.out
          have hnc50 := NB211_216.out
          have hcz51_0 : w21.cell? ⟨gb216, 0, none⟩ = some (.int .i64 0) := (blk_cell BK216.out 0).trans rfl
          have hcz51_1 : w21.cell? ⟨gb216, 1, none⟩ = some (.int .i64 0) := (blk_cell BK216.out 1).trans rfl
          have hcz51_2 : w21.cell? ⟨gb216, 2, none⟩ = some (.int .i64 0) := (blk_cell BK216.out 2).trans rfl
          have hfz51_0 := blk_frozen BK216.out 0
          have hfz51_1 := blk_frozen BK216.out 1
          have hfz51_2 := blk_frozen BK216.out 2
          have hnb52 := NB211_201.out
          have hnc52 := NB201_211.out
          have hcz53_0 : w21.cell? ⟨gb211, 0, none⟩ = some (.int .i64 t207) := (blk_cell BK211.out 0).trans rfl
          have hcz53_1 : w21.cell? ⟨gb211, 1, none⟩ = some (.int .i64 t208) := (blk_cell BK211.out 1).trans rfl
          have hcz53_2 : w21.cell? ⟨gb211, 2, none⟩ = some (.int .i64 t209) := (blk_cell BK211.out 2).trans rfl
          have hfz53_0 := blk_frozen BK211.out 0
          have hfz53_1 := blk_frozen BK211.out 1
          have hfz53_2 := blk_frozen BK211.out 2
          go_wp2
          go_meet
          case rel => exact ⟨_, ((t210 != t215)), (by first | rfl | (simp; done) | (simp [*]; done)), H', ⟨by first | omega | exact Nat.le_refl _⟩, ⟨by (with_reducible repeat (first | refine blk_drewN ?_ _ | refine blk_drew ?_ | refine blk_alloc ?_ _)); refine blk_far ?_ NB201_216.out _; (with_reducible repeat (first | refine blk_drewN ?_ _ | refine blk_drew ?_ | refine blk_alloc ?_ _)); refine blk_far ?_ NB201_216.out _; (with_reducible repeat (first | refine blk_drewN ?_ _ | refine blk_drew ?_ | refine blk_alloc ?_ _)); refine blk_far ?_ NB201_216.out _; (with_reducible repeat (first | refine blk_drewN ?_ _ | refine blk_drew ?_ | refine blk_alloc ?_ _)); exact BK201.out⟩, ⟨by (with_reducible repeat (first | refine blk_drewN ?_ _ | refine blk_drew ?_ | refine blk_alloc ?_ _)); refine blk_far ?_ NB206_216.out _; (with_reducible repeat (first | refine blk_drewN ?_ _ | refine blk_drew ?_ | refine blk_alloc ?_ _)); refine blk_far ?_ NB206_216.out _; (with_reducible repeat (first | refine blk_drewN ?_ _ | refine blk_drew ?_ | refine blk_alloc ?_ _)); refine blk_far ?_ NB206_216.out _; (with_reducible repeat (first | refine blk_drewN ?_ _ | refine blk_drew ?_ | refine blk_alloc ?_ _)); exact BK206.out⟩, ⟨by (with_reducible repeat (first | refine blk_drewN ?_ _ | refine blk_drew ?_ | refine blk_alloc ?_ _)); refine blk_far ?_ NB211_216.out _; (with_reducible repeat (first | refine blk_drewN ?_ _ | refine blk_drew ?_ | refine blk_alloc ?_ _)); refine blk_far ?_ NB211_216.out _; (with_reducible repeat (first | refine blk_drewN ?_ _ | refine blk_drew ?_ | refine blk_alloc ?_ _)); refine blk_far ?_ NB211_216.out _; (with_reducible repeat (first | refine blk_drewN ?_ _ | refine blk_drew ?_ | refine blk_alloc ?_ _)); exact BK211.out⟩, ⟨by (with_reducible repeat (first | refine blk_drewN ?_ _ | refine blk_drew ?_ | refine blk_alloc ?_ _)); refine blk_put (cs := #[.int .i64 t212, .int .i64 t213, .int .i64 0]) ?_ 2 _ rfl; (with_reducible repeat (first | refine blk_drewN ?_ _ | refine blk_drew ?_ | refine blk_alloc ?_ _)); refine blk_put (cs := #[.int .i64 t212, .int .i64 0, .int .i64 0]) ?_ 1 _ rfl; (with_reducible repeat (first | refine blk_drewN ?_ _ | refine blk_drew ?_ | refine blk_alloc ?_ _)); refine blk_put (cs := #[.int .i64 0, .int .i64 0, .int .i64 0]) ?_ 0 _ rfl; (with_reducible repeat (first | refine blk_drewN ?_ _ | refine blk_drew ?_ | refine blk_alloc ?_ _)); exact BK216.out⟩, ⟨by repeat (first | (with_reducible first | exact HB.out | apply below_alloc | apply pw_below_drewN | apply below_drew1 | refine below_set ?_ GE201.out | refine below_set ?_ GE206.out | refine below_set ?_ GE211.out | refine below_set ?_ GE216.out) | exact HB.out)⟩⟩
        · rw [if_neg c44] at H
          have c44b0 : (t205 == t215) = false := beq_eq_false_iff_ne.mpr c44
          have c44b1 : (t205 != t215) = true := bne_iff_ne.mpr c44
          have H' := Aside0.mk H
          clear H
          have hnb54 := NB206_201.out
          have hnc54 := NB201_206.out
          have hnb55 := NB206_211.out
          have hnc55 := NB211_206.out
          have hnb56 := NB206_216.out
          have hnc56 := NB216_206.out
          have hcz57_0 : w21.cell? ⟨gb206, 0, none⟩ = some (.int .i64 t202) := (blk_cell BK206.out 0).trans rfl
          have hcz57_1 : w21.cell? ⟨gb206, 1, none⟩ = some (.int .i64 t203) := (blk_cell BK206.out 1).trans rfl
          have hcz57_2 : w21.cell? ⟨gb206, 2, none⟩ = some (.int .i64 t204) := (blk_cell BK206.out 2).trans rfl
          have hfz57_0 := blk_frozen BK206.out 0
          have hfz57_1 := blk_frozen BK206.out 1
          have hfz57_2 := blk_frozen BK206.out 2
          have hnb58 := NB216_201.out
          have hnc58 := NB201_216.out
          have hnb59 := NB216_211.out
          have hnc59 := NB211_216.out
          have hcz60_0 : w21.cell? ⟨gb216, 0, none⟩ = some (.int .i64 0) := (blk_cell BK216.out 0).trans rfl
          have hcz60_1 : w21.cell? ⟨gb216, 1, none⟩ = some (.int .i64 0) := (blk_cell BK216.out 1).trans rfl
          have hcz60_2 : w21.cell? ⟨gb216, 2, none⟩ = some (.int .i64 0) := (blk_cell BK216.out 2).trans rfl
          have hfz60_0 := blk_frozen BK216.out 0
          have hfz60_1 := blk_frozen BK216.out 1
          have hfz60_2 := blk_frozen BK216.out 2
          have hnb61 := NB211_201.out
          have hnc61 := NB201_211.out
          have hcz62_0 : w21.cell? ⟨gb211, 0, none⟩ = some (.int .i64 t207) := (blk_cell BK211.out 0).trans rfl
          have hcz62_1 : w21.cell? ⟨gb211, 1, none⟩ = some (.int .i64 t208) := (blk_cell BK211.out 1).trans rfl
          have hcz62_2 : w21.cell? ⟨gb211, 2, none⟩ = some (.int .i64 t209) := (blk_cell BK211.out 2).trans rfl
          have hfz62_0 := blk_frozen BK211.out 0
          have hfz62_1 := blk_frozen BK211.out 1
          have hfz62_2 := blk_frozen BK211.out 2
          go_wp2
          go_meet
          case rel => exact ⟨_, (true), (by first | rfl | (simp; done) | (simp [*]; done)), H', ⟨by first | omega | exact Nat.le_refl _⟩, ⟨by (with_reducible repeat (first | refine blk_drewN ?_ _ | refine blk_drew ?_ | refine blk_alloc ?_ _)); refine blk_far ?_ NB201_216.out _; (with_reducible repeat (first | refine blk_drewN ?_ _ | refine blk_drew ?_ | refine blk_alloc ?_ _)); refine blk_far ?_ NB201_216.out _; (with_reducible repeat (first | refine blk_drewN ?_ _ | refine blk_drew ?_ | refine blk_alloc ?_ _)); refine blk_far ?_ NB201_216.out _; (with_reducible repeat (first | refine blk_drewN ?_ _ | refine blk_drew ?_ | refine blk_alloc ?_ _)); exact BK201.out⟩, ⟨by (with_reducible repeat (first | refine blk_drewN ?_ _ | refine blk_drew ?_ | refine blk_alloc ?_ _)); refine blk_far ?_ NB206_216.out _; (with_reducible repeat (first | refine blk_drewN ?_ _ | refine blk_drew ?_ | refine blk_alloc ?_ _)); refine blk_far ?_ NB206_216.out _; (with_reducible repeat (first | refine blk_drewN ?_ _ | refine blk_drew ?_ | refine blk_alloc ?_ _)); refine blk_far ?_ NB206_216.out _; (with_reducible repeat (first | refine blk_drewN ?_ _ | refine blk_drew ?_ | refine blk_alloc ?_ _)); exact BK206.out⟩, ⟨by (with_reducible repeat (first | refine blk_drewN ?_ _ | refine blk_drew ?_ | refine blk_alloc ?_ _)); refine blk_far ?_ NB211_216.out _; (with_reducible repeat (first | refine blk_drewN ?_ _ | refine blk_drew ?_ | refine blk_alloc ?_ _)); refine blk_far ?_ NB211_216.out _; (with_reducible repeat (first | refine blk_drewN ?_ _ | refine blk_drew ?_ | refine blk_alloc ?_ _)); refine blk_far ?_ NB211_216.out _; (with_reducible repeat (first | refine blk_drewN ?_ _ | refine blk_drew ?_ | refine blk_alloc ?_ _)); exact BK211.out⟩, ⟨by (with_reducible repeat (first | refine blk_drewN ?_ _ | refine blk_drew ?_ | refine blk_alloc ?_ _)); refine blk_put (cs := #[.int .i64 t212, .int .i64 t213, .int .i64 0]) ?_ 2 _ rfl; (with_reducible repeat (first | refine blk_drewN ?_ _ | refine blk_drew ?_ | refine blk_alloc ?_ _)); refine blk_put (cs := #[.int .i64 t212, .int .i64 0, .int .i64 0]) ?_ 1 _ rfl; (with_reducible repeat (first | refine blk_drewN ?_ _ | refine blk_drew ?_ | refine blk_alloc ?_ _)); refine blk_put (cs := #[.int .i64 0, .int .i64 0, .int .i64 0]) ?_ 0 _ rfl; (with_reducible repeat (first | refine blk_drewN ?_ _ | refine blk_drew ?_ | refine blk_alloc ?_ _)); exact BK216.out⟩, ⟨by repeat (first | (with_reducible first | exact HB.out | apply below_alloc | apply pw_below_drewN | apply below_drew1 | refine below_set ?_ GE201.out | refine below_set ?_ GE206.out | refine below_set ?_ GE211.out | refine below_set ?_ GE216.out) | exact HB.out)⟩⟩
  case rest =>
    clear HC6
    try clear c1
    try clear c2
    try clear p2
    try clear c3
    try clear c4
    try clear c5
    try clear c6
    try clear c7
    try clear c11
    try clear c16
    try clear c17
    try clear c22
    try clear c23
    try clear c24
    try clear c26
    try clear c26b0
    try clear c27
    try clear c28
    try clear c29
    try clear c31
    try clear c32
    try clear c34
    try clear c34b0
    try clear c35
    try clear c36
    try clear c37
    try clear c39
    try clear c40
    try clear c42
    try clear c44
    try clear c44b0
    try clear c44b1
    try clear c45
    try clear c46
    try clear c47
    try clear c49
    try clear c50
    try clear c52
    try clear c54
    try clear c55
    try clear c56
    try clear c58
    try clear c59
    try clear c61
    try clear hcz12_0
    try clear hcz12_1
    try clear hcz12_2
    try clear hcz13_0
    try clear hcz13_1
    try clear hcz13_2
    try clear hcz18_0
    try clear hcz18_1
    try clear hcz18_2
    try clear hcz19_0
    try clear hcz19_1
    try clear hcz19_2
    try clear hcz25_0
    try clear hcz25_1
    try clear hcz25_2
    try clear hcz30_0
    try clear hcz30_1
    try clear hcz30_2
    try clear hcz33_0
    try clear hcz33_1
    try clear hcz33_2
    try clear hcz38_0
    try clear hcz38_1
    try clear hcz38_2
    try clear hcz41_0
    try clear hcz41_1
    try clear hcz41_2
    try clear hcz43_0
    try clear hcz43_1
    try clear hcz43_2
    try clear hcz48_0
    try clear hcz48_1
    try clear hcz48_2
    try clear hcz51_0
    try clear hcz51_1
    try clear hcz51_2
    try clear hcz53_0
    try clear hcz53_1
    try clear hcz53_2
    try clear hcz57_0
    try clear hcz57_1
    try clear hcz57_2
    try clear hcz60_0
    try clear hcz60_1
    try clear hcz60_2
    try clear hcz62_0
    try clear hcz62_1
    try clear hcz62_2
    try clear hcz8_0
    try clear hcz8_1
    try clear hcz8_2
    try clear hfz12_0
    try clear hfz12_1
    try clear hfz12_2
    try clear hfz13_0
    try clear hfz13_1
    try clear hfz13_2
    try clear hfz18_0
    try clear hfz18_1
    try clear hfz18_2
    try clear hfz19_0
    try clear hfz19_1
    try clear hfz19_2
    try clear hfz25_0
    try clear hfz25_1
    try clear hfz25_2
    try clear hfz30_0
    try clear hfz30_1
    try clear hfz30_2
    try clear hfz33_0
    try clear hfz33_1
    try clear hfz33_2
    try clear hfz38_0
    try clear hfz38_1
    try clear hfz38_2
    try clear hfz41_0
    try clear hfz41_1
    try clear hfz41_2
    try clear hfz43_0
    try clear hfz43_1
    try clear hfz43_2
    try clear hfz48_0
    try clear hfz48_1
    try clear hfz48_2
    try clear hfz51_0
    try clear hfz51_1
    try clear hfz51_2
    try clear hfz53_0
    try clear hfz53_1
    try clear hfz53_2
    try clear hfz57_0
    try clear hfz57_1
    try clear hfz57_2
    try clear hfz60_0
    try clear hfz60_1
    try clear hfz60_2
    try clear hfz62_0
    try clear hfz62_1
    try clear hfz62_2
    try clear hfz8_0
    try clear hfz8_1
    try clear hfz8_2
    obtain ⟨kq, x46_5, rfl, HA, HJ5, BK201, BK206, BK211, BK216, HB⟩ := hcut
    cases kq with
    | zero => exact absurd HA.out (by simp [lienlaw20_RightsCounts.j0])
    | succ kj5 =>
      have H := HA.out
      clear HA
      simp only [lienlaw20_RightsCounts.j0] at H
      by_cases c63 : x46_5 = true
      · subst c63
        have H1 : (some false) = some r := by rw [if_pos rfl] at H; exact H
        clear H
        have H := H1
        clear H1
        exact absurd ((Option.some.inj H).trans hr_.out) (by decide)
      · replace c63 := Bool.eq_false_iff.mpr c63
        subst c63
        have H1 : ((rights_Spend.f a0_0 a0_1 a0_2 a1).bind fun bt217 => ((rights_Debit.f a0_0 a0_1 a0_2 a1).bind fun bt221 => ((lienref20_Less.f a0_0 a0_1 a0_2 a1).bind fun bt225 => (if (!(bt217.1 == bt225.1) || (!(bt217.2.1 == bt225.2.1) || (!(bt217.2.2.1 == bt225.2.2.1)))) = true then (lienlaw20_RightsCounts.j1 kj5 a1 true a0_0 a0_1 a0_2) else (if (!(bt221.1 == bt225.1) || (!(bt221.2.1 == bt225.2.1) || (!(bt221.2.2.1 == bt225.2.2.1)))) = true then (lienlaw20_RightsCounts.j1 kj5 a1 true a0_0 a0_1 a0_2) else (if bt217.2.2.2 = bt225.2.2.2 then (lienlaw20_RightsCounts.j1 kj5 a1 (bt221.2.2.2 != bt225.2.2.2) a0_0 a0_1 a0_2) else (lienlaw20_RightsCounts.j1 kj5 a1 true a0_0 a0_1 a0_2))))))) = some r := by rw [if_neg (show ¬ (false = true) by decide)] at H; exact H
        clear H
        have H := H1
        clear H1
        replace H := Option.bind_eq_some_iff.mp H
        obtain ⟨⟨t217, t218, t219, t220⟩, A640, H⟩ := H
        replace H : ((rights_Debit.f a0_0 a0_1 a0_2 a1).bind fun bt221 => ((lienref20_Less.f a0_0 a0_1 a0_2 a1).bind fun bt225 => (if (!(t217 == bt225.1) || (!(t218 == bt225.2.1) || (!(t219 == bt225.2.2.1)))) = true then (lienlaw20_RightsCounts.j1 kj5 a1 true a0_0 a0_1 a0_2) else (if (!(bt221.1 == bt225.1) || (!(bt221.2.1 == bt225.2.1) || (!(bt221.2.2.1 == bt225.2.2.1)))) = true then (lienlaw20_RightsCounts.j1 kj5 a1 true a0_0 a0_1 a0_2) else (if t220 = bt225.2.2.2 then (lienlaw20_RightsCounts.j1 kj5 a1 (bt221.2.2.2 != bt225.2.2.2) a0_0 a0_1 a0_2) else (lienlaw20_RightsCounts.j1 kj5 a1 true a0_0 a0_1 a0_2)))))) = some r := H
        have A64 := Aside0.mk A640
        clear A640
        replace H := Option.bind_eq_some_iff.mp H
        obtain ⟨⟨t221, t222, t223, t224⟩, A650, H⟩ := H
        replace H : ((lienref20_Less.f a0_0 a0_1 a0_2 a1).bind fun bt225 => (if (!(t217 == bt225.1) || (!(t218 == bt225.2.1) || (!(t219 == bt225.2.2.1)))) = true then (lienlaw20_RightsCounts.j1 kj5 a1 true a0_0 a0_1 a0_2) else (if (!(t221 == bt225.1) || (!(t222 == bt225.2.1) || (!(t223 == bt225.2.2.1)))) = true then (lienlaw20_RightsCounts.j1 kj5 a1 true a0_0 a0_1 a0_2) else (if t220 = bt225.2.2.2 then (lienlaw20_RightsCounts.j1 kj5 a1 (t224 != bt225.2.2.2) a0_0 a0_1 a0_2) else (lienlaw20_RightsCounts.j1 kj5 a1 true a0_0 a0_1 a0_2))))) = some r := H
        have A65 := Aside0.mk A650
        clear A650
        replace H := Option.bind_eq_some_iff.mp H
        obtain ⟨⟨t225, t226, t227, t228⟩, A660, H⟩ := H
        replace H : (if (!(t217 == t225) || (!(t218 == t226) || (!(t219 == t227)))) = true then (lienlaw20_RightsCounts.j1 kj5 a1 true a0_0 a0_1 a0_2) else (if (!(t221 == t225) || (!(t222 == t226) || (!(t223 == t227)))) = true then (lienlaw20_RightsCounts.j1 kj5 a1 true a0_0 a0_1 a0_2) else (if t220 = t228 then (lienlaw20_RightsCounts.j1 kj5 a1 (t224 != t228) a0_0 a0_1 a0_2) else (lienlaw20_RightsCounts.j1 kj5 a1 true a0_0 a0_1 a0_2)))) = some r := H
        have A66 := Aside0.mk A660
        clear A660
        have HC67 := Aside0.mk H
        clear H
        have hnb68 := NB201_206.out
        have hnc68 := NB206_201.out
        have hnb69 := NB201_211.out
        have hnc69 := NB211_201.out
        have hnb70 := NB201_216.out
        have hnc70 := NB216_201.out
        have hcz71_0 : wc.cell? ⟨gb201, 0, none⟩ = some (.int .i64 a0_0) := (blk_cell BK201.out 0).trans rfl
        have hcz71_1 : wc.cell? ⟨gb201, 1, none⟩ = some (.int .i64 a0_1) := (blk_cell BK201.out 1).trans rfl
        have hcz71_2 : wc.cell? ⟨gb201, 2, none⟩ = some (.int .i64 a0_2) := (blk_cell BK201.out 2).trans rfl
        have hfz71_0 := blk_frozen BK201.out 0
        have hfz71_1 := blk_frozen BK201.out 1
        have hfz71_2 := blk_frozen BK201.out 2
        go_upto_region 9 with (first | ((with_reducible refine gate_callee (f := 29) rfl ?_); refine goesL_ (some 50) rfl rfl Try.func29 (by kernel_rfl) rfl #[.agg #[.int .i64 a0_0, .int .i64 a0_1, .int .i64 a0_2], .int .i64 a1] rfl (by (try simp only [List.map_toArray, List.map_cons, List.map_nil]); first | done | rfl | (simp only [List.length_drop, List.length_take]; rfl)) ?_; (with_reducible refine (rights_Spend.calls a0_0 a0_1 a0_2 a1 t217 t218 t219 t220 _ A64.out).mono ?_); rintro e w72 ⟨rfl, hb⟩; refine ⟨_, rfl, ?_⟩; have n0_ := Aside0.mk (blk_below (g := gb201) (o := .cells #[.int .i64 a0_0, .int .i64 a0_1, .int .i64 a0_2] 23 (0, 0)) (by (with_reducible repeat (first | refine blk_drewN ?_ _ | refine blk_drew ?_ | refine blk_alloc ?_ _)); exact BK201.out) hb); have n1_ := Aside0.mk (blk_below (g := gb206) (o := .cells #[.int .i64 t202, .int .i64 t203, .int .i64 t204] 23 (0, 0)) (by (with_reducible repeat (first | refine blk_drewN ?_ _ | refine blk_drew ?_ | refine blk_alloc ?_ _)); exact BK206.out) hb); have n2_ := Aside0.mk (blk_below (g := gb211) (o := .cells #[.int .i64 t207, .int .i64 t208, .int .i64 t209] 23 (0, 0)) (by (with_reducible repeat (first | refine blk_drewN ?_ _ | refine blk_drew ?_ | refine blk_alloc ?_ _)); exact BK211.out) hb); have n3_ := Aside0.mk (blk_below (g := gb216) (o := .cells #[.int .i64 t212, .int .i64 t213, .int .i64 t214] 23 (0, 0)) (by (with_reducible repeat (first | refine blk_drewN ?_ _ | refine blk_drew ?_ | refine blk_alloc ?_ _)); exact BK216.out) hb); have n4_ := Aside0.mk (below_step (by repeat (first | (with_reducible first | exact HB.out | apply below_alloc | apply pw_below_drewN | apply below_drew1 | refine below_set ?_ GE201.out | refine below_set ?_ GE206.out | refine below_set ?_ GE211.out | refine below_set ?_ GE216.out) | exact HB.out)) hb); clear BK201; clear BK206; clear BK211; clear BK216; clear HB; have BK201 := n0_; have BK206 := n1_; have BK211 := n2_; have BK216 := n3_; have HB := n4_; clear n0_ n1_ n2_ n3_ n4_; (try clear hb); (try clear hb2); (try clear hk); (try clear hi); have hnb73 := NB206_211.out; have hnc73 := NB211_206.out; have hnb74 := NB206_216.out; have hnc74 := NB216_206.out; have hcz75_0 : w72.cell? ⟨gb206, 0, none⟩ = some (.int .i64 t202) := (blk_cell BK206.out 0).trans rfl; have hcz75_1 : w72.cell? ⟨gb206, 1, none⟩ = some (.int .i64 t203) := (blk_cell BK206.out 1).trans rfl; have hcz75_2 : w72.cell? ⟨gb206, 2, none⟩ = some (.int .i64 t204) := (blk_cell BK206.out 2).trans rfl; have hfz75_0 := blk_frozen BK206.out 0; have hfz75_1 := blk_frozen BK206.out 1; have hfz75_2 := blk_frozen BK206.out 2; have hcz76_0 : w72.cell? ⟨gb201, 0, none⟩ = some (.int .i64 a0_0) := (blk_cell BK201.out 0).trans rfl; have hcz76_1 : w72.cell? ⟨gb201, 1, none⟩ = some (.int .i64 a0_1) := (blk_cell BK201.out 1).trans rfl; have hcz76_2 : w72.cell? ⟨gb201, 2, none⟩ = some (.int .i64 a0_2) := (blk_cell BK201.out 2).trans rfl; have hfz76_0 := blk_frozen BK201.out 0; have hfz76_1 := blk_frozen BK201.out 1; have hfz76_2 := blk_frozen BK201.out 2) | ((with_reducible refine gate_callee (f := 30) rfl ?_); refine goesL_ (some 56) rfl rfl Try.func30 (by kernel_rfl) rfl #[.agg #[.int .i64 a0_0, .int .i64 a0_1, .int .i64 a0_2], .int .i64 a1] rfl (by (try simp only [List.map_toArray, List.map_cons, List.map_nil]); first | done | rfl | (simp only [List.length_drop, List.length_take]; rfl)) ?_; (with_reducible refine (rights_Debit.calls a0_0 a0_1 a0_2 a1 t221 t222 t223 t224 _ A65.out).mono ?_); rintro e w77 ⟨rfl, hb⟩; refine ⟨_, rfl, ?_⟩; have n0_ := Aside0.mk (blk_below (g := gb201) (o := .cells #[.int .i64 a0_0, .int .i64 a0_1, .int .i64 a0_2] 23 (0, 0)) (by (with_reducible repeat (first | refine blk_drewN ?_ _ | refine blk_drew ?_ | refine blk_alloc ?_ _)); refine blk_far ?_ NB201_206.out _; (with_reducible repeat (first | refine blk_drewN ?_ _ | refine blk_drew ?_ | refine blk_alloc ?_ _)); refine blk_far ?_ NB201_206.out _; (with_reducible repeat (first | refine blk_drewN ?_ _ | refine blk_drew ?_ | refine blk_alloc ?_ _)); refine blk_far ?_ NB201_206.out _; (with_reducible repeat (first | refine blk_drewN ?_ _ | refine blk_drew ?_ | refine blk_alloc ?_ _)); exact BK201.out) hb); have n1_ := Aside0.mk (blk_below (g := gb206) (o := .cells #[.int .i64 t217, .int .i64 t218, .int .i64 t219] 23 (0, 0)) (by (with_reducible repeat (first | refine blk_drewN ?_ _ | refine blk_drew ?_ | refine blk_alloc ?_ _)); refine blk_put (cs := #[.int .i64 t217, .int .i64 t218, .int .i64 t204]) ?_ 2 _ rfl; (with_reducible repeat (first | refine blk_drewN ?_ _ | refine blk_drew ?_ | refine blk_alloc ?_ _)); refine blk_put (cs := #[.int .i64 t217, .int .i64 t203, .int .i64 t204]) ?_ 1 _ rfl; (with_reducible repeat (first | refine blk_drewN ?_ _ | refine blk_drew ?_ | refine blk_alloc ?_ _)); refine blk_put (cs := #[.int .i64 t202, .int .i64 t203, .int .i64 t204]) ?_ 0 _ rfl; (with_reducible repeat (first | refine blk_drewN ?_ _ | refine blk_drew ?_ | refine blk_alloc ?_ _)); exact BK206.out) hb); have n2_ := Aside0.mk (blk_below (g := gb211) (o := .cells #[.int .i64 t207, .int .i64 t208, .int .i64 t209] 23 (0, 0)) (by (with_reducible repeat (first | refine blk_drewN ?_ _ | refine blk_drew ?_ | refine blk_alloc ?_ _)); refine blk_far ?_ NB211_206.out _; (with_reducible repeat (first | refine blk_drewN ?_ _ | refine blk_drew ?_ | refine blk_alloc ?_ _)); refine blk_far ?_ NB211_206.out _; (with_reducible repeat (first | refine blk_drewN ?_ _ | refine blk_drew ?_ | refine blk_alloc ?_ _)); refine blk_far ?_ NB211_206.out _; (with_reducible repeat (first | refine blk_drewN ?_ _ | refine blk_drew ?_ | refine blk_alloc ?_ _)); exact BK211.out) hb); have n3_ := Aside0.mk (blk_below (g := gb216) (o := .cells #[.int .i64 t212, .int .i64 t213, .int .i64 t214] 23 (0, 0)) (by (with_reducible repeat (first | refine blk_drewN ?_ _ | refine blk_drew ?_ | refine blk_alloc ?_ _)); refine blk_far ?_ NB216_206.out _; (with_reducible repeat (first | refine blk_drewN ?_ _ | refine blk_drew ?_ | refine blk_alloc ?_ _)); refine blk_far ?_ NB216_206.out _; (with_reducible repeat (first | refine blk_drewN ?_ _ | refine blk_drew ?_ | refine blk_alloc ?_ _)); refine blk_far ?_ NB216_206.out _; (with_reducible repeat (first | refine blk_drewN ?_ _ | refine blk_drew ?_ | refine blk_alloc ?_ _)); exact BK216.out) hb); have n4_ := Aside0.mk (below_step (by repeat (first | (with_reducible first | exact HB.out | apply below_alloc | apply pw_below_drewN | apply below_drew1 | refine below_set ?_ GE201.out | refine below_set ?_ GE206.out | refine below_set ?_ GE211.out | refine below_set ?_ GE216.out) | exact HB.out)) hb); clear BK201; clear BK206; clear BK211; clear BK216; clear HB; have BK201 := n0_; have BK206 := n1_; have BK211 := n2_; have BK216 := n3_; have HB := n4_; clear n0_ n1_ n2_ n3_ n4_; (try clear hb); (try clear hb2); (try clear hk); (try clear hi); have hnb78 := NB211_216.out; have hnc78 := NB216_211.out; have hcz79_0 : w77.cell? ⟨gb211, 0, none⟩ = some (.int .i64 t207) := (blk_cell BK211.out 0).trans rfl; have hcz79_1 : w77.cell? ⟨gb211, 1, none⟩ = some (.int .i64 t208) := (blk_cell BK211.out 1).trans rfl; have hcz79_2 : w77.cell? ⟨gb211, 2, none⟩ = some (.int .i64 t209) := (blk_cell BK211.out 2).trans rfl; have hfz79_0 := blk_frozen BK211.out 0; have hfz79_1 := blk_frozen BK211.out 1; have hfz79_2 := blk_frozen BK211.out 2; have hcz80_0 : w77.cell? ⟨gb201, 0, none⟩ = some (.int .i64 a0_0) := (blk_cell BK201.out 0).trans rfl; have hcz80_1 : w77.cell? ⟨gb201, 1, none⟩ = some (.int .i64 a0_1) := (blk_cell BK201.out 1).trans rfl; have hcz80_2 : w77.cell? ⟨gb201, 2, none⟩ = some (.int .i64 a0_2) := (blk_cell BK201.out 2).trans rfl; have hfz80_0 := blk_frozen BK201.out 0; have hfz80_1 := blk_frozen BK201.out 1; have hfz80_2 := blk_frozen BK201.out 2) | ((with_reducible refine gate_callee (f := 31) rfl ?_); refine goesL_ (some 62) rfl rfl Try.func31 (by kernel_rfl) rfl #[.agg #[.int .i64 a0_0, .int .i64 a0_1, .int .i64 a0_2], .int .i64 a1] rfl (by (try simp only [List.map_toArray, List.map_cons, List.map_nil]); first | done | rfl | (simp only [List.length_drop, List.length_take]; rfl)) ?_; (with_reducible refine (lienref20_Less.calls a0_0 a0_1 a0_2 a1 t225 t226 t227 t228 _ A66.out).mono ?_); rintro e w81 ⟨rfl, hb⟩; refine ⟨_, rfl, ?_⟩; have n0_ := Aside0.mk (blk_below (g := gb201) (o := .cells #[.int .i64 a0_0, .int .i64 a0_1, .int .i64 a0_2] 23 (0, 0)) (by (with_reducible repeat (first | refine blk_drewN ?_ _ | refine blk_drew ?_ | refine blk_alloc ?_ _)); refine blk_far ?_ NB201_211.out _; (with_reducible repeat (first | refine blk_drewN ?_ _ | refine blk_drew ?_ | refine blk_alloc ?_ _)); refine blk_far ?_ NB201_211.out _; (with_reducible repeat (first | refine blk_drewN ?_ _ | refine blk_drew ?_ | refine blk_alloc ?_ _)); refine blk_far ?_ NB201_211.out _; (with_reducible repeat (first | refine blk_drewN ?_ _ | refine blk_drew ?_ | refine blk_alloc ?_ _)); exact BK201.out) hb); have n1_ := Aside0.mk (blk_below (g := gb206) (o := .cells #[.int .i64 t217, .int .i64 t218, .int .i64 t219] 23 (0, 0)) (by (with_reducible repeat (first | refine blk_drewN ?_ _ | refine blk_drew ?_ | refine blk_alloc ?_ _)); refine blk_far ?_ NB206_211.out _; (with_reducible repeat (first | refine blk_drewN ?_ _ | refine blk_drew ?_ | refine blk_alloc ?_ _)); refine blk_far ?_ NB206_211.out _; (with_reducible repeat (first | refine blk_drewN ?_ _ | refine blk_drew ?_ | refine blk_alloc ?_ _)); refine blk_far ?_ NB206_211.out _; (with_reducible repeat (first | refine blk_drewN ?_ _ | refine blk_drew ?_ | refine blk_alloc ?_ _)); exact BK206.out) hb); have n2_ := Aside0.mk (blk_below (g := gb211) (o := .cells #[.int .i64 t221, .int .i64 t222, .int .i64 t223] 23 (0, 0)) (by (with_reducible repeat (first | refine blk_drewN ?_ _ | refine blk_drew ?_ | refine blk_alloc ?_ _)); refine blk_put (cs := #[.int .i64 t221, .int .i64 t222, .int .i64 t209]) ?_ 2 _ rfl; (with_reducible repeat (first | refine blk_drewN ?_ _ | refine blk_drew ?_ | refine blk_alloc ?_ _)); refine blk_put (cs := #[.int .i64 t221, .int .i64 t208, .int .i64 t209]) ?_ 1 _ rfl; (with_reducible repeat (first | refine blk_drewN ?_ _ | refine blk_drew ?_ | refine blk_alloc ?_ _)); refine blk_put (cs := #[.int .i64 t207, .int .i64 t208, .int .i64 t209]) ?_ 0 _ rfl; (with_reducible repeat (first | refine blk_drewN ?_ _ | refine blk_drew ?_ | refine blk_alloc ?_ _)); exact BK211.out) hb); have n3_ := Aside0.mk (blk_below (g := gb216) (o := .cells #[.int .i64 t212, .int .i64 t213, .int .i64 t214] 23 (0, 0)) (by (with_reducible repeat (first | refine blk_drewN ?_ _ | refine blk_drew ?_ | refine blk_alloc ?_ _)); refine blk_far ?_ NB216_211.out _; (with_reducible repeat (first | refine blk_drewN ?_ _ | refine blk_drew ?_ | refine blk_alloc ?_ _)); refine blk_far ?_ NB216_211.out _; (with_reducible repeat (first | refine blk_drewN ?_ _ | refine blk_drew ?_ | refine blk_alloc ?_ _)); refine blk_far ?_ NB216_211.out _; (with_reducible repeat (first | refine blk_drewN ?_ _ | refine blk_drew ?_ | refine blk_alloc ?_ _)); exact BK216.out) hb); have n4_ := Aside0.mk (below_step (by repeat (first | (with_reducible first | exact HB.out | apply below_alloc | apply pw_below_drewN | apply below_drew1 | refine below_set ?_ GE201.out | refine below_set ?_ GE206.out | refine below_set ?_ GE211.out | refine below_set ?_ GE216.out) | exact HB.out)) hb); clear BK201; clear BK206; clear BK211; clear BK216; clear HB; have BK201 := n0_; have BK206 := n1_; have BK211 := n2_; have BK216 := n3_; have HB := n4_; clear n0_ n1_ n2_ n3_ n4_; (try clear hb); (try clear hb2); (try clear hk); (try clear hi); have hcz82_0 : w81.cell? ⟨gb216, 0, none⟩ = some (.int .i64 t212) := (blk_cell BK216.out 0).trans rfl; have hcz82_1 : w81.cell? ⟨gb216, 1, none⟩ = some (.int .i64 t213) := (blk_cell BK216.out 1).trans rfl; have hcz82_2 : w81.cell? ⟨gb216, 2, none⟩ = some (.int .i64 t214) := (blk_cell BK216.out 2).trans rfl; have hfz82_0 := blk_frozen BK216.out 0; have hfz82_1 := blk_frozen BK216.out 1; have hfz82_2 := blk_frozen BK216.out 2))
        (try simp only [Act.put, List.setIfInBounds_toArray, List.set_cons_zero, List.set_cons_succ])
        go_cut [82] (fun v82 wc => ∃ (kq : Nat) (x82_66 : Bool), v82 = .bool x82_66 ∧ Aside0 (lienlaw20_RightsCounts.j1 kq a1 x82_66 a0_0 a0_1 a0_2 = some r) ∧ Aside0 (kq ≤ kj5) ∧ Aside0 (wc.heap[gb201]? = some (.cells #[.int .i64 a0_0, .int .i64 a0_1, .int .i64 a0_2] 23 (0, 0))) ∧ Aside0 (wc.heap[gb206]? = some (.cells #[.int .i64 t217, .int .i64 t218, .int .i64 t219] 23 (0, 0))) ∧ Aside0 (wc.heap[gb211]? = some (.cells #[.int .i64 t221, .int .i64 t222, .int .i64 t223] 23 (0, 0))) ∧ Aside0 (wc.heap[gb216]? = some (.cells #[.int .i64 t225, .int .i64 t226, .int .i64 t227] 23 (0, 0))) ∧ Aside0 (Below w.heap.size w wc))
        case first =>
          have H := HC67.out
          clear HC67
          by_cases c83 : (!(t217 == t225) || (!(t218 == t226) || (!(t219 == t227)))) = true
          · rw [if_pos c83] at H
            have c83b0 : (!(t217 == t225) || (!(t218 == t226) || (!(t219 == t227)))) = true := c83
            clear c83
            (first | rw [c83b0] | (simp only [i64_w, i32_w]; rw [c83b0]) | skip)
            have H' := Aside0.mk H
            clear H
            have hnb84 := NB206_201.out
            have hnc84 := NB201_206.out
            have hnb85 := NB206_211.out
            have hnc85 := NB211_206.out
            have hnb86 := NB206_216.out
            have hnc86 := NB216_206.out
            have hcz87_0 : w81.cell? ⟨gb206, 0, none⟩ = some (.int .i64 t217) := (blk_cell BK206.out 0).trans rfl
            have hcz87_1 : w81.cell? ⟨gb206, 1, none⟩ = some (.int .i64 t218) := (blk_cell BK206.out 1).trans rfl
            have hcz87_2 : w81.cell? ⟨gb206, 2, none⟩ = some (.int .i64 t219) := (blk_cell BK206.out 2).trans rfl
            have hfz87_0 := blk_frozen BK206.out 0
            have hfz87_1 := blk_frozen BK206.out 1
            have hfz87_2 := blk_frozen BK206.out 2
            have hnb88 := NB216_201.out
            have hnc88 := NB201_216.out
            have hnb89 := NB216_211.out
            have hnc89 := NB211_216.out
            have hcz90_0 : w81.cell? ⟨gb216, 0, none⟩ = some (.int .i64 t212) := (blk_cell BK216.out 0).trans rfl
            have hcz90_1 : w81.cell? ⟨gb216, 1, none⟩ = some (.int .i64 t213) := (blk_cell BK216.out 1).trans rfl
            have hcz90_2 : w81.cell? ⟨gb216, 2, none⟩ = some (.int .i64 t214) := (blk_cell BK216.out 2).trans rfl
            have hfz90_0 := blk_frozen BK216.out 0
            have hfz90_1 := blk_frozen BK216.out 1
            have hfz90_2 := blk_frozen BK216.out 2
            go_wp2
            go_meet
            case rel => exact ⟨_, (true), (by first | rfl | (simp; done) | (simp [*]; done)), H', ⟨by have := HJ5.out; first | omega | exact Nat.le_refl _⟩, ⟨by (with_reducible repeat (first | refine blk_drewN ?_ _ | refine blk_drew ?_ | refine blk_alloc ?_ _)); refine blk_far ?_ NB201_216.out _; (with_reducible repeat (first | refine blk_drewN ?_ _ | refine blk_drew ?_ | refine blk_alloc ?_ _)); refine blk_far ?_ NB201_216.out _; (with_reducible repeat (first | refine blk_drewN ?_ _ | refine blk_drew ?_ | refine blk_alloc ?_ _)); refine blk_far ?_ NB201_216.out _; (with_reducible repeat (first | refine blk_drewN ?_ _ | refine blk_drew ?_ | refine blk_alloc ?_ _)); exact BK201.out⟩, ⟨by (with_reducible repeat (first | refine blk_drewN ?_ _ | refine blk_drew ?_ | refine blk_alloc ?_ _)); refine blk_far ?_ NB206_216.out _; (with_reducible repeat (first | refine blk_drewN ?_ _ | refine blk_drew ?_ | refine blk_alloc ?_ _)); refine blk_far ?_ NB206_216.out _; (with_reducible repeat (first | refine blk_drewN ?_ _ | refine blk_drew ?_ | refine blk_alloc ?_ _)); refine blk_far ?_ NB206_216.out _; (with_reducible repeat (first | refine blk_drewN ?_ _ | refine blk_drew ?_ | refine blk_alloc ?_ _)); exact BK206.out⟩, ⟨by (with_reducible repeat (first | refine blk_drewN ?_ _ | refine blk_drew ?_ | refine blk_alloc ?_ _)); refine blk_far ?_ NB211_216.out _; (with_reducible repeat (first | refine blk_drewN ?_ _ | refine blk_drew ?_ | refine blk_alloc ?_ _)); refine blk_far ?_ NB211_216.out _; (with_reducible repeat (first | refine blk_drewN ?_ _ | refine blk_drew ?_ | refine blk_alloc ?_ _)); refine blk_far ?_ NB211_216.out _; (with_reducible repeat (first | refine blk_drewN ?_ _ | refine blk_drew ?_ | refine blk_alloc ?_ _)); exact BK211.out⟩, ⟨by (with_reducible repeat (first | refine blk_drewN ?_ _ | refine blk_drew ?_ | refine blk_alloc ?_ _)); refine blk_put (cs := #[.int .i64 t225, .int .i64 t226, .int .i64 t214]) ?_ 2 _ rfl; (with_reducible repeat (first | refine blk_drewN ?_ _ | refine blk_drew ?_ | refine blk_alloc ?_ _)); refine blk_put (cs := #[.int .i64 t225, .int .i64 t213, .int .i64 t214]) ?_ 1 _ rfl; (with_reducible repeat (first | refine blk_drewN ?_ _ | refine blk_drew ?_ | refine blk_alloc ?_ _)); refine blk_put (cs := #[.int .i64 t212, .int .i64 t213, .int .i64 t214]) ?_ 0 _ rfl; (with_reducible repeat (first | refine blk_drewN ?_ _ | refine blk_drew ?_ | refine blk_alloc ?_ _)); exact BK216.out⟩, ⟨by repeat (first | (with_reducible first | exact HB.out | apply below_alloc | apply pw_below_drewN | apply below_drew1 | refine below_set ?_ GE201.out | refine below_set ?_ GE206.out | refine below_set ?_ GE211.out | refine below_set ?_ GE216.out) | exact HB.out)⟩⟩
          · rw [if_neg c83] at H
            have c83b0 : (!(t217 == t225) || (!(t218 == t226) || (!(t219 == t227)))) = false := by simpa using c83
            clear c83
            (first | rw [c83b0] | (simp only [i64_w, i32_w]; rw [c83b0]) | skip)
            by_cases c91 : (!(t221 == t225) || (!(t222 == t226) || (!(t223 == t227)))) = true
            · rw [if_pos c91] at H
              have c91b0 : (!(t221 == t225) || (!(t222 == t226) || (!(t223 == t227)))) = true := c91
              clear c91
              have H' := Aside0.mk H
              clear H
              have hnb92 := NB206_201.out
              have hnc92 := NB201_206.out
              have hnb93 := NB206_211.out
              have hnc93 := NB211_206.out
              have hnb94 := NB206_216.out
              have hnc94 := NB216_206.out
              have hcz95_0 : w81.cell? ⟨gb206, 0, none⟩ = some (.int .i64 t217) := (blk_cell BK206.out 0).trans rfl
              have hcz95_1 : w81.cell? ⟨gb206, 1, none⟩ = some (.int .i64 t218) := (blk_cell BK206.out 1).trans rfl
              have hcz95_2 : w81.cell? ⟨gb206, 2, none⟩ = some (.int .i64 t219) := (blk_cell BK206.out 2).trans rfl
              have hfz95_0 := blk_frozen BK206.out 0
              have hfz95_1 := blk_frozen BK206.out 1
              have hfz95_2 := blk_frozen BK206.out 2
              have hnb96 := NB216_201.out
              have hnc96 := NB201_216.out
              have hnb97 := NB216_211.out
              have hnc97 := NB211_216.out
              have hcz98_0 : w81.cell? ⟨gb216, 0, none⟩ = some (.int .i64 t212) := (blk_cell BK216.out 0).trans rfl
              have hcz98_1 : w81.cell? ⟨gb216, 1, none⟩ = some (.int .i64 t213) := (blk_cell BK216.out 1).trans rfl
              have hcz98_2 : w81.cell? ⟨gb216, 2, none⟩ = some (.int .i64 t214) := (blk_cell BK216.out 2).trans rfl
              have hfz98_0 := blk_frozen BK216.out 0
              have hfz98_1 := blk_frozen BK216.out 1
              have hfz98_2 := blk_frozen BK216.out 2
              have hnb99 := NB211_201.out
              have hnc99 := NB201_211.out
              have hcz100_0 : w81.cell? ⟨gb211, 0, none⟩ = some (.int .i64 t221) := (blk_cell BK211.out 0).trans rfl
              have hcz100_1 : w81.cell? ⟨gb211, 1, none⟩ = some (.int .i64 t222) := (blk_cell BK211.out 1).trans rfl
              have hcz100_2 : w81.cell? ⟨gb211, 2, none⟩ = some (.int .i64 t223) := (blk_cell BK211.out 2).trans rfl
              have hfz100_0 := blk_frozen BK211.out 0
              have hfz100_1 := blk_frozen BK211.out 1
              have hfz100_2 := blk_frozen BK211.out 2
              go_wp2
              go_meet
              case rel => exact ⟨_, (true), (by first | rfl | (simp; done) | (simp [*]; done)), H', ⟨by have := HJ5.out; first | omega | exact Nat.le_refl _⟩, ⟨by (with_reducible repeat (first | refine blk_drewN ?_ _ | refine blk_drew ?_ | refine blk_alloc ?_ _)); refine blk_far ?_ NB201_216.out _; (with_reducible repeat (first | refine blk_drewN ?_ _ | refine blk_drew ?_ | refine blk_alloc ?_ _)); refine blk_far ?_ NB201_216.out _; (with_reducible repeat (first | refine blk_drewN ?_ _ | refine blk_drew ?_ | refine blk_alloc ?_ _)); refine blk_far ?_ NB201_216.out _; (with_reducible repeat (first | refine blk_drewN ?_ _ | refine blk_drew ?_ | refine blk_alloc ?_ _)); exact BK201.out⟩, ⟨by (with_reducible repeat (first | refine blk_drewN ?_ _ | refine blk_drew ?_ | refine blk_alloc ?_ _)); refine blk_far ?_ NB206_216.out _; (with_reducible repeat (first | refine blk_drewN ?_ _ | refine blk_drew ?_ | refine blk_alloc ?_ _)); refine blk_far ?_ NB206_216.out _; (with_reducible repeat (first | refine blk_drewN ?_ _ | refine blk_drew ?_ | refine blk_alloc ?_ _)); refine blk_far ?_ NB206_216.out _; (with_reducible repeat (first | refine blk_drewN ?_ _ | refine blk_drew ?_ | refine blk_alloc ?_ _)); exact BK206.out⟩, ⟨by (with_reducible repeat (first | refine blk_drewN ?_ _ | refine blk_drew ?_ | refine blk_alloc ?_ _)); refine blk_far ?_ NB211_216.out _; (with_reducible repeat (first | refine blk_drewN ?_ _ | refine blk_drew ?_ | refine blk_alloc ?_ _)); refine blk_far ?_ NB211_216.out _; (with_reducible repeat (first | refine blk_drewN ?_ _ | refine blk_drew ?_ | refine blk_alloc ?_ _)); refine blk_far ?_ NB211_216.out _; (with_reducible repeat (first | refine blk_drewN ?_ _ | refine blk_drew ?_ | refine blk_alloc ?_ _)); exact BK211.out⟩, ⟨by (with_reducible repeat (first | refine blk_drewN ?_ _ | refine blk_drew ?_ | refine blk_alloc ?_ _)); refine blk_put (cs := #[.int .i64 t225, .int .i64 t226, .int .i64 t214]) ?_ 2 _ rfl; (with_reducible repeat (first | refine blk_drewN ?_ _ | refine blk_drew ?_ | refine blk_alloc ?_ _)); refine blk_put (cs := #[.int .i64 t225, .int .i64 t213, .int .i64 t214]) ?_ 1 _ rfl; (with_reducible repeat (first | refine blk_drewN ?_ _ | refine blk_drew ?_ | refine blk_alloc ?_ _)); refine blk_put (cs := #[.int .i64 t212, .int .i64 t213, .int .i64 t214]) ?_ 0 _ rfl; (with_reducible repeat (first | refine blk_drewN ?_ _ | refine blk_drew ?_ | refine blk_alloc ?_ _)); exact BK216.out⟩, ⟨by repeat (first | (with_reducible first | exact HB.out | apply below_alloc | apply pw_below_drewN | apply below_drew1 | refine below_set ?_ GE201.out | refine below_set ?_ GE206.out | refine below_set ?_ GE211.out | refine below_set ?_ GE216.out) | exact HB.out)⟩⟩
            · rw [if_neg c91] at H
              have c91b0 : (!(t221 == t225) || (!(t222 == t226) || (!(t223 == t227)))) = false := by simpa using c91
              clear c91
              by_cases c101 : t220 = t228
              · rw [if_pos c101] at H
                have c101b0 : (t220 == t228) = true := beq_iff_eq.mpr c101
                have c101b1 : (t220 != t228) = false := bne_eq_false_iff_eq.mpr c101
                clear c101
                have H' := Aside0.mk H
                clear H
                have hnb102 := NB206_201.out
                have hnc102 := NB201_206.out
                have hnb103 := NB206_211.out
                have hnc103 := NB211_206.out
                have hnb104 := NB206_216.out
                have hnc104 := NB216_206.out
                have hcz105_0 : w81.cell? ⟨gb206, 0, none⟩ = some (.int .i64 t217) := (blk_cell BK206.out 0).trans rfl
                have hcz105_1 : w81.cell? ⟨gb206, 1, none⟩ = some (.int .i64 t218) := (blk_cell BK206.out 1).trans rfl
                have hcz105_2 : w81.cell? ⟨gb206, 2, none⟩ = some (.int .i64 t219) := (blk_cell BK206.out 2).trans rfl
                have hfz105_0 := blk_frozen BK206.out 0
                have hfz105_1 := blk_frozen BK206.out 1
                have hfz105_2 := blk_frozen BK206.out 2
                have hnb106 := NB216_201.out
                have hnc106 := NB201_216.out
                have hnb107 := NB216_211.out
                have hnc107 := NB211_216.out
                have hcz108_0 : w81.cell? ⟨gb216, 0, none⟩ = some (.int .i64 t212) := (blk_cell BK216.out 0).trans rfl
                have hcz108_1 : w81.cell? ⟨gb216, 1, none⟩ = some (.int .i64 t213) := (blk_cell BK216.out 1).trans rfl
                have hcz108_2 : w81.cell? ⟨gb216, 2, none⟩ = some (.int .i64 t214) := (blk_cell BK216.out 2).trans rfl
                have hfz108_0 := blk_frozen BK216.out 0
                have hfz108_1 := blk_frozen BK216.out 1
                have hfz108_2 := blk_frozen BK216.out 2
                have hnb109 := NB211_201.out
                have hnc109 := NB201_211.out
                have hcz110_0 : w81.cell? ⟨gb211, 0, none⟩ = some (.int .i64 t221) := (blk_cell BK211.out 0).trans rfl
                have hcz110_1 : w81.cell? ⟨gb211, 1, none⟩ = some (.int .i64 t222) := (blk_cell BK211.out 1).trans rfl
                have hcz110_2 : w81.cell? ⟨gb211, 2, none⟩ = some (.int .i64 t223) := (blk_cell BK211.out 2).trans rfl
                have hfz110_0 := blk_frozen BK211.out 0
                have hfz110_1 := blk_frozen BK211.out 1
                have hfz110_2 := blk_frozen BK211.out 2
                go_wp2
                go_meet
                case rel => exact ⟨_, ((t224 != t228)), (by first | rfl | (simp; done) | (simp [*]; done)), H', ⟨by have := HJ5.out; first | omega | exact Nat.le_refl _⟩, ⟨by (with_reducible repeat (first | refine blk_drewN ?_ _ | refine blk_drew ?_ | refine blk_alloc ?_ _)); refine blk_far ?_ NB201_216.out _; (with_reducible repeat (first | refine blk_drewN ?_ _ | refine blk_drew ?_ | refine blk_alloc ?_ _)); refine blk_far ?_ NB201_216.out _; (with_reducible repeat (first | refine blk_drewN ?_ _ | refine blk_drew ?_ | refine blk_alloc ?_ _)); refine blk_far ?_ NB201_216.out _; (with_reducible repeat (first | refine blk_drewN ?_ _ | refine blk_drew ?_ | refine blk_alloc ?_ _)); exact BK201.out⟩, ⟨by (with_reducible repeat (first | refine blk_drewN ?_ _ | refine blk_drew ?_ | refine blk_alloc ?_ _)); refine blk_far ?_ NB206_216.out _; (with_reducible repeat (first | refine blk_drewN ?_ _ | refine blk_drew ?_ | refine blk_alloc ?_ _)); refine blk_far ?_ NB206_216.out _; (with_reducible repeat (first | refine blk_drewN ?_ _ | refine blk_drew ?_ | refine blk_alloc ?_ _)); refine blk_far ?_ NB206_216.out _; (with_reducible repeat (first | refine blk_drewN ?_ _ | refine blk_drew ?_ | refine blk_alloc ?_ _)); exact BK206.out⟩, ⟨by (with_reducible repeat (first | refine blk_drewN ?_ _ | refine blk_drew ?_ | refine blk_alloc ?_ _)); refine blk_far ?_ NB211_216.out _; (with_reducible repeat (first | refine blk_drewN ?_ _ | refine blk_drew ?_ | refine blk_alloc ?_ _)); refine blk_far ?_ NB211_216.out _; (with_reducible repeat (first | refine blk_drewN ?_ _ | refine blk_drew ?_ | refine blk_alloc ?_ _)); refine blk_far ?_ NB211_216.out _; (with_reducible repeat (first | refine blk_drewN ?_ _ | refine blk_drew ?_ | refine blk_alloc ?_ _)); exact BK211.out⟩, ⟨by (with_reducible repeat (first | refine blk_drewN ?_ _ | refine blk_drew ?_ | refine blk_alloc ?_ _)); refine blk_put (cs := #[.int .i64 t225, .int .i64 t226, .int .i64 t214]) ?_ 2 _ rfl; (with_reducible repeat (first | refine blk_drewN ?_ _ | refine blk_drew ?_ | refine blk_alloc ?_ _)); refine blk_put (cs := #[.int .i64 t225, .int .i64 t213, .int .i64 t214]) ?_ 1 _ rfl; (with_reducible repeat (first | refine blk_drewN ?_ _ | refine blk_drew ?_ | refine blk_alloc ?_ _)); refine blk_put (cs := #[.int .i64 t212, .int .i64 t213, .int .i64 t214]) ?_ 0 _ rfl; (with_reducible repeat (first | refine blk_drewN ?_ _ | refine blk_drew ?_ | refine blk_alloc ?_ _)); exact BK216.out⟩, ⟨by repeat (first | (with_reducible first | exact HB.out | apply below_alloc | apply pw_below_drewN | apply below_drew1 | refine below_set ?_ GE201.out | refine below_set ?_ GE206.out | refine below_set ?_ GE211.out | refine below_set ?_ GE216.out) | exact HB.out)⟩⟩
              · rw [if_neg c101] at H
                have c101b0 : (t220 == t228) = false := beq_eq_false_iff_ne.mpr c101
                have c101b1 : (t220 != t228) = true := bne_iff_ne.mpr c101
                have H' := Aside0.mk H
                clear H
                have hnb111 := NB206_201.out
                have hnc111 := NB201_206.out
                have hnb112 := NB206_211.out
                have hnc112 := NB211_206.out
                have hnb113 := NB206_216.out
                have hnc113 := NB216_206.out
                have hcz114_0 : w81.cell? ⟨gb206, 0, none⟩ = some (.int .i64 t217) := (blk_cell BK206.out 0).trans rfl
                have hcz114_1 : w81.cell? ⟨gb206, 1, none⟩ = some (.int .i64 t218) := (blk_cell BK206.out 1).trans rfl
                have hcz114_2 : w81.cell? ⟨gb206, 2, none⟩ = some (.int .i64 t219) := (blk_cell BK206.out 2).trans rfl
                have hfz114_0 := blk_frozen BK206.out 0
                have hfz114_1 := blk_frozen BK206.out 1
                have hfz114_2 := blk_frozen BK206.out 2
                have hnb115 := NB216_201.out
                have hnc115 := NB201_216.out
                have hnb116 := NB216_211.out
                have hnc116 := NB211_216.out
                have hcz117_0 : w81.cell? ⟨gb216, 0, none⟩ = some (.int .i64 t212) := (blk_cell BK216.out 0).trans rfl
                have hcz117_1 : w81.cell? ⟨gb216, 1, none⟩ = some (.int .i64 t213) := (blk_cell BK216.out 1).trans rfl
                have hcz117_2 : w81.cell? ⟨gb216, 2, none⟩ = some (.int .i64 t214) := (blk_cell BK216.out 2).trans rfl
                have hfz117_0 := blk_frozen BK216.out 0
                have hfz117_1 := blk_frozen BK216.out 1
                have hfz117_2 := blk_frozen BK216.out 2
                have hnb118 := NB211_201.out
                have hnc118 := NB201_211.out
                have hcz119_0 : w81.cell? ⟨gb211, 0, none⟩ = some (.int .i64 t221) := (blk_cell BK211.out 0).trans rfl
                have hcz119_1 : w81.cell? ⟨gb211, 1, none⟩ = some (.int .i64 t222) := (blk_cell BK211.out 1).trans rfl
                have hcz119_2 : w81.cell? ⟨gb211, 2, none⟩ = some (.int .i64 t223) := (blk_cell BK211.out 2).trans rfl
                have hfz119_0 := blk_frozen BK211.out 0
                have hfz119_1 := blk_frozen BK211.out 1
                have hfz119_2 := blk_frozen BK211.out 2
                go_wp2
                go_meet
                case rel => exact ⟨_, (true), (by first | rfl | (simp; done) | (simp [*]; done)), H', ⟨by have := HJ5.out; first | omega | exact Nat.le_refl _⟩, ⟨by (with_reducible repeat (first | refine blk_drewN ?_ _ | refine blk_drew ?_ | refine blk_alloc ?_ _)); refine blk_far ?_ NB201_216.out _; (with_reducible repeat (first | refine blk_drewN ?_ _ | refine blk_drew ?_ | refine blk_alloc ?_ _)); refine blk_far ?_ NB201_216.out _; (with_reducible repeat (first | refine blk_drewN ?_ _ | refine blk_drew ?_ | refine blk_alloc ?_ _)); refine blk_far ?_ NB201_216.out _; (with_reducible repeat (first | refine blk_drewN ?_ _ | refine blk_drew ?_ | refine blk_alloc ?_ _)); exact BK201.out⟩, ⟨by (with_reducible repeat (first | refine blk_drewN ?_ _ | refine blk_drew ?_ | refine blk_alloc ?_ _)); refine blk_far ?_ NB206_216.out _; (with_reducible repeat (first | refine blk_drewN ?_ _ | refine blk_drew ?_ | refine blk_alloc ?_ _)); refine blk_far ?_ NB206_216.out _; (with_reducible repeat (first | refine blk_drewN ?_ _ | refine blk_drew ?_ | refine blk_alloc ?_ _)); refine blk_far ?_ NB206_216.out _; (with_reducible repeat (first | refine blk_drewN ?_ _ | refine blk_drew ?_ | refine blk_alloc ?_ _)); exact BK206.out⟩, ⟨by (with_reducible repeat (first | refine blk_drewN ?_ _ | refine blk_drew ?_ | refine blk_alloc ?_ _)); refine blk_far ?_ NB211_216.out _; (with_reducible repeat (first | refine blk_drewN ?_ _ | refine blk_drew ?_ | refine blk_alloc ?_ _)); refine blk_far ?_ NB211_216.out _; (with_reducible repeat (first | refine blk_drewN ?_ _ | refine blk_drew ?_ | refine blk_alloc ?_ _)); refine blk_far ?_ NB211_216.out _; (with_reducible repeat (first | refine blk_drewN ?_ _ | refine blk_drew ?_ | refine blk_alloc ?_ _)); exact BK211.out⟩, ⟨by (with_reducible repeat (first | refine blk_drewN ?_ _ | refine blk_drew ?_ | refine blk_alloc ?_ _)); refine blk_put (cs := #[.int .i64 t225, .int .i64 t226, .int .i64 t214]) ?_ 2 _ rfl; (with_reducible repeat (first | refine blk_drewN ?_ _ | refine blk_drew ?_ | refine blk_alloc ?_ _)); refine blk_put (cs := #[.int .i64 t225, .int .i64 t213, .int .i64 t214]) ?_ 1 _ rfl; (with_reducible repeat (first | refine blk_drewN ?_ _ | refine blk_drew ?_ | refine blk_alloc ?_ _)); refine blk_put (cs := #[.int .i64 t212, .int .i64 t213, .int .i64 t214]) ?_ 0 _ rfl; (with_reducible repeat (first | refine blk_drewN ?_ _ | refine blk_drew ?_ | refine blk_alloc ?_ _)); exact BK216.out⟩, ⟨by repeat (first | (with_reducible first | exact HB.out | apply below_alloc | apply pw_below_drewN | apply below_drew1 | refine below_set ?_ GE201.out | refine below_set ?_ GE206.out | refine below_set ?_ GE211.out | refine below_set ?_ GE216.out) | exact HB.out)⟩⟩
        case rest =>
          clear HC67
          try clear c1
          try clear c2
          try clear p2
          try clear c3
          try clear c4
          try clear c5
          try clear c6
          try clear c7
          try clear c8
          try clear c9
          try clear c10
          try clear c11
          try clear c16
          try clear c17
          try clear c22
          try clear c23
          try clear c24
          try clear c26
          try clear c26b0
          try clear c27
          try clear c28
          try clear c29
          try clear c30
          try clear c31
          try clear c32
          try clear c34
          try clear c34b0
          try clear c35
          try clear c36
          try clear c37
          try clear c39
          try clear c40
          try clear c42
          try clear c44
          try clear c44b0
          try clear c44b1
          try clear c45
          try clear c46
          try clear c47
          try clear c49
          try clear c50
          try clear c52
          try clear c54
          try clear c55
          try clear c56
          try clear c58
          try clear c59
          try clear c61
          try clear c63
          try clear c68
          try clear c69
          try clear c70
          try clear c73
          try clear c74
          try clear c78
          try clear c83
          try clear c83b0
          try clear c84
          try clear c85
          try clear c86
          try clear c88
          try clear c89
          try clear c91
          try clear c91b0
          try clear c92
          try clear c93
          try clear c94
          try clear c96
          try clear c97
          try clear c99
          try clear c101
          try clear c101b0
          try clear c101b1
          try clear c102
          try clear c103
          try clear c104
          try clear c106
          try clear c107
          try clear c109
          try clear c111
          try clear c112
          try clear c113
          try clear c115
          try clear c116
          try clear c118
          try clear hcz100_0
          try clear hcz100_1
          try clear hcz100_2
          try clear hcz105_0
          try clear hcz105_1
          try clear hcz105_2
          try clear hcz108_0
          try clear hcz108_1
          try clear hcz108_2
          try clear hcz110_0
          try clear hcz110_1
          try clear hcz110_2
          try clear hcz114_0
          try clear hcz114_1
          try clear hcz114_2
          try clear hcz117_0
          try clear hcz117_1
          try clear hcz117_2
          try clear hcz119_0
          try clear hcz119_1
          try clear hcz119_2
          try clear hcz12_0
          try clear hcz12_1
          try clear hcz12_2
          try clear hcz13_0
          try clear hcz13_1
          try clear hcz13_2
          try clear hcz18_0
          try clear hcz18_1
          try clear hcz18_2
          try clear hcz19_0
          try clear hcz19_1
          try clear hcz19_2
          try clear hcz25_0
          try clear hcz25_1
          try clear hcz25_2
          try clear hcz30_0
          try clear hcz30_1
          try clear hcz30_2
          try clear hcz33_0
          try clear hcz33_1
          try clear hcz33_2
          try clear hcz38_0
          try clear hcz38_1
          try clear hcz38_2
          try clear hcz41_0
          try clear hcz41_1
          try clear hcz41_2
          try clear hcz43_0
          try clear hcz43_1
          try clear hcz43_2
          try clear hcz48_0
          try clear hcz48_1
          try clear hcz48_2
          try clear hcz51_0
          try clear hcz51_1
          try clear hcz51_2
          try clear hcz53_0
          try clear hcz53_1
          try clear hcz53_2
          try clear hcz57_0
          try clear hcz57_1
          try clear hcz57_2
          try clear hcz60_0
          try clear hcz60_1
          try clear hcz60_2
          try clear hcz62_0
          try clear hcz62_1
          try clear hcz62_2
          try clear hcz71_0
          try clear hcz71_1
          try clear hcz71_2
          try clear hcz75_0
          try clear hcz75_1
          try clear hcz75_2
          try clear hcz76_0
          try clear hcz76_1
          try clear hcz76_2
          try clear hcz79_0
          try clear hcz79_1
          try clear hcz79_2
          try clear hcz80_0
          try clear hcz80_1
          try clear hcz80_2
          try clear hcz82_0
          try clear hcz82_1
          try clear hcz82_2
          try clear hcz87_0
          try clear hcz87_1
          try clear hcz87_2
          try clear hcz8_0
          try clear hcz8_1
          try clear hcz8_2
          try clear hcz90_0
          try clear hcz90_1
          try clear hcz90_2
          try clear hcz95_0
          try clear hcz95_1
          try clear hcz95_2
          try clear hcz98_0
          try clear hcz98_1
          try clear hcz98_2
          try clear hfz100_0
          try clear hfz100_1
          try clear hfz100_2
          try clear hfz105_0
          try clear hfz105_1
          try clear hfz105_2
          try clear hfz108_0
          try clear hfz108_1
          try clear hfz108_2
          try clear hfz110_0
          try clear hfz110_1
          try clear hfz110_2
          try clear hfz114_0
          try clear hfz114_1
          try clear hfz114_2
          try clear hfz117_0
          try clear hfz117_1
          try clear hfz117_2
          try clear hfz119_0
          try clear hfz119_1
          try clear hfz119_2
          try clear hfz12_0
          try clear hfz12_1
          try clear hfz12_2
          try clear hfz13_0
          try clear hfz13_1
          try clear hfz13_2
          try clear hfz18_0
          try clear hfz18_1
          try clear hfz18_2
          try clear hfz19_0
          try clear hfz19_1
          try clear hfz19_2
          try clear hfz25_0
          try clear hfz25_1
          try clear hfz25_2
          try clear hfz30_0
          try clear hfz30_1
          try clear hfz30_2
          try clear hfz33_0
          try clear hfz33_1
          try clear hfz33_2
          try clear hfz38_0
          try clear hfz38_1
          try clear hfz38_2
          try clear hfz41_0
          try clear hfz41_1
          try clear hfz41_2
          try clear hfz43_0
          try clear hfz43_1
          try clear hfz43_2
          try clear hfz48_0
          try clear hfz48_1
          try clear hfz48_2
          try clear hfz51_0
          try clear hfz51_1
          try clear hfz51_2
          try clear hfz53_0
          try clear hfz53_1
          try clear hfz53_2
          try clear hfz57_0
          try clear hfz57_1
          try clear hfz57_2
          try clear hfz60_0
          try clear hfz60_1
          try clear hfz60_2
          try clear hfz62_0
          try clear hfz62_1
          try clear hfz62_2
          try clear hfz71_0
          try clear hfz71_1
          try clear hfz71_2
          try clear hfz75_0
          try clear hfz75_1
          try clear hfz75_2
          try clear hfz76_0
          try clear hfz76_1
          try clear hfz76_2
          try clear hfz79_0
          try clear hfz79_1
          try clear hfz79_2
          try clear hfz80_0
          try clear hfz80_1
          try clear hfz80_2
          try clear hfz82_0
          try clear hfz82_1
          try clear hfz82_2
          try clear hfz87_0
          try clear hfz87_1
          try clear hfz87_2
          try clear hfz8_0
          try clear hfz8_1
          try clear hfz8_2
          try clear hfz90_0
          try clear hfz90_1
          try clear hfz90_2
          try clear hfz95_0
          try clear hfz95_1
          try clear hfz95_2
          try clear hfz98_0
          try clear hfz98_1
          try clear hfz98_2
          try clear p2
          obtain ⟨kq, x82_66, rfl, HA, HJ66, BK201, BK206, BK211, BK216, HB⟩ := hcut
          cases kq with
          | zero => exact absurd HA.out (by simp [lienlaw20_RightsCounts.j1])
          | succ kj66 =>
            have H := HA.out
            clear HA
            simp only [lienlaw20_RightsCounts.j1] at H
            by_cases c120 : x82_66 = true
            · subst c120
              have H1 : (some false) = some r := by rw [if_pos rfl] at H; exact H
              clear H
              have H := H1
              clear H1
              exact absurd ((Option.some.inj H).trans hr_.out) (by decide)
            · replace c120 := Bool.eq_false_iff.mpr c120
              subst c120
              have H1 : ((rights_Quota.f a0_0 a0_1 a0_2 a1).bind fun bt229 => ((lienref20_Quota.f a0_0 a0_1 a0_2 a1).bind fun bt233 => (if (bt229.1 == bt233.1 && (bt229.2.1 == bt233.2.1 && (bt229.2.2.1 == bt233.2.2.1))) = true then (if bt229.2.2.2 = bt233.2.2.2 then ((lienlaw20_awake.f kj66).bind fun t237 => (some t237)) else (some false)) else (some false)))) = some r := by rw [if_neg (show ¬ (false = true) by decide)] at H; exact H
              clear H
              have H := H1
              clear H1
              replace H := Option.bind_eq_some_iff.mp H
              obtain ⟨⟨t229, t230, t231, t232⟩, A1210, H⟩ := H
              replace H : ((lienref20_Quota.f a0_0 a0_1 a0_2 a1).bind fun bt233 => (if (t229 == bt233.1 && (t230 == bt233.2.1 && (t231 == bt233.2.2.1))) = true then (if t232 = bt233.2.2.2 then ((lienlaw20_awake.f kj66).bind fun t237 => (some t237)) else (some false)) else (some false))) = some r := H
              have A121 := Aside0.mk A1210
              clear A1210
              replace H := Option.bind_eq_some_iff.mp H
              obtain ⟨⟨t233, t234, t235, t236⟩, A1220, H⟩ := H
              replace H : (if (t229 == t233 && (t230 == t234 && (t231 == t235))) = true then (if t232 = t236 then ((lienlaw20_awake.f kj66).bind fun t237 => (some t237)) else (some false)) else (some false)) = some r := H
              have A122 := Aside0.mk A1220
              clear A1220
              by_cases c123 : (t229 == t233 && (t230 == t234 && (t231 == t235))) = true
              · rw [if_pos c123] at H
                have c123b0 : (t229 == t233 && (t230 == t234 && (t231 == t235))) = true := c123
                (try (have c123b1 : decide (t229 = t233 && (t230 == t234 && (t231 == t235))) = true := by simpa using c123))
                (try (have c123b2 : (t229 == t233 && (t230 == t234 && (t231 == t235))) = true := by simpa using c123))
                clear c123
                by_cases c124 : t232 = t236
                · rw [if_pos c124] at H
                  have c124b0 : (t232 == t236) = true := beq_iff_eq.mpr c124
                  have c124b1 : (t232 != t236) = false := bne_eq_false_iff_eq.mpr c124
                  clear c124
                  replace H := Option.bind_eq_some_iff.mp H
                  obtain ⟨t237, A1250, H⟩ := H
                  replace H : (some t237) = some r := H
                  have A125 := Aside0.mk A1250
                  clear A1250
                  obtain rfl := Option.some.inj H
                  have hnb126 := NB201_206.out
                  have hnc126 := NB206_201.out
                  have hnb127 := NB201_211.out
                  have hnc127 := NB211_201.out
                  have hnb128 := NB201_216.out
                  have hnc128 := NB216_201.out
                  have hcz129_0 : wc.cell? ⟨gb201, 0, none⟩ = some (.int .i64 a0_0) := (blk_cell BK201.out 0).trans rfl
                  have hcz129_1 : wc.cell? ⟨gb201, 1, none⟩ = some (.int .i64 a0_1) := (blk_cell BK201.out 1).trans rfl
                  have hcz129_2 : wc.cell? ⟨gb201, 2, none⟩ = some (.int .i64 a0_2) := (blk_cell BK201.out 2).trans rfl
                  have hfz129_0 := blk_frozen BK201.out 0
                  have hfz129_1 := blk_frozen BK201.out 1
                  have hfz129_2 := blk_frozen BK201.out 2
                  go_wp2_with (first | ((with_reducible refine gate_callee (f := 32) rfl ?_); refine goesL_ (some 86) rfl rfl Try.func32 (by kernel_rfl) rfl #[.agg #[.int .i64 a0_0, .int .i64 a0_1, .int .i64 a0_2], .int .i64 a1] rfl (by (try simp only [List.map_toArray, List.map_cons, List.map_nil]); first | done | rfl | (simp only [List.length_drop, List.length_take]; rfl)) ?_; (with_reducible refine (rights_Quota.calls a0_0 a0_1 a0_2 a1 t229 t230 t231 t232 _ A121.out).mono ?_); rintro e w130 ⟨rfl, hb⟩; refine ⟨_, rfl, ?_⟩; have n0_ := Aside0.mk (blk_below (g := gb201) (o := .cells #[.int .i64 a0_0, .int .i64 a0_1, .int .i64 a0_2] 23 (0, 0)) (by (with_reducible repeat (first | refine blk_drewN ?_ _ | refine blk_drew ?_ | refine blk_alloc ?_ _)); exact BK201.out) hb); have n1_ := Aside0.mk (blk_below (g := gb206) (o := .cells #[.int .i64 t217, .int .i64 t218, .int .i64 t219] 23 (0, 0)) (by (with_reducible repeat (first | refine blk_drewN ?_ _ | refine blk_drew ?_ | refine blk_alloc ?_ _)); exact BK206.out) hb); have n2_ := Aside0.mk (blk_below (g := gb211) (o := .cells #[.int .i64 t221, .int .i64 t222, .int .i64 t223] 23 (0, 0)) (by (with_reducible repeat (first | refine blk_drewN ?_ _ | refine blk_drew ?_ | refine blk_alloc ?_ _)); exact BK211.out) hb); have n3_ := Aside0.mk (blk_below (g := gb216) (o := .cells #[.int .i64 t225, .int .i64 t226, .int .i64 t227] 23 (0, 0)) (by (with_reducible repeat (first | refine blk_drewN ?_ _ | refine blk_drew ?_ | refine blk_alloc ?_ _)); exact BK216.out) hb); have n4_ := Aside0.mk (below_step (by repeat (first | (with_reducible first | exact HB.out | apply below_alloc | apply pw_below_drewN | apply below_drew1 | refine below_set ?_ GE201.out | refine below_set ?_ GE206.out | refine below_set ?_ GE211.out | refine below_set ?_ GE216.out) | exact HB.out)) hb); clear BK201; clear BK206; clear BK211; clear BK216; clear HB; have BK201 := n0_; have BK206 := n1_; have BK211 := n2_; have BK216 := n3_; have HB := n4_; clear n0_ n1_ n2_ n3_ n4_; (try clear hb); (try clear hb2); (try clear hk); (try clear hi); have hnb131 := NB206_211.out; have hnc131 := NB211_206.out; have hnb132 := NB206_216.out; have hnc132 := NB216_206.out; have hcz133_0 : w130.cell? ⟨gb206, 0, none⟩ = some (.int .i64 t217) := (blk_cell BK206.out 0).trans rfl; have hcz133_1 : w130.cell? ⟨gb206, 1, none⟩ = some (.int .i64 t218) := (blk_cell BK206.out 1).trans rfl; have hcz133_2 : w130.cell? ⟨gb206, 2, none⟩ = some (.int .i64 t219) := (blk_cell BK206.out 2).trans rfl; have hfz133_0 := blk_frozen BK206.out 0; have hfz133_1 := blk_frozen BK206.out 1; have hfz133_2 := blk_frozen BK206.out 2; have hcz134_0 : w130.cell? ⟨gb201, 0, none⟩ = some (.int .i64 a0_0) := (blk_cell BK201.out 0).trans rfl; have hcz134_1 : w130.cell? ⟨gb201, 1, none⟩ = some (.int .i64 a0_1) := (blk_cell BK201.out 1).trans rfl; have hcz134_2 : w130.cell? ⟨gb201, 2, none⟩ = some (.int .i64 a0_2) := (blk_cell BK201.out 2).trans rfl; have hfz134_0 := blk_frozen BK201.out 0; have hfz134_1 := blk_frozen BK201.out 1; have hfz134_2 := blk_frozen BK201.out 2) | ((with_reducible refine gate_callee (f := 33) rfl ?_); refine goesL_ (some 92) rfl rfl Try.func33 (by kernel_rfl) rfl #[.agg #[.int .i64 a0_0, .int .i64 a0_1, .int .i64 a0_2], .int .i64 a1] rfl (by (try simp only [List.map_toArray, List.map_cons, List.map_nil]); first | done | rfl | (simp only [List.length_drop, List.length_take]; rfl)) ?_; (with_reducible refine (lienref20_Quota.calls a0_0 a0_1 a0_2 a1 t233 t234 t235 t236 _ A122.out).mono ?_); rintro e w135 ⟨rfl, hb⟩; refine ⟨_, rfl, ?_⟩; have n0_ := Aside0.mk (blk_below (g := gb201) (o := .cells #[.int .i64 a0_0, .int .i64 a0_1, .int .i64 a0_2] 23 (0, 0)) (by (with_reducible repeat (first | refine blk_drewN ?_ _ | refine blk_drew ?_ | refine blk_alloc ?_ _)); refine blk_far ?_ NB201_206.out _; (with_reducible repeat (first | refine blk_drewN ?_ _ | refine blk_drew ?_ | refine blk_alloc ?_ _)); refine blk_far ?_ NB201_206.out _; (with_reducible repeat (first | refine blk_drewN ?_ _ | refine blk_drew ?_ | refine blk_alloc ?_ _)); refine blk_far ?_ NB201_206.out _; (with_reducible repeat (first | refine blk_drewN ?_ _ | refine blk_drew ?_ | refine blk_alloc ?_ _)); exact BK201.out) hb); have n1_ := Aside0.mk (blk_below (g := gb206) (o := .cells #[.int .i64 t229, .int .i64 t230, .int .i64 t231] 23 (0, 0)) (by (with_reducible repeat (first | refine blk_drewN ?_ _ | refine blk_drew ?_ | refine blk_alloc ?_ _)); refine blk_put (cs := #[.int .i64 t229, .int .i64 t230, .int .i64 t219]) ?_ 2 _ rfl; (with_reducible repeat (first | refine blk_drewN ?_ _ | refine blk_drew ?_ | refine blk_alloc ?_ _)); refine blk_put (cs := #[.int .i64 t229, .int .i64 t218, .int .i64 t219]) ?_ 1 _ rfl; (with_reducible repeat (first | refine blk_drewN ?_ _ | refine blk_drew ?_ | refine blk_alloc ?_ _)); refine blk_put (cs := #[.int .i64 t217, .int .i64 t218, .int .i64 t219]) ?_ 0 _ rfl; (with_reducible repeat (first | refine blk_drewN ?_ _ | refine blk_drew ?_ | refine blk_alloc ?_ _)); exact BK206.out) hb); have n2_ := Aside0.mk (blk_below (g := gb211) (o := .cells #[.int .i64 t221, .int .i64 t222, .int .i64 t223] 23 (0, 0)) (by (with_reducible repeat (first | refine blk_drewN ?_ _ | refine blk_drew ?_ | refine blk_alloc ?_ _)); refine blk_far ?_ NB211_206.out _; (with_reducible repeat (first | refine blk_drewN ?_ _ | refine blk_drew ?_ | refine blk_alloc ?_ _)); refine blk_far ?_ NB211_206.out _; (with_reducible repeat (first | refine blk_drewN ?_ _ | refine blk_drew ?_ | refine blk_alloc ?_ _)); refine blk_far ?_ NB211_206.out _; (with_reducible repeat (first | refine blk_drewN ?_ _ | refine blk_drew ?_ | refine blk_alloc ?_ _)); exact BK211.out) hb); have n3_ := Aside0.mk (blk_below (g := gb216) (o := .cells #[.int .i64 t225, .int .i64 t226, .int .i64 t227] 23 (0, 0)) (by (with_reducible repeat (first | refine blk_drewN ?_ _ | refine blk_drew ?_ | refine blk_alloc ?_ _)); refine blk_far ?_ NB216_206.out _; (with_reducible repeat (first | refine blk_drewN ?_ _ | refine blk_drew ?_ | refine blk_alloc ?_ _)); refine blk_far ?_ NB216_206.out _; (with_reducible repeat (first | refine blk_drewN ?_ _ | refine blk_drew ?_ | refine blk_alloc ?_ _)); refine blk_far ?_ NB216_206.out _; (with_reducible repeat (first | refine blk_drewN ?_ _ | refine blk_drew ?_ | refine blk_alloc ?_ _)); exact BK216.out) hb); have n4_ := Aside0.mk (below_step (by repeat (first | (with_reducible first | exact HB.out | apply below_alloc | apply pw_below_drewN | apply below_drew1 | refine below_set ?_ GE201.out | refine below_set ?_ GE206.out | refine below_set ?_ GE211.out | refine below_set ?_ GE216.out) | exact HB.out)) hb); clear BK201; clear BK206; clear BK211; clear BK216; clear HB; have BK201 := n0_; have BK206 := n1_; have BK211 := n2_; have BK216 := n3_; have HB := n4_; clear n0_ n1_ n2_ n3_ n4_; (try clear hb); (try clear hb2); (try clear hk); (try clear hi); have hnb136 := NB216_211.out; have hnc136 := NB211_216.out; have hcz137_0 : w135.cell? ⟨gb216, 0, none⟩ = some (.int .i64 t225) := (blk_cell BK216.out 0).trans rfl; have hcz137_1 : w135.cell? ⟨gb216, 1, none⟩ = some (.int .i64 t226) := (blk_cell BK216.out 1).trans rfl; have hcz137_2 : w135.cell? ⟨gb216, 2, none⟩ = some (.int .i64 t227) := (blk_cell BK216.out 2).trans rfl; have hfz137_0 := blk_frozen BK216.out 0; have hfz137_1 := blk_frozen BK216.out 1; have hfz137_2 := blk_frozen BK216.out 2; have hcz138_0 : w135.cell? ⟨gb206, 0, none⟩ = some (.int .i64 t229) := (blk_cell BK206.out 0).trans rfl; have hcz138_1 : w135.cell? ⟨gb206, 1, none⟩ = some (.int .i64 t230) := (blk_cell BK206.out 1).trans rfl; have hcz138_2 : w135.cell? ⟨gb206, 2, none⟩ = some (.int .i64 t231) := (blk_cell BK206.out 2).trans rfl; have hfz138_0 := blk_frozen BK206.out 0; have hfz138_1 := blk_frozen BK206.out 1; have hfz138_2 := blk_frozen BK206.out 2) | (go_at_call 15; (with_reducible refine (lienlaw20_awake.calls kj66  t237 _ A125.out).mono ?_); rintro e w139 ⟨rfl, hb⟩; have n0_ := Aside0.mk (blk_below (g := gb201) (o := .cells #[.int .i64 a0_0, .int .i64 a0_1, .int .i64 a0_2] 23 (0, 0)) (by (with_reducible repeat (first | refine blk_drewN ?_ _ | refine blk_drew ?_ | refine blk_alloc ?_ _)); refine blk_far ?_ NB201_216.out _; (with_reducible repeat (first | refine blk_drewN ?_ _ | refine blk_drew ?_ | refine blk_alloc ?_ _)); refine blk_far ?_ NB201_216.out _; (with_reducible repeat (first | refine blk_drewN ?_ _ | refine blk_drew ?_ | refine blk_alloc ?_ _)); refine blk_far ?_ NB201_216.out _; (with_reducible repeat (first | refine blk_drewN ?_ _ | refine blk_drew ?_ | refine blk_alloc ?_ _)); exact BK201.out) hb); have n1_ := Aside0.mk (blk_below (g := gb206) (o := .cells #[.int .i64 t229, .int .i64 t230, .int .i64 t231] 23 (0, 0)) (by (with_reducible repeat (first | refine blk_drewN ?_ _ | refine blk_drew ?_ | refine blk_alloc ?_ _)); refine blk_far ?_ NB206_216.out _; (with_reducible repeat (first | refine blk_drewN ?_ _ | refine blk_drew ?_ | refine blk_alloc ?_ _)); refine blk_far ?_ NB206_216.out _; (with_reducible repeat (first | refine blk_drewN ?_ _ | refine blk_drew ?_ | refine blk_alloc ?_ _)); refine blk_far ?_ NB206_216.out _; (with_reducible repeat (first | refine blk_drewN ?_ _ | refine blk_drew ?_ | refine blk_alloc ?_ _)); exact BK206.out) hb); have n2_ := Aside0.mk (blk_below (g := gb211) (o := .cells #[.int .i64 t221, .int .i64 t222, .int .i64 t223] 23 (0, 0)) (by (with_reducible repeat (first | refine blk_drewN ?_ _ | refine blk_drew ?_ | refine blk_alloc ?_ _)); refine blk_far ?_ NB211_216.out _; (with_reducible repeat (first | refine blk_drewN ?_ _ | refine blk_drew ?_ | refine blk_alloc ?_ _)); refine blk_far ?_ NB211_216.out _; (with_reducible repeat (first | refine blk_drewN ?_ _ | refine blk_drew ?_ | refine blk_alloc ?_ _)); refine blk_far ?_ NB211_216.out _; (with_reducible repeat (first | refine blk_drewN ?_ _ | refine blk_drew ?_ | refine blk_alloc ?_ _)); exact BK211.out) hb); have n3_ := Aside0.mk (blk_below (g := gb216) (o := .cells #[.int .i64 t233, .int .i64 t234, .int .i64 t235] 23 (0, 0)) (by (with_reducible repeat (first | refine blk_drewN ?_ _ | refine blk_drew ?_ | refine blk_alloc ?_ _)); refine blk_put (cs := #[.int .i64 t233, .int .i64 t234, .int .i64 t227]) ?_ 2 _ rfl; (with_reducible repeat (first | refine blk_drewN ?_ _ | refine blk_drew ?_ | refine blk_alloc ?_ _)); refine blk_put (cs := #[.int .i64 t233, .int .i64 t226, .int .i64 t227]) ?_ 1 _ rfl; (with_reducible repeat (first | refine blk_drewN ?_ _ | refine blk_drew ?_ | refine blk_alloc ?_ _)); refine blk_put (cs := #[.int .i64 t225, .int .i64 t226, .int .i64 t227]) ?_ 0 _ rfl; (with_reducible repeat (first | refine blk_drewN ?_ _ | refine blk_drew ?_ | refine blk_alloc ?_ _)); exact BK216.out) hb); have n4_ := Aside0.mk (below_step (by repeat (first | (with_reducible first | exact HB.out | apply below_alloc | apply pw_below_drewN | apply below_drew1 | refine below_set ?_ GE201.out | refine below_set ?_ GE206.out | refine below_set ?_ GE211.out | refine below_set ?_ GE216.out) | exact HB.out)) hb); clear BK201; clear BK206; clear BK211; clear BK216; clear HB; have BK201 := n0_; have BK206 := n1_; have BK211 := n2_; have BK216 := n3_; have HB := n4_; clear n0_ n1_ n2_ n3_ n4_; (try clear hb); (try clear hb2); (try clear hk); (try clear hi)))
                  go_ret
                  exact ⟨by first | rfl | (simp [errW_none, errW_some] <;> rfl) | (simp [*, errW_none, errW_some] <;> rfl), by repeat (first | (with_reducible first | exact HB.out | apply below_alloc | apply pw_below_drewN | apply below_drew1 | refine below_set ?_ GE201.out | refine below_set ?_ GE206.out | refine below_set ?_ GE211.out | refine below_set ?_ GE216.out) | exact HB.out)⟩
                · rw [if_neg c124] at H
                  have c124b0 : (t232 == t236) = false := beq_eq_false_iff_ne.mpr c124
                  have c124b1 : (t232 != t236) = true := bne_iff_ne.mpr c124
                  exact absurd ((Option.some.inj H).trans hr_.out) (by decide)
              · rw [if_neg c123] at H
                have c123b0 : (t229 == t233 && (t230 == t234 && (t231 == t235))) = false := by simpa using c123
                (try (have c123b1 : decide (t229 = t233 && (t230 == t234 && (t231 == t235))) = false := by simpa using c123))
                (try (have c123b2 : (t229 == t233 && (t230 == t234 && (t231 == t235))) = false := by simpa using c123))
                (try (have c123b3 : ¬ (t229 = t233 && (t230 == t234 && (t231 == t235))) := by simpa using c123))
                clear c123
                exact absurd ((Option.some.inj H).trans hr_.out) (by decide)

/-- THE ONE PURE STATEMENT of lienlaw20_RightsCounts: yours. -/
def lienlaw20_RightsCounts.Pure : Prop := ∀ (a0_0 : Int) (a0_1 : Int) (a0_2 : Int) (a1 : Int), ((Lit.int .i64 a0_0).wf = true) → ((Lit.int .i64 a0_1).wf = true) → ((Lit.int .i64 a0_2).wf = true) → ((Lit.int .i64 a1).wf = true) → ∃ k, lienlaw20_RightsCounts.f k a0_0 a0_1 a0_2 a1 = some true

end Go.Proofs.Ytaodgncldakhgaa.PRightsCounts
