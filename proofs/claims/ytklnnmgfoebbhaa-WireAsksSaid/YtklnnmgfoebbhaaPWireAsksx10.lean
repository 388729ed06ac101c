-- Written by wip/xprint of this repo (our own program) out of the translation; what is marked BY HAND is ours. Not trusted: Lean checks it.
import Derived.Test.YtklnnmgfoebbhaaPWireAsksx0
import Derived.Test.YtklnnmgfoebbhaaPWireAsksx2
import Derived.Test.YtklnnmgfoebbhaaPWireAsksx3
import Derived.Test.YtklnnmgfoebbhaaPWireAsksx4
import Derived.Test.YtklnnmgfoebbhaaPWireAsksx5
import Derived.Test.YtklnnmgfoebbhaaPWireAsksx6
import Derived.Test.YtklnnmgfoebbhaaPWireAsksx8
import Derived.Test.YtklnnmgfoebbhaaPWireAsksx9
namespace Go.Proofs.Ytklnnmgfoebbhaa.PWireAsks
open Go.RowKit Go.Proofs.YtklnnmgfoebbhaaW.PrintWords Go.Proofs.YtklnnmgfoebbhaaW.PrintLast Go.Proofs.YtklnnmgfoebbhaaW.PrintMore
attribute [local go_sem] max2_int min2_int max_two min_two max_three min_three max_four min_four   -- for this text's walks alone
set_option linter.unusedVariables false
set_option linter.unusedSimpArgs false

attribute [local go_sem high] eqA37
/-! ### lienref22_Bytes: function 16 -/
def lienref22_Bytes.j0 : Nat → List (S62) → Bool → Int → ByteArray → Int → Int → Int → Int → Int → Option (List Int × Int)
  | 0, _, _, _, _, _, _, _, _, _ => none
  | k + 1, x4, x22, x301000, x301001, x301002, x301003, x301004, x301005, x301006 => if x22 = true then (some (([] : List Int), 220)) else ((lienref22_row.f k x301000 x4).bind fun bt312 => (if bt312.2 = true then (some (bt312.1, 0)) else (some (([] : List Int), 220))))
def lienref22_Bytes.f (k : Nat) (a0_0 : Int) (a0_1 : ByteArray) (a0_2 : Int) (a0_3 : Int) (a0_4 : Int) (a0_5 : Int) (a0_6 : Int) : Option (List Int × Int) := (lienref22_fields.f k a0_0 a0_1 a0_2 a0_3 a0_4 a0_5 a0_6).bind fun bt301 => (if bt301.2 = true then ((lienref22_made.f k a0_0 bt301.1).bind fun bt305 => (lienref22_Bytes.j0 k bt301.1 (!(bt305.1 == a0_0) || (!(bt305.2.1.toList == a0_1.toList) || (!(bt305.2.2.1 == a0_2) || (!(bt305.2.2.2.1 == a0_3) || (!(bt305.2.2.2.2.1 == a0_4) || (!(bt305.2.2.2.2.2.1 == a0_5) || (!(bt305.2.2.2.2.2.2 == a0_6)))))))) a0_0 a0_1 a0_2 a0_3 a0_4 a0_5 a0_6)) else (lienref22_Bytes.j0 k bt301.1 true a0_0 a0_1 a0_2 a0_3 a0_4 a0_5 a0_6))
theorem lienref22_Bytes.mono_l : ∀ k, (∀ y0 y1 y2 y3 y4 y5 y6 y7 y8, LeO (lienref22_Bytes.j0 k y0 y1 y2 y3 y4 y5 y6 y7 y8) (lienref22_Bytes.j0 (k + 1) y0 y1 y2 y3 y4 y5 y6 y7 y8))
  | 0 => fun _ _ _ _ _ _ _ _ _ r h => by simp [lienref22_Bytes.j0] at h
  | k + 1 => by
    have ih0 := lienref22_Bytes.mono_l k
    · intro y0 y1 y2 y3 y4 y5 y6 y7 y8
      unfold lienref22_Bytes.j0
      repeat' first
      | (with_reducible exact ih0 _ _ _ _ _ _ _ _ _)
      | (with_reducible exact lienref22_fields.mono _ _ _ _ _ _ _ _)
      | (with_reducible exact lienref22_made.mono _ _ _)
      | (with_reducible exact lienref22_row.mono _ _ _)
      | (with_reducible exact LeO.refl _)
      | (with_reducible exact LeO.none _)
      | (with_reducible refine LeO.ite ?_ ?_)
      | (with_reducible refine LeO.bind ?_ (fun _ => ?_))
      | exact ih0 _ _ _ _ _ _ _ _ _
      | exact lienref22_fields.mono _ _ _ _ _ _ _ _
      | exact lienref22_made.mono _ _ _
      | exact lienref22_row.mono _ _ _
      | exact LeO.none _
      | refine LeO.ite ?_ ?_
      | refine LeO.bind ?_ (fun _ => ?_)
theorem lienref22_Bytes.mono : ∀ a0 a1 a2 a3 a4 a5 a6 k, LeO (lienref22_Bytes.f k a0 a1 a2 a3 a4 a5 a6) (lienref22_Bytes.f (k + 1) a0 a1 a2 a3 a4 a5 a6) := by
  intro a0 a1 a2 a3 a4 a5 a6 k
  have ih0 := lienref22_Bytes.mono_l k
  unfold lienref22_Bytes.f
  repeat' first
      | (with_reducible exact ih0 _ _ _ _ _ _ _ _ _)
      | (with_reducible exact lienref22_fields.mono _ _ _ _ _ _ _ _)
      | (with_reducible exact lienref22_made.mono _ _ _)
      | (with_reducible exact lienref22_row.mono _ _ _)
      | (with_reducible exact LeO.refl _)
      | (with_reducible exact LeO.none _)
      | (with_reducible refine LeO.ite ?_ ?_)
      | (with_reducible refine LeO.bind ?_ (fun _ => ?_))
      | exact ih0 _ _ _ _ _ _ _ _ _
      | exact lienref22_fields.mono _ _ _ _ _ _ _ _
      | exact lienref22_made.mono _ _ _
      | exact lienref22_row.mono _ _ _
      | exact LeO.none _
      | refine LeO.ite ?_ ?_
      | refine LeO.bind ?_ (fun _ => ?_)
def lienref22_Bytes.T2 : Bool × List (List Nat × List Nat) := (true, [([], []), ([0], [0]), ([1], [1]), ([2], [2]), ([3, 2], [2, 3]), ([2], [2]), ([4, 5, 2, 2], [2, 4, 5]), ([2], [2]), ([6, 7, 2], [2, 6, 7]), ([2, 8], [2, 8])])
def lienref22_Bytes.B2 : List Nat := [0, 1, 3, 7, 15, 7, 63, 7, 255, 511]
theorem lienref22_Bytes.tab2 : rtab .any (opsOf Try.f16 2) = lienref22_Bytes.T2 := by kernel_rfl
theorem lienref22_Bytes.bits2 : waitsOk lienref22_Bytes.T2.2 lienref22_Bytes.B2 = true := by kernel_rfl
set_option maxHeartbeats 8000000 in
set_option maxRecDepth 100000 in
theorem lienref22_Bytes.calls (k : Nat) (a0_0 : Int) (a0_1 : ByteArray) (a0_2 : Int) (a0_3 : Int) (a0_4 : Int) (a0_5 : Int) (a0_6 : Int) (r1 : List Int) (r2 : Int) (w : World) (h : lienref22_Bytes.f k a0_0 a0_1 a0_2 a0_3 a0_4 a0_5 a0_6 = some (r1, r2)) :
    Calls Try.prog 16 #[.agg #[.int .i64 a0_0, .string a0_1, .int .i64 a0_2, .int .i64 a0_3, .int .i64 a0_4, .int .i64 a0_5, .int .i64 a0_6]] w fun e w' => ∃ v0_ : Value, e = .returned (.tuple #[v0_, .int .i64 r2]) ∧ Kd.R (Kd.int .u8) 5 w' w.heap.size (fun _ => True) v0_ r1 ∧ Below w.heap.size w w' := by
  have hu37 := Try.underlying37
  have HB := Aside0.mk (Below.refl w.heap.size w)
  have H : ((lienref22_fields.f k a0_0 a0_1 a0_2 a0_3 a0_4 a0_5 a0_6).bind fun bt301 => (if bt301.2 = true then ((lienref22_made.f k a0_0 bt301.1).bind fun bt305 => (lienref22_Bytes.j0 k bt301.1 (!(bt305.1 == a0_0) || (!(bt305.2.1.toList == a0_1.toList) || (!(bt305.2.2.1 == a0_2) || (!(bt305.2.2.2.1 == a0_3) || (!(bt305.2.2.2.2.1 == a0_4) || (!(bt305.2.2.2.2.2.1 == a0_5) || (!(bt305.2.2.2.2.2.2 == a0_6)))))))) a0_0 a0_1 a0_2 a0_3 a0_4 a0_5 a0_6)) else (lienref22_Bytes.j0 k bt301.1 true a0_0 a0_1 a0_2 a0_3 a0_4 a0_5 a0_6))) = some (r1, r2) := h
  clear h
  replace H := Option.bind_eq_some_iff.mp H
  obtain ⟨⟨t301, t304⟩, A20, H⟩ := H
  replace H : (if t304 = true then ((lienref22_made.f k a0_0 t301).bind fun bt305 => (lienref22_Bytes.j0 k t301 (!(bt305.1 == a0_0) || (!(bt305.2.1.toList == a0_1.toList) || (!(bt305.2.2.1 == a0_2) || (!(bt305.2.2.2.1 == a0_3) || (!(bt305.2.2.2.2.1 == a0_4) || (!(bt305.2.2.2.2.2.1 == a0_5) || (!(bt305.2.2.2.2.2.2 == a0_6)))))))) a0_0 a0_1 a0_2 a0_3 a0_4 a0_5 a0_6)) else (lienref22_Bytes.j0 k t301 true a0_0 a0_1 a0_2 a0_3 a0_4 a0_5 a0_6)) = some (r1, r2) := H
  have A2 := Aside0.mk A20
  clear A20
  have HC3 := Aside0.mk H
  clear H
  go_enter Try.func16, Try.ntmps16
  go_upto_region 2 with (first | ((with_reducible refine gate_dst (N := 1) rfl ?_); refine box_event ?hg (N := 1) ?hd (cs := #[.int .i64 a0_0, .string a0_1, .int .i64 a0_2, .int .i64 a0_3, .int .i64 a0_4, .int .i64 a0_5, .int .i64 a0_6]) (t := 37) ?hr ?_; (case hd => rfl); (case hg => rfl); (case hr => first | (go_simp; done) | (go_simp; rfl)); intro gb300 hg w4 hbox hb; have n0_ := Aside0.mk (below_step (by repeat (first | (with_reducible first | exact HB.out | apply below_alloc | apply pw_below_drewN | apply below_drew1) | exact HB.out)) hb); have n1_ := Aside0.mk (hbox); have n2_ := Aside0.mk ((by rw [hg]; exact (below_size (by repeat (first | (with_reducible first | exact HB.out | apply below_alloc | apply pw_below_drewN | apply below_drew1) | exact HB.out))) : w.heap.size ≤ gb300)); have n3_ := Aside0.mk ((by rw [hg]; exact (below_size (by repeat (first | (with_reducible first | exact HB.out | apply below_alloc | apply pw_below_drewN | apply below_drew1) | exact HB.out))) : w.heap.size ≤ gb300)); clear HB; have HB := n0_; have BK300 := n1_; have GW300 := n2_; have GE300 := n3_; clear n0_ n1_ n2_ n3_; clear hb hbox hg; have hcz5_0 : w4.cell? ⟨gb300, 0, none⟩ = some (.int .i64 a0_0) := (blk_cell BK300.out 0).trans rfl; have hcz5_1 : w4.cell? ⟨gb300, 1, none⟩ = some (.string a0_1) := (blk_cell BK300.out 1).trans rfl; have hcz5_2 : w4.cell? ⟨gb300, 2, none⟩ = some (.int .i64 a0_2) := (blk_cell BK300.out 2).trans rfl; have hcz5_3 : w4.cell? ⟨gb300, 3, none⟩ = some (.int .i64 a0_3) := (blk_cell BK300.out 3).trans rfl; have hcz5_4 : w4.cell? ⟨gb300, 4, none⟩ = some (.int .i64 a0_4) := (blk_cell BK300.out 4).trans rfl; have hcz5_5 : w4.cell? ⟨gb300, 5, none⟩ = some (.int .i64 a0_5) := (blk_cell BK300.out 5).trans rfl; have hcz5_6 : w4.cell? ⟨gb300, 6, none⟩ = some (.int .i64 a0_6) := (blk_cell BK300.out 6).trans rfl; have hfz5_0 := blk_frozen BK300.out 0; have hfz5_1 := blk_frozen BK300.out 1; have hfz5_2 := blk_frozen BK300.out 2; have hfz5_3 := blk_frozen BK300.out 3; have hfz5_4 := blk_frozen BK300.out 4; have hfz5_5 := blk_frozen BK300.out 5; have hfz5_6 := blk_frozen BK300.out 6) | ((with_reducible refine gate_callee (f := 40) rfl ?_); refine goesL_ (some 10) rfl rfl Try.func40 (by kernel_rfl) rfl #[.agg #[.int .i64 a0_0, .string a0_1, .int .i64 a0_2, .int .i64 a0_3, .int .i64 a0_4, .int .i64 a0_5, .int .i64 a0_6]] rfl (by (try simp only [List.map_toArray, List.map_cons, List.map_nil]); first | done | rfl | (simp only [List.length_drop, List.length_take]; rfl)) ?_; (with_reducible refine (lienref22_fields.calls k a0_0 a0_1 a0_2 a0_3 a0_4 a0_5 a0_6 t301 t304 _ A2.out).mono ?_); rintro e w6 ⟨v302, rfl, ho0, hb⟩; refine ⟨_, rfl, ?_⟩; have n0_ := Aside0.mk (Kd.R_lower ho0 (below_size (by repeat (first | (with_reducible first | exact HB.out | apply below_alloc | apply pw_below_drewN | apply below_drew1 | refine below_set ?_ GE300.out) | exact HB.out)))); have n1_ := Aside0.mk (blk_below (g := gb300) (o := .cells #[.int .i64 a0_0, .string a0_1, .int .i64 a0_2, .int .i64 a0_3, .int .i64 a0_4, .int .i64 a0_5, .int .i64 a0_6] 37 (0, 0)) (by (with_reducible repeat (first | refine blk_drewN ?_ _ | refine blk_drew ?_ | refine blk_alloc ?_ _)); exact BK300.out) hb); have n2_ := Aside0.mk (below_step (by repeat (first | (with_reducible first | exact HB.out | apply below_alloc | apply pw_below_drewN | apply below_drew1 | refine below_set ?_ GE300.out) | exact HB.out)) hb); clear BK300; clear HB; have HO303 := n0_; have BK300 := n1_; have HB := n2_; clear n0_ n1_ n2_; (try clear hb); (try clear hb2); (try clear hk); (try clear hi); (try clear ho0)))
  (try simp only [Act.put, List.setIfInBounds_toArray, List.set_cons_zero, List.set_cons_succ])
  go_cut [22] (fun v22 wc => ∃ (kq : Nat) (x22_2 : Bool), v22 = .bool x22_2 ∧ Aside0 (lienref22_Bytes.j0 kq t301 x22_2 a0_0 a0_1 a0_2 a0_3 a0_4 a0_5 a0_6 = some (r1, r2)) ∧ Aside0 (kq ≤ k) ∧ Aside0 (Kd.R k62 62 wc w.heap.size (fun _ => True) v302 t301) ∧ Aside0 (wc.heap[gb300]? = some (.cells #[.int .i64 a0_0, .string a0_1, .int .i64 a0_2, .int .i64 a0_3, .int .i64 a0_4, .int .i64 a0_5, .int .i64 a0_6] 37 (0, 0))) ∧ Aside0 (Below w.heap.size w wc))
  case first =>
    have H := HC3.out
    clear HC3
    by_cases c7 : t304 = true
    · subst c7
      have H1 : ((lienref22_made.f k a0_0 t301).bind fun bt305 => (lienref22_Bytes.j0 k t301 (!(bt305.1 == a0_0) || (!(bt305.2.1.toList == a0_1.toList) || (!(bt305.2.2.1 == a0_2) || (!(bt305.2.2.2.1 == a0_3) || (!(bt305.2.2.2.2.1 == a0_4) || (!(bt305.2.2.2.2.2.1 == a0_5) || (!(bt305.2.2.2.2.2.2 == a0_6)))))))) a0_0 a0_1 a0_2 a0_3 a0_4 a0_5 a0_6)) = some (r1, r2) := by rw [if_pos rfl] at H; exact H
      clear H
      have H := H1
      clear H1
      replace H := Option.bind_eq_some_iff.mp H
      obtain ⟨⟨t305, t306, t307, t308, t309, t310, t311⟩, A80, H⟩ := H
      replace H : (lienref22_Bytes.j0 k t301 (!(t305 == a0_0) || (!(t306.toList == a0_1.toList) || (!(t307 == a0_2) || (!(t308 == a0_3) || (!(t309 == a0_4) || (!(t310 == a0_5) || (!(t311 == a0_6)))))))) a0_0 a0_1 a0_2 a0_3 a0_4 a0_5 a0_6) = some (r1, r2) := H
      have A8 := Aside0.mk A80
      clear A80
      have H' := Aside0.mk H
      clear H
      try go_wp2
      have n0_ := Aside0.mk (Kd.R_drew HO303.out)
      have n1_ := Aside0.mk (blk_drew BK300.out)
      have n2_ := Aside0.mk (below_drew1 HB.out)
      clear HO303
      clear BK300
      clear HB
      have HO303 := n0_
      have BK300 := n1_
      have HB := n2_
      clear n0_ n1_ n2_
      obtain ⟨Ao10, co10, eo10⟩ := Kd.R_slice HO303.out
      (first | subst eo10 | (injection eo10 with f1_ f2_ f3_; have f4_ := f1_.symm; have f5_ := f3_.symm; clear f1_ f2_ f3_; subst f4_; subst f5_))
      refine start_ (n := 10) (S := fun w' => w'.cell? ⟨gb300, 0, none⟩ = some (.int .i64 a0_0) ∧ w'.cell? ⟨gb300, 1, none⟩ = some (.string a0_1) ∧ w'.cell? ⟨gb300, 2, none⟩ = some (.int .i64 a0_2) ∧ w'.cell? ⟨gb300, 3, none⟩ = some (.int .i64 a0_3) ∧ w'.cell? ⟨gb300, 4, none⟩ = some (.int .i64 a0_4) ∧ w'.cell? ⟨gb300, 5, none⟩ = some (.int .i64 a0_5) ∧ w'.cell? ⟨gb300, 6, none⟩ = some (.int .i64 a0_6)) (ds := []) #[false, false, false, false, false, false, false, false, false, false] (by kernel_rfl) rfl rfl ⟨(blk_cell BK300.out 0).trans rfl, (blk_cell BK300.out 1).trans rfl, (blk_cell BK300.out 2).trans rfl, (blk_cell BK300.out 3).trans rfl, (blk_cell BK300.out 4).trans rfl, (blk_cell BK300.out 5).trans rfl, (blk_cell BK300.out 6).trans rfl⟩ (fun hHeld => ?_); refine with_tabW lienref22_Bytes.tab2 lienref22_Bytes.bits2 (fun HT_ HW_ => ?_)
      generalize w6.drew = w9 at HO303 BK300 HB hHeld ⊢
      refine pure_ (i := 0) (N := some 13) (v := ?_) (a' := ?_) #[true, false, false, false, false, false, false, false, false, false] rfl rfl (any_of HT_.out (by kernel_rfl)) (fun _ _ _ h => h) (Or.inl ⟨by rfl, ?_⟩) ?_ ?_
      rotate_left
      · intro w'
        go_simp
        with_reducible rfl
      rotate_left
      · simp only [Act.put, List.setIfInBounds_toArray, List.set_cons_zero, List.set_cons_succ, i64_w, i32_w]
        rfl
      refine pure_ (i := 1) (N := some 14) (v := ?_) (a' := ?_) #[true, true, false, false, false, false, false, false, false, false] rfl rfl (any_of HT_.out (by kernel_rfl)) (fun _ _ _ h => h) (Or.inl ⟨by rfl, ?_⟩) ?_ ?_
      rotate_left
      · intro w'
        go_simp
        with_reducible rfl
      rotate_left
      · simp only [Act.put, List.setIfInBounds_toArray, List.set_cons_zero, List.set_cons_succ, i64_w, i32_w]
        rfl
      refine pure_ (i := 2) (N := some 15) (v := ?_) (a' := ?_) #[true, true, true, false, false, false, false, false, false, false] rfl rfl (any_of HT_.out (by kernel_rfl)) (fun _ _ _ h => h) (Or.inl ⟨by rfl, ?_⟩) ?_ ?_
      rotate_left
      · intro w'
        go_simp
        with_reducible rfl
      rotate_left
      · simp only [Act.put, List.setIfInBounds_toArray, List.set_cons_zero, List.set_cons_succ, i64_w, i32_w]
        rfl
      refine pure_ (i := 3) (N := some 16) (v := ?_) (a' := ?_) #[true, true, true, true, false, false, false, false, false, false] rfl rfl (any_of HT_.out (by kernel_rfl)) (fun _ _ _ h => h) (Or.inl ⟨by rfl, ?_⟩) ?_ ?_
      rotate_left
      · intro w'
        go_simp
        with_reducible rfl
      rotate_left
      · simp only [Act.put, List.setIfInBounds_toArray, List.set_cons_zero, List.set_cons_succ, i64_w, i32_w]
        rfl
      refine pure_ (i := 5) (N := some 18) (v := ?_) (a' := ?_) #[true, true, true, true, false, true, false, false, false, false] rfl rfl (any_of HT_.out (by kernel_rfl)) (fun _ _ _ h => h) (Or.inl ⟨by rfl, ?_⟩) ?_ ?_
      rotate_left
      · intro w'
        go_simp
        with_reducible rfl
      rotate_left
      · simp only [Act.put, List.setIfInBounds_toArray, List.set_cons_zero, List.set_cons_succ, i64_w, i32_w]
        rfl
      refine take_ (i := 4) (N := some 17) (v := ?_) (a' := ?_) #[true, true, true, true, true, true, false, false, false, false] rfl rfl (take_ofW HT_.out HW_.out (by kernel_rfl)) (fun _ _ _ h => h) (Or.inl ⟨by rfl, ?_⟩) hHeld ?_ ?_
      rotate_left
      · rintro w' ⟨s0, s1, s2, s3, s4, s5, s6⟩
        go_simp
        with_reducible rfl
      rotate_left
      · simp only [Act.put, List.setIfInBounds_toArray, List.set_cons_zero, List.set_cons_succ, i64_w, i32_w]
        rfl
      refine take_ (i := 7) (N := some 20) (v := ?_) (a' := ?_) #[true, true, true, true, true, true, false, true, false, false] rfl rfl (take_ofW HT_.out HW_.out (by kernel_rfl)) (fun _ _ _ h => h) (Or.inl ⟨by rfl, ?_⟩) hHeld ?_ ?_
      rotate_left
      · rintro w' ⟨s0, s1, s2, s3, s4, s5, s6⟩
        go_simp
        with_reducible rfl
      rotate_left
      · simp only [Act.put, List.setIfInBounds_toArray, List.set_cons_zero, List.set_cons_succ, i64_w, i32_w]
        rfl
      refine one_ (i := 6) (N := some 19) #[true, true, true, true, true, true, true, true, false, false] rfl rfl (one_of HT_.out (by kernel_rfl)) (by decide) (fun K hK => ?_)
      refine goes_ Try.func41 (by kernel_rfl) rfl #[.int .i64 a0_0, .slice Ao10 t301.length co10] (by rfl) rfl rfl (by (try simp only [List.map_toArray, List.map_cons, List.map_nil]); first | done | rfl | (simp only [List.length_drop, List.length_take]; rfl)) ?_
      with_reducible refine (lienref22_made.calls k a0_0 _ _ t301 t305 t306 t307 t308 t309 t310 t311 _ ?side1 ?side2 A8.out).mono ?_
      (case side1 => repeat (first | exact (Kd.R_reads' HO303.out).2.2 | (with_reducible refine Kd.C_alloc ?_ _) | (with_reducible refine Kd.C_drewN ?_ _) | (with_reducible refine Kd.C_drew ?_)))
      (case side2 => exact (Kd.R_reads' HO303.out).2.1)
      rintro e w11 ⟨rfl, hb⟩
      refine ⟨_, rfl, ?_⟩
      have n0_ := Aside0.mk (Kd.R_below (by (with_reducible repeat (first | apply Kd.R_alloc | apply Kd.R_drewN | apply Kd.R_drew)); exact HO303.out) hb)
      have n1_ := Aside0.mk (blk_below (g := gb300) (o := .cells #[.int .i64 a0_0, .string a0_1, .int .i64 a0_2, .int .i64 a0_3, .int .i64 a0_4, .int .i64 a0_5, .int .i64 a0_6] 37 (0, 0)) (by (with_reducible repeat (first | refine blk_drewN ?_ _ | refine blk_drew ?_ | refine blk_alloc ?_ _)); exact BK300.out) hb)
      have n2_ := Aside0.mk (below_step (by repeat (first | (with_reducible first | exact HB.out | apply below_alloc | apply pw_below_drewN | apply below_drew1 | refine below_set ?_ GE300.out) | exact HB.out)) hb)
      clear HO303
      clear BK300
      clear HB
      have HO303 := n0_
      have BK300 := n1_
      have HB := n2_
      clear n0_ n1_ n2_
      (try clear hb)
      (try clear hb2)
      (try clear hk)
      (try clear hi)
      refine hK.out _ _ (by (with_reducible repeat' apply And.intro) <;> first | exact (blk_cell BK300.out 0).trans rfl | exact (blk_cell BK300.out 1).trans rfl | exact (blk_cell BK300.out 2).trans rfl | exact (blk_cell BK300.out 3).trans rfl | exact (blk_cell BK300.out 4).trans rfl | exact (blk_cell BK300.out 5).trans rfl | exact (blk_cell BK300.out 6).trans rfl) (fun hHeld => ?_)
      clear hK K
      refine norm_ (a' := ?_) ?_ ?_
      rotate_left
      · show Act.put _ (some 19) _ = _
        simp only [Act.put, List.setIfInBounds_toArray, List.set_cons_zero, List.set_cons_succ, i64_w, i32_w]
        rfl
      refine pure_ (i := 8) (N := some 21) (v := ?_) (a' := ?_) #[true, true, true, true, true, true, true, true, true, false] rfl rfl (any_of HT_.out (by kernel_rfl)) (fun _ _ _ h => h) (Or.inl ⟨by rfl, ?_⟩) ?_ ?_
      rotate_left
      · intro w'
        go_simp
        with_reducible rfl
      rotate_left
      · simp only [Act.put, List.setIfInBounds_toArray, List.set_cons_zero, List.set_cons_succ, i64_w, i32_w]
        rfl
      refine pure_ (i := 9) (N := some 22) (v := ?_) (a' := ?_) #[true, true, true, true, true, true, true, true, true, true] rfl rfl (any_of HT_.out (by kernel_rfl)) (fun _ _ _ h => h) (Or.inl ⟨by rfl, ?_⟩) ?_ ?_
      rotate_left
      · intro w'
        go_simp
        with_reducible rfl
      rotate_left
      · simp only [Act.put, List.setIfInBounds_toArray, List.set_cons_zero, List.set_cons_succ, i64_w, i32_w]
        rfl
      refine done_ (done_of HT_.out (by kernel_rfl)) ?_
      try go_wp2
      go_meet
      case rel => exact ⟨_, ((!(t305 == a0_0) || (!(t306.toList == a0_1.toList) || (!(t307 == a0_2) || (!(t308 == a0_3) || (!(t309 == a0_4) || (!(t310 == a0_5) || (!(t311 == a0_6))))))))), (by first | rfl | (simp; done) | (simp [*]; done)), H', ⟨by first | omega | exact Nat.le_refl _⟩, ⟨by (with_reducible repeat (first | apply Kd.R_alloc | apply Kd.R_drewN | apply Kd.R_drew)); exact HO303.out⟩, ⟨by (with_reducible repeat (first | refine blk_drewN ?_ _ | refine blk_drew ?_ | refine blk_alloc ?_ _)); exact BK300.out⟩, ⟨by repeat (first | (with_reducible first | exact HB.out | apply below_alloc | apply pw_below_drewN | apply below_drew1 | refine below_set ?_ GE300.out) | exact HB.out)⟩⟩
    · replace c7 := Bool.eq_false_iff.mpr c7
      subst c7
      have H1 : (lienref22_Bytes.j0 k t301 true a0_0 a0_1 a0_2 a0_3 a0_4 a0_5 a0_6) = some (r1, r2) := by rw [if_neg (show ¬ (false = true) by decide)] at H; exact H
      clear H
      have H := H1
      clear H1
      have H' := Aside0.mk H
      clear H
      try go_wp2
      have n0_ := Aside0.mk (Kd.R_drew HO303.out)
      have n1_ := Aside0.mk (blk_drew BK300.out)
      have n2_ := Aside0.mk (below_drew1 HB.out)
      clear HO303
      clear BK300
      clear HB
      have HO303 := n0_
      have BK300 := n1_
      have HB := n2_
      clear n0_ n1_ n2_
      refine start_ (n := 10) (S := fun w' => True) (ds := []) #[false, false, false, false, false, false, false, false, false, false] (by kernel_rfl) rfl rfl trivial (fun hHeld => ?_); refine with_tabW lienref22_Bytes.tab2 lienref22_Bytes.bits2 (fun HT_ HW_ => ?_)
      generalize w6.drew = w12 at HO303 BK300 HB hHeld ⊢
      refine pure_ (i := 0) (N := some 13) (v := ?_) (a' := ?_) #[true, false, false, false, false, false, false, false, false, false] rfl rfl (any_of HT_.out (by kernel_rfl)) (fun _ _ _ h => h) (Or.inl ⟨by rfl, ?_⟩) ?_ ?_
      rotate_left
      · intro w'
        go_simp
        with_reducible rfl
      rotate_left
      · simp only [Act.put, List.setIfInBounds_toArray, List.set_cons_zero, List.set_cons_succ, i64_w, i32_w]
        rfl
      refine pure_ (i := 1) (N := some 14) (v := ?_) (a' := ?_) #[true, true, false, false, false, false, false, false, false, false] rfl rfl (any_of HT_.out (by kernel_rfl)) (fun _ _ _ h => h) (Or.inl ⟨by rfl, ?_⟩) ?_ ?_
      rotate_left
      · intro w'
        go_simp
        with_reducible rfl
      rotate_left
      · simp only [Act.put, List.setIfInBounds_toArray, List.set_cons_zero, List.set_cons_succ, i64_w, i32_w]
        rfl
      refine pure_ (i := 2) (N := some 15) (v := ?_) (a' := ?_) #[true, true, true, false, false, false, false, false, false, false] rfl rfl (any_of HT_.out (by kernel_rfl)) (fun _ _ _ h => h) (Or.inl ⟨by rfl, ?_⟩) ?_ ?_
      rotate_left
      · intro w'
        go_simp
        with_reducible rfl
      rotate_left
      · simp only [Act.put, List.setIfInBounds_toArray, List.set_cons_zero, List.set_cons_succ, i64_w, i32_w]
        rfl
      refine pure_ (i := 3) (N := some 16) (v := undef) (a' := ?_) #[true, true, true, true, false, false, false, false, false, false] rfl rfl (any_of HT_.out (by kernel_rfl)) (fun _ _ _ h => h) (Or.inr ⟨by rfl, rfl⟩) ?_ ?_
      rotate_left
      · simp only [Act.put, List.setIfInBounds_toArray, List.set_cons_zero, List.set_cons_succ, i64_w, i32_w]
        rfl
      refine pure_ (i := 4) (N := some 17) (v := undef) (a' := ?_) #[true, true, true, true, true, false, false, false, false, false] rfl rfl (any_of HT_.out (by kernel_rfl)) (fun _ _ _ h => h) (Or.inr ⟨by rfl, rfl⟩) ?_ ?_
      rotate_left
      · simp only [Act.put, List.setIfInBounds_toArray, List.set_cons_zero, List.set_cons_succ, i64_w, i32_w]
        rfl
      refine pure_ (i := 5) (N := some 18) (v := undef) (a' := ?_) #[true, true, true, true, true, true, false, false, false, false] rfl rfl (any_of HT_.out (by kernel_rfl)) (fun _ _ _ h => h) (Or.inr ⟨by rfl, rfl⟩) ?_ ?_
      rotate_left
      · simp only [Act.put, List.setIfInBounds_toArray, List.set_cons_zero, List.set_cons_succ, i64_w, i32_w]
        rfl
      refine pure_ (i := 6) (N := some 19) (v := undef) (a' := ?_) #[true, true, true, true, true, true, true, false, false, false] rfl rfl (any_of HT_.out (by kernel_rfl)) (fun _ _ _ h => h) (Or.inr ⟨by rfl, rfl⟩) ?_ ?_
      rotate_left
      · simp only [Act.put, List.setIfInBounds_toArray, List.set_cons_zero, List.set_cons_succ, i64_w, i32_w]
        rfl
      refine pure_ (i := 7) (N := some 20) (v := undef) (a' := ?_) #[true, true, true, true, true, true, true, true, false, false] rfl rfl (any_of HT_.out (by kernel_rfl)) (fun _ _ _ h => h) (Or.inr ⟨by rfl, rfl⟩) ?_ ?_
      rotate_left
      · simp only [Act.put, List.setIfInBounds_toArray, List.set_cons_zero, List.set_cons_succ, i64_w, i32_w]
        rfl
      refine pure_ (i := 8) (N := some 21) (v := undef) (a' := ?_) #[true, true, true, true, true, true, true, true, true, false] rfl rfl (any_of HT_.out (by kernel_rfl)) (fun _ _ _ h => h) (Or.inr ⟨by rfl, rfl⟩) ?_ ?_
      rotate_left
      · simp only [Act.put, List.setIfInBounds_toArray, List.set_cons_zero, List.set_cons_succ, i64_w, i32_w]
        rfl
      refine pure_ (i := 9) (N := some 22) (v := ?_) (a' := ?_) #[true, true, true, true, true, true, true, true, true, true] rfl rfl (any_of HT_.out (by kernel_rfl)) (fun _ _ _ h => h) (Or.inl ⟨by rfl, ?_⟩) ?_ ?_
      rotate_left
      · intro w'
        go_simp
        with_reducible rfl
      rotate_left
      · simp only [Act.put, List.setIfInBounds_toArray, List.set_cons_zero, List.set_cons_succ, i64_w, i32_w]
        rfl
      refine done_ (done_of HT_.out (by kernel_rfl)) ?_
      try go_wp2
      go_meet
      case rel => exact ⟨_, (true), (by first | rfl | (simp; done) | (simp [*]; done)), H', ⟨by first | omega | exact Nat.le_refl _⟩, ⟨by (with_reducible repeat (first | apply Kd.R_alloc | apply Kd.R_drewN | apply Kd.R_drew)); exact HO303.out⟩, ⟨by (with_reducible repeat (first | refine blk_drewN ?_ _ | refine blk_drew ?_ | refine blk_alloc ?_ _)); exact BK300.out⟩, ⟨by repeat (first | (with_reducible first | exact HB.out | apply below_alloc | apply pw_below_drewN | apply below_drew1 | refine below_set ?_ GE300.out) | exact HB.out)⟩⟩
  case rest =>
    clear HC3
    try clear c1
    try clear p2
    try clear c4
    try clear c7
    try clear hcz5_0
    try clear hcz5_1
    try clear hcz5_2
    try clear hcz5_3
    try clear hcz5_4
    try clear hcz5_5
    try clear hcz5_6
    try clear hfz5_0
    try clear hfz5_1
    try clear hfz5_2
    try clear hfz5_3
    try clear hfz5_4
    try clear hfz5_5
    try clear hfz5_6
    obtain ⟨kq, x22_2, rfl, HA, HJ2, HO_4, BK300, HB⟩ := hcut
    cases kq with
    | zero => exact absurd HA.out (by simp [lienref22_Bytes.j0])
    | succ kj2 =>
      have H := HA.out
      clear HA
      simp only [lienref22_Bytes.j0] at H
      by_cases c13 : x22_2 = true
      · subst c13
        have H1 : (some (([] : List Int), 220)) = some (r1, r2) := by rw [if_pos rfl] at H; exact H
        clear H
        have H := H1
        clear H1
        simp only [Option.some.injEq, Prod.mk.injEq] at H
        obtain ⟨rfl, rfl⟩ := H
        go_wp2
        go_ret2
        exact ⟨_, by first | rfl | (simp [errW_none, errW_some] <;> rfl) | (simp [*, errW_none, errW_some] <;> rfl), by first | exact Kd.R_nil _ _ _ _ _ | exact Kd.N_nil _ _ _ _ _ | exact Kd.V_nil _ _ _ _ _ | exact Kd.Q_nil _ _ _ _ _ | exact Kd.S_nil _ _ _ _ _, by repeat (first | (with_reducible first | exact HB.out | apply below_alloc | apply pw_below_drewN | apply below_drew1 | refine below_set ?_ GE300.out) | exact HB.out)⟩
      · replace c13 := Bool.eq_false_iff.mpr c13
        subst c13
        have H1 : ((lienref22_row.f kj2 a0_0 t301).bind fun bt312 => (if bt312.2 = true then (some (bt312.1, 0)) else (some (([] : List Int), 220)))) = some (r1, r2) := by rw [if_neg (show ¬ (false = true) by decide)] at H; exact H
        clear H
        have H := H1
        clear H1
        replace H := Option.bind_eq_some_iff.mp H
        obtain ⟨⟨t312, t313⟩, A140, H⟩ := H
        replace H : (if t313 = true then (some (t312, 0)) else (some (([] : List Int), 220))) = some (r1, r2) := H
        have A14 := Aside0.mk A140
        clear A140
        by_cases c15 : t313 = true
        · subst c15
          have H1 : (some (t312, 0)) = some (r1, r2) := by rw [if_pos rfl] at H; exact H
          clear H
          have H := H1
          clear H1
          simp only [Option.some.injEq, Prod.mk.injEq] at H
          obtain ⟨rfl, rfl⟩ := H
          have hcz16_0 : wc.cell? ⟨gb300, 0, none⟩ = some (.int .i64 a0_0) := (blk_cell BK300.out 0).trans rfl
          have hcz16_1 : wc.cell? ⟨gb300, 1, none⟩ = some (.string a0_1) := (blk_cell BK300.out 1).trans rfl
          have hcz16_2 : wc.cell? ⟨gb300, 2, none⟩ = some (.int .i64 a0_2) := (blk_cell BK300.out 2).trans rfl
          have hcz16_3 : wc.cell? ⟨gb300, 3, none⟩ = some (.int .i64 a0_3) := (blk_cell BK300.out 3).trans rfl
          have hcz16_4 : wc.cell? ⟨gb300, 4, none⟩ = some (.int .i64 a0_4) := (blk_cell BK300.out 4).trans rfl
          have hcz16_5 : wc.cell? ⟨gb300, 5, none⟩ = some (.int .i64 a0_5) := (blk_cell BK300.out 5).trans rfl
          have hcz16_6 : wc.cell? ⟨gb300, 6, none⟩ = some (.int .i64 a0_6) := (blk_cell BK300.out 6).trans rfl
          have hfz16_0 := blk_frozen BK300.out 0
          have hfz16_1 := blk_frozen BK300.out 1
          have hfz16_2 := blk_frozen BK300.out 2
          have hfz16_3 := blk_frozen BK300.out 3
          have hfz16_4 := blk_frozen BK300.out 4
          have hfz16_5 := blk_frozen BK300.out 5
          have hfz16_6 := blk_frozen BK300.out 6
          obtain ⟨Ao17, co17, eo17⟩ := Kd.R_slice HO_4.out
          subst eo17
          go_wp2_with (first | ((with_reducible refine gate_callee (f := 32) rfl ?_); refine goesL_ (some 27) rfl rfl Try.func32 (by kernel_rfl) rfl #[.int .i64 a0_0, .slice Ao17 t301.length co17] rfl (by (try simp only [List.map_toArray, List.map_cons, List.map_nil]); first | done | rfl | (simp only [List.length_drop, List.length_take]; rfl)) ?_; (with_reducible refine (lienref22_row.calls kj2 a0_0 _ _ t301 t312 true _ ?side1 ?side2 A14.out).mono ?_); (case side1 => repeat (first | exact (Kd.R_reads' HO_4.out).2.2 | (with_reducible refine Kd.C_alloc ?_ _) | (with_reducible refine Kd.C_drewN ?_ _) | (with_reducible refine Kd.C_drew ?_))); (case side2 => exact (Kd.R_reads' HO_4.out).2.1); rintro e w18 ⟨v314, rfl, ho0, hb⟩; refine ⟨_, rfl, ?_⟩; have n0_ := Aside0.mk (Kd.R_below (by (with_reducible repeat (first | apply Kd.R_alloc | apply Kd.R_drewN | apply Kd.R_drew)); exact HO_4.out) hb); have n1_ := Aside0.mk (Kd.R_lower ho0 (below_size (by repeat (first | (with_reducible first | exact HB.out | apply below_alloc | apply pw_below_drewN | apply below_drew1 | refine below_set ?_ GE300.out) | exact HB.out)))); have n2_ := Aside0.mk (blk_below (g := gb300) (o := .cells #[.int .i64 a0_0, .string a0_1, .int .i64 a0_2, .int .i64 a0_3, .int .i64 a0_4, .int .i64 a0_5, .int .i64 a0_6] 37 (0, 0)) (by (with_reducible repeat (first | refine blk_drewN ?_ _ | refine blk_drew ?_ | refine blk_alloc ?_ _)); exact BK300.out) hb); have n3_ := Aside0.mk (below_step (by repeat (first | (with_reducible first | exact HB.out | apply below_alloc | apply pw_below_drewN | apply below_drew1 | refine below_set ?_ GE300.out) | exact HB.out)) hb); clear HO_4; clear BK300; clear HB; have HO_4 := n0_; have HO315 := n1_; have BK300 := n2_; have HB := n3_; clear n0_ n1_ n2_ n3_; (try clear hb); (try clear hb2); (try clear hk); (try clear hi); (try clear ho0)))
          go_ret2
          exact ⟨_, by first | rfl | (simp [errW_none, errW_some] <;> rfl) | (simp [*, errW_none, errW_some] <;> rfl), by (with_reducible repeat (first | apply Kd.R_alloc | apply Kd.R_drewN | apply Kd.R_drew)); exact HO315.out, by repeat (first | (with_reducible first | exact HB.out | apply below_alloc | apply pw_below_drewN | apply below_drew1 | refine below_set ?_ GE300.out) | exact HB.out)⟩
        · replace c15 := Bool.eq_false_iff.mpr c15
          subst c15
          have H1 : (some (([] : List Int), 220)) = some (r1, r2) := by rw [if_neg (show ¬ (false = true) by decide)] at H; exact H
          clear H
          have H := H1
          clear H1
          simp only [Option.some.injEq, Prod.mk.injEq] at H
          obtain ⟨rfl, rfl⟩ := H
          have hcz19_0 : wc.cell? ⟨gb300, 0, none⟩ = some (.int .i64 a0_0) := (blk_cell BK300.out 0).trans rfl
          have hcz19_1 : wc.cell? ⟨gb300, 1, none⟩ = some (.string a0_1) := (blk_cell BK300.out 1).trans rfl
          have hcz19_2 : wc.cell? ⟨gb300, 2, none⟩ = some (.int .i64 a0_2) := (blk_cell BK300.out 2).trans rfl
          have hcz19_3 : wc.cell? ⟨gb300, 3, none⟩ = some (.int .i64 a0_3) := (blk_cell BK300.out 3).trans rfl
          have hcz19_4 : wc.cell? ⟨gb300, 4, none⟩ = some (.int .i64 a0_4) := (blk_cell BK300.out 4).trans rfl
          have hcz19_5 : wc.cell? ⟨gb300, 5, none⟩ = some (.int .i64 a0_5) := (blk_cell BK300.out 5).trans rfl
          have hcz19_6 : wc.cell? ⟨gb300, 6, none⟩ = some (.int .i64 a0_6) := (blk_cell BK300.out 6).trans rfl
          have hfz19_0 := blk_frozen BK300.out 0
          have hfz19_1 := blk_frozen BK300.out 1
          have hfz19_2 := blk_frozen BK300.out 2
          have hfz19_3 := blk_frozen BK300.out 3
          have hfz19_4 := blk_frozen BK300.out 4
          have hfz19_5 := blk_frozen BK300.out 5
          have hfz19_6 := blk_frozen BK300.out 6
          obtain ⟨Ao20, co20, eo20⟩ := Kd.R_slice HO_4.out
          subst eo20
          go_wp2_with (first | ((with_reducible refine gate_callee (f := 32) rfl ?_); refine goesL_ (some 27) rfl rfl Try.func32 (by kernel_rfl) rfl #[.int .i64 a0_0, .slice Ao20 t301.length co20] rfl (by (try simp only [List.map_toArray, List.map_cons, List.map_nil]); first | done | rfl | (simp only [List.length_drop, List.length_take]; rfl)) ?_; (with_reducible refine (lienref22_row.calls kj2 a0_0 _ _ t301 t312 false _ ?side1 ?side2 A14.out).mono ?_); (case side1 => repeat (first | exact (Kd.R_reads' HO_4.out).2.2 | (with_reducible refine Kd.C_alloc ?_ _) | (with_reducible refine Kd.C_drewN ?_ _) | (with_reducible refine Kd.C_drew ?_))); (case side2 => exact (Kd.R_reads' HO_4.out).2.1); rintro e w21 ⟨v314, rfl, ho0, hb⟩; refine ⟨_, rfl, ?_⟩; have n0_ := Aside0.mk (Kd.R_below (by (with_reducible repeat (first | apply Kd.R_alloc | apply Kd.R_drewN | apply Kd.R_drew)); exact HO_4.out) hb); have n1_ := Aside0.mk (Kd.R_lower ho0 (below_size (by repeat (first | (with_reducible first | exact HB.out | apply below_alloc | apply pw_below_drewN | apply below_drew1 | refine below_set ?_ GE300.out) | exact HB.out)))); have n2_ := Aside0.mk (blk_below (g := gb300) (o := .cells #[.int .i64 a0_0, .string a0_1, .int .i64 a0_2, .int .i64 a0_3, .int .i64 a0_4, .int .i64 a0_5, .int .i64 a0_6] 37 (0, 0)) (by (with_reducible repeat (first | refine blk_drewN ?_ _ | refine blk_drew ?_ | refine blk_alloc ?_ _)); exact BK300.out) hb); have n3_ := Aside0.mk (below_step (by repeat (first | (with_reducible first | exact HB.out | apply below_alloc | apply pw_below_drewN | apply below_drew1 | refine below_set ?_ GE300.out) | exact HB.out)) hb); clear HO_4; clear BK300; clear HB; have HO_4 := n0_; have HO315 := n1_; have BK300 := n2_; have HB := n3_; clear n0_ n1_ n2_ n3_; (try clear hb); (try clear hb2); (try clear hk); (try clear hi); (try clear ho0)))
          go_ret2
          exact ⟨_, by first | rfl | (simp [errW_none, errW_some] <;> rfl) | (simp [*, errW_none, errW_some] <;> rfl), by first | exact Kd.R_nil _ _ _ _ _ | exact Kd.N_nil _ _ _ _ _ | exact Kd.V_nil _ _ _ _ _ | exact Kd.Q_nil _ _ _ _ _ | exact Kd.S_nil _ _ _ _ _, by repeat (first | (with_reducible first | exact HB.out | apply below_alloc | apply pw_below_drewN | apply below_drew1 | refine below_set ?_ GE300.out) | exact HB.out)⟩

/-! ### wire_Read: function 17 -/
-- BY HAND

theorem clRequest_bad (g g2 : Nat) (x : Int) (u : FrameMode) (z0 z1 z2 z3 z4 z5 z6 : Value) (w : World) (hx : x ≠ 0) (hc : w.heap[g]? = some (.cells #[.int .i64 x] 28 (0, 0))) (hc2 : w.heap[g2]? = some (.cells #[z0, z1, z2, z3, z4, z5, z6] 37 (0, 0))) :
    CallsD Try.prog 42 #[.pointer (some ⟨g, 0, none⟩), .pointer (some ⟨g2, 0, none⟩)] u w fun e u' w' =>
      u' = u ∧ (e = .returned (.tuple #[]) ∧ w' = (((((((w.setCell ⟨g2, 0, none⟩ (Value.int .i64 0)).setCell ⟨g2, 1, none⟩ (Value.string ⟨#[]⟩)).setCell ⟨g2, 2, none⟩ (Value.int .i64 0)).setCell ⟨g2, 3, none⟩ (Value.int .i64 0)).setCell ⟨g2, 4, none⟩ (Value.int .i64 0)).setCell ⟨g2, 5, none⟩ (Value.int .i64 0)).setCell ⟨g2, 6, none⟩ (Value.int .i64 0))) := by
  have h1 := blk_cell hc 0
  simp only [List.getElem?_toArray, List.getElem?_cons_zero] at h1
  have k0 := blk_cell hc2 0; have f0 := blk_frozen hc2 0; simp only [List.getElem?_toArray, List.getElem?_cons_zero, List.getElem?_cons_succ] at k0; have k1 := blk_cell hc2 1; have f1 := blk_frozen hc2 1; simp only [List.getElem?_toArray, List.getElem?_cons_zero, List.getElem?_cons_succ] at k1; have k2 := blk_cell hc2 2; have f2 := blk_frozen hc2 2; simp only [List.getElem?_toArray, List.getElem?_cons_zero, List.getElem?_cons_succ] at k2; have k3 := blk_cell hc2 3; have f3 := blk_frozen hc2 3; simp only [List.getElem?_toArray, List.getElem?_cons_zero, List.getElem?_cons_succ] at k3; have k4 := blk_cell hc2 4; have f4 := blk_frozen hc2 4; simp only [List.getElem?_toArray, List.getElem?_cons_zero, List.getElem?_cons_succ] at k4; have k5 := blk_cell hc2 5; have f5 := blk_frozen hc2 5; simp only [List.getElem?_toArray, List.getElem?_cons_zero, List.getElem?_cons_succ] at k5; have k6 := blk_cell hc2 6; have f6 := blk_frozen hc2 6; simp only [List.getElem?_toArray, List.getElem?_cons_zero, List.getElem?_cons_succ] at k6
  have hx1 : (x != 0) = true := by simpa using hx
  have hx2 : (x == 0) = false := by simpa using hx
  go_enter_d Try.func42, Try.ntmps42
  go_wp2
  go_end0
  exact ⟨rfl, rfl⟩
theorem clRequest_ok (g : Nat) (p : Addr) (u : FrameMode) (w : World) (hc : w.heap[g]? = some (.cells #[.int .i64 0] 28 (0, 0))) :
    CallsD Try.prog 42 #[.pointer (some ⟨g, 0, none⟩), .pointer (some p)] u w fun e u' w' =>
      u' = u ∧ (e = .returned (.tuple #[]) ∧ w' = w) := by
  have h1 := blk_cell hc 0
  simp only [List.getElem?_toArray, List.getElem?_cons_zero] at h1
  go_enter_d Try.func42, Try.ntmps42
  go_wp2
  go_end0
  exact ⟨rfl, rfl⟩

set_option maxHeartbeats 2000000 in
theorem doorRequest_bad (tmps : Array Value) (g2 g3 B : Nat) (h2 : tmps.getD 2 undef = .pointer (some ⟨g2, 0, none⟩)) (h3 : tmps.getD 3 undef = .pointer (some ⟨g3, 0, none⟩)) (x : Int) (z0 z1 z2 z3 z4 z5 z6 : Value) (w0 W : World)
    (hB : Below B w0 W) (hb : B ≤ W.heap.size) (hb2 : B ≤ g2) (hb3 : B ≤ g3) (H2 : W.heap[g2]? = some (.cells #[z0, z1, z2, z3, z4, z5, z6] 37 (0, 0))) (H3 : W.heap[g3]? = some (.cells #[.int .i64 x] 28 (0, 0))) (R : Ending → World → Prop)
    (hR : ∀ w', Below B w0 w' → R (.returned (.tuple #[.agg #[.int .i64 0, .string ⟨#[]⟩, .int .i64 0, .int .i64 0, .int .i64 0, .int .i64 0, .int .i64 0], .int .i64 220])) w') :
    Leaves Try.prog Try.f17 tmps R (dfs 42 g2 g3) (.panicking wbad) W := by
  have hne := blk_ne H2 H3 (by decide)
  refine leaves_cons (f := 24) (args := #[.pointer (some ⟨g3, 0, none⟩)]) (by simp) (by simp [go_sem]) ?_
  refine (caught_bad g3 x W H3).mono ?_
  rintro e u' w' ⟨rfl, rfl, o, rfl⟩
  have K3 := blk_set (blk_alloc H3 o) 0 (.int .i64 220)
  have K2 := blk_far (p := ⟨g3, 0, none⟩) (blk_alloc H2 o) hne (.int .i64 220)
  have hB1 : Below B w0 ((W.alloc o).setCell ⟨g3, 0, none⟩ (.int .i64 220)) := (hB.alloc hb o).setCell (p := ⟨g3, 0, none⟩) hb3 _
  simp only [Array.setIfInBounds, List.size_toArray, List.length_cons, List.length_nil, Nat.zero_add, Nat.lt_add_one, dite_true, List.set_toArray, List.set_cons_zero] at K3
  generalize (W.alloc o).setCell ⟨g3, 0, none⟩ (.int .i64 220) = W1 at K2 K3 hB1 ⊢
  refine leaves_cons (f := 42) (args := #[.pointer (some ⟨g3, 0, none⟩), .pointer (some ⟨g2, 0, none⟩)]) (by simp [settle]) (by simp [go_sem]) ?_
  refine (clRequest_bad g3 g2 220 _ z0 z1 z2 z3 z4 z5 z6 W1 (by decide) K3 K2).mono ?_
  rintro e u' w' ⟨rfl, rfl, rfl⟩
  have L2 := K2
  have L3 := K3
  have hB2 := hB1
  have L2 := blk_set L2 0 (.int .i64 0)
  have L3 := blk_far (p := ⟨g2, 0, none⟩) L3 (Ne.symm hne) (.int .i64 0)
  have hB2 := hB2.setCell (p := ⟨g2, 0, none⟩) hb2 (.int .i64 0)
  have L2 := blk_set L2 1 (.string ⟨#[]⟩)
  have L3 := blk_far (p := ⟨g2, 1, none⟩) L3 (Ne.symm hne) (.string ⟨#[]⟩)
  have hB2 := hB2.setCell (p := ⟨g2, 1, none⟩) hb2 (.string ⟨#[]⟩)
  have L2 := blk_set L2 2 (.int .i64 0)
  have L3 := blk_far (p := ⟨g2, 2, none⟩) L3 (Ne.symm hne) (.int .i64 0)
  have hB2 := hB2.setCell (p := ⟨g2, 2, none⟩) hb2 (.int .i64 0)
  have L2 := blk_set L2 3 (.int .i64 0)
  have L3 := blk_far (p := ⟨g2, 3, none⟩) L3 (Ne.symm hne) (.int .i64 0)
  have hB2 := hB2.setCell (p := ⟨g2, 3, none⟩) hb2 (.int .i64 0)
  have L2 := blk_set L2 4 (.int .i64 0)
  have L3 := blk_far (p := ⟨g2, 4, none⟩) L3 (Ne.symm hne) (.int .i64 0)
  have hB2 := hB2.setCell (p := ⟨g2, 4, none⟩) hb2 (.int .i64 0)
  have L2 := blk_set L2 5 (.int .i64 0)
  have L3 := blk_far (p := ⟨g2, 5, none⟩) L3 (Ne.symm hne) (.int .i64 0)
  have hB2 := hB2.setCell (p := ⟨g2, 5, none⟩) hb2 (.int .i64 0)
  have L2 := blk_set L2 6 (.int .i64 0)
  have L3 := blk_far (p := ⟨g2, 6, none⟩) L3 (Ne.symm hne) (.int .i64 0)
  have hB2 := hB2.setCell (p := ⟨g2, 6, none⟩) hb2 (.int .i64 0)
  refine ⟨.tuple #[.agg #[.int .i64 0, .string ⟨#[]⟩, .int .i64 0, .int .i64 0, .int .i64 0, .int .i64 0, .int .i64 0], .int .i64 220], ?_, hR _ hB2⟩
  have M2 : (((((((W1.setCell ⟨g2, 0, none⟩ (.int .i64 0)).setCell ⟨g2, 1, none⟩ (.string ⟨#[]⟩)).setCell ⟨g2, 2, none⟩ (.int .i64 0)).setCell ⟨g2, 3, none⟩ (.int .i64 0)).setCell ⟨g2, 4, none⟩ (.int .i64 0)).setCell ⟨g2, 5, none⟩ (.int .i64 0)).setCell ⟨g2, 6, none⟩ (.int .i64 0)).heap[g2]? = some (.cells #[.int .i64 0, .string ⟨#[]⟩, .int .i64 0, .int .i64 0, .int .i64 0, .int .i64 0, .int .i64 0] 37 (0, 0)) := L2
  generalize (((((((W1.setCell ⟨g2, 0, none⟩ (.int .i64 0)).setCell ⟨g2, 1, none⟩ (.string ⟨#[]⟩)).setCell ⟨g2, 2, none⟩ (.int .i64 0)).setCell ⟨g2, 3, none⟩ (.int .i64 0)).setCell ⟨g2, 4, none⟩ (.int .i64 0)).setCell ⟨g2, 5, none⟩ (.int .i64 0)).setCell ⟨g2, 6, none⟩ (.int .i64 0)) = W2 at M2 L3
  exact results_sc rfl tmps W2 ⟨g2, 0, none⟩ h2 _ (run_loadVar_row W2 g2 _ 37 #[.int .i64 0, .string ⟨#[]⟩, .int .i64 0, .int .i64 0, .int .i64 0, .int .i64 0, .int .i64 0] (0, 0) _ M2 Try.underlying37 rfl (by kernel_rfl)) ⟨g3, 0, none⟩ h3 (.int .i64 220) (load_errno L3)

def reqVals (kd : Int) (os : List Nat) (vs : List (Int ⊕ ByteArray)) : Array Value := #[.int .i64 kd, .string (getS os vs 1), .int .i64 (getN os vs 2), .int .i64 (getN os vs 3), .int .i64 (getN os vs 4), .int .i64 (getN os vs 5), .int .i64 (getN os vs 6)]
theorem put_req (kd kd' : Int) (os : List Nat) (vs : List (Int ⊕ ByteArray)) (ho : reqOffs kd' = some os) (hk : vs.map isTx = os.map (· == 1)) : (List.zip os (vs.map fval)).foldl (fun c x => c.setIfInBounds x.1 x.2) #[.int .i64 kd, .string ⟨#[]⟩, .int .i64 0, .int .i64 0, .int .i64 0, .int .i64 0, .int .i64 0] = reqVals kd os vs := by
  rcases reqOffs_cases ho with hs | hs | hs | hs | hs | hs | hs | hs
  · subst hs
    obtain ⟨v0, v1, rfl⟩ := len2 (by simpa using congrArg List.length hk)
    simp at hk
    obtain ⟨h0, h1⟩ := hk
    obtain ⟨x0, rfl⟩ : ∃ s, v0 = .inr s := by have q := kinds_cons h0; rw [if_pos rfl] at q; exact q
    obtain ⟨x1, rfl⟩ : ∃ n, v1 = .inl n := by have q := kinds_cons h1; rw [if_neg (by decide)] at q; exact q
    rfl
  · subst hs
    obtain ⟨v0, v1, v2, v3, rfl⟩ := len4 (by simpa using congrArg List.length hk)
    simp at hk
    obtain ⟨h0, h1, h2, h3⟩ := hk
    obtain ⟨x0, rfl⟩ : ∃ s, v0 = .inr s := by have q := kinds_cons h0; rw [if_pos rfl] at q; exact q
    obtain ⟨x1, rfl⟩ : ∃ n, v1 = .inl n := by have q := kinds_cons h1; rw [if_neg (by decide)] at q; exact q
    obtain ⟨x2, rfl⟩ : ∃ n, v2 = .inl n := by have q := kinds_cons h2; rw [if_neg (by decide)] at q; exact q
    obtain ⟨x3, rfl⟩ : ∃ n, v3 = .inl n := by have q := kinds_cons h3; rw [if_neg (by decide)] at q; exact q
    rfl
  · subst hs
    obtain ⟨v0, v1, rfl⟩ := len2 (by simpa using congrArg List.length hk)
    simp at hk
    obtain ⟨h0, h1⟩ := hk
    obtain ⟨x0, rfl⟩ : ∃ s, v0 = .inr s := by have q := kinds_cons h0; rw [if_pos rfl] at q; exact q
    obtain ⟨x1, rfl⟩ : ∃ n, v1 = .inl n := by have q := kinds_cons h1; rw [if_neg (by decide)] at q; exact q
    rfl
  · subst hs
    obtain ⟨v0, rfl⟩ := len1 (by simpa using congrArg List.length hk)
    simp at hk
    obtain ⟨x0, rfl⟩ : ∃ s, v0 = .inr s := by have q := kinds_cons hk; rw [if_pos rfl] at q; exact q
    rfl
  · subst hs
    obtain ⟨v0, rfl⟩ := len1 (by simpa using congrArg List.length hk)
    simp at hk
    obtain ⟨x0, rfl⟩ : ∃ n, v0 = .inl n := by have q := kinds_cons hk; rw [if_neg (by decide)] at q; exact q
    rfl
  · subst hs
    obtain ⟨v0, v1, v2, rfl⟩ := len3 (by simpa using congrArg List.length hk)
    simp at hk
    obtain ⟨h0, h1, h2⟩ := hk
    obtain ⟨x0, rfl⟩ : ∃ s, v0 = .inr s := by have q := kinds_cons h0; rw [if_pos rfl] at q; exact q
    obtain ⟨x1, rfl⟩ : ∃ n, v1 = .inl n := by have q := kinds_cons h1; rw [if_neg (by decide)] at q; exact q
    obtain ⟨x2, rfl⟩ : ∃ n, v2 = .inl n := by have q := kinds_cons h2; rw [if_neg (by decide)] at q; exact q
    rfl
  · subst hs
    obtain ⟨v0, v1, rfl⟩ := len2 (by simpa using congrArg List.length hk)
    simp at hk
    obtain ⟨h0, h1⟩ := hk
    obtain ⟨x0, rfl⟩ : ∃ n, v0 = .inl n := by have q := kinds_cons h0; rw [if_neg (by decide)] at q; exact q
    obtain ⟨x1, rfl⟩ : ∃ n, v1 = .inl n := by have q := kinds_cons h1; rw [if_neg (by decide)] at q; exact q
    rfl
  · subst hs
    obtain ⟨v0, v1, v2, v3, rfl⟩ := len4 (by simpa using congrArg List.length hk)
    simp at hk
    obtain ⟨h0, h1, h2, h3⟩ := hk
    obtain ⟨x0, rfl⟩ : ∃ n, v0 = .inl n := by have q := kinds_cons h0; rw [if_neg (by decide)] at q; exact q
    obtain ⟨x1, rfl⟩ : ∃ n, v1 = .inl n := by have q := kinds_cons h1; rw [if_neg (by decide)] at q; exact q
    obtain ⟨x2, rfl⟩ : ∃ s, v2 = .inr s := by have q := kinds_cons h2; rw [if_pos rfl] at q; exact q
    obtain ⟨x3, rfl⟩ : ∃ n, v3 = .inl n := by have q := kinds_cons h3; rw [if_neg (by decide)] at q; exact q
    rfl


set_option maxHeartbeats 8000000 in
set_option maxRecDepth 100000 in
theorem wRead_bad (k : Nat) (A0 : Option Addr) (c0 : Nat) (l0 : List Int) (w : World) (hr0 : Kd.C (Kd.int .u8) w A0 l0.length l0) (hc0 : l0.length ≤ c0) (r1 : Int) (r2 : List Int) (r3 : Bool) (ht : code_TakeNum.f k l0 = some (r1, r2, r3)) (hle : ¬ (r3 = true ∧ r1 ≤ 1000)) :
    Calls Try.prog 17 #[.slice A0 l0.length c0] w fun e w' => e = .returned (.tuple #[.agg #[.int .i64 0, .string ⟨#[]⟩, .int .i64 0, .int .i64 0, .int .i64 0, .int .i64 0, .int .i64 0], .int .i64 220]) ∧ Below w.heap.size w w' := by
  have HB := Aside0.mk (Below.refl w.heap.size w)
  have HC0 := Aside0.mk hr0
  have HCL0 := Aside0.mk hc0
  clear hr0 hc0
  have hmf : ∀ (fn : Fn) (first cap : Array Value) (w : World), (Instr.makeFunc fn first cap).run Try.prog w = .ok (.func fn first cap) w := fun _ _ _ _ => rfl
  go_enter_defers Try.func17, Try.ntmps17
  go_wp2_with (first | ((with_reducible refine gate_dst (N := 2) rfl ?_); (try (refine gate_guard (by rfl) ?_; dsimp only)); refine box_event ?hg (N := 2) ?hd (cs := #[.int .i64 0, .string ⟨#[]⟩, .int .i64 0, .int .i64 0, .int .i64 0, .int .i64 0, .int .i64 0]) (t := 37) ?hr ?_; (case hd => rfl); (case hg => rfl); (case hr => first | (go_simp; done) | (go_simp; rfl)); intro g2 hg w1 hbox hb; have m0 := Aside0.mk (below_step (by repeat (first | (with_reducible first | exact HB.out | apply below_alloc | apply pw_below_drewN | apply below_drew1) | exact HB.out)) hb); have m1 := Aside0.mk hbox; have m2 := Aside0.mk ((by rw [hg]; exact (below_size (by repeat (first | (with_reducible first | exact HB.out | apply below_alloc | apply pw_below_drewN | apply below_drew1) | exact HB.out))) : w.heap.size ≤ g2)); clear HB ; have HB := m0; have B2 := m1; have G2 := m2; clear m0 m1 m2; clear hb hbox hg) | ((with_reducible refine gate_dst (N := 3) rfl ?_); (try (refine gate_guard (by rfl) ?_; dsimp only)); refine box_event ?hg (N := 3) ?hd (cs := #[.int .i64 0]) (t := 28) ?hr ?_; (case hd => rfl); (case hg => rfl); (case hr => first | (go_simp; done) | (go_simp; rfl)); intro g3 hg w2 hbox hb; have m0 := Aside0.mk (below_step (by repeat (first | (with_reducible first | exact HB.out | apply below_alloc | apply pw_below_drewN | apply below_drew1) | exact HB.out)) hb); have m1 := Aside0.mk hbox; have m2 := Aside0.mk ((by rw [hg]; exact (below_size (by repeat (first | (with_reducible first | exact HB.out | apply below_alloc | apply pw_below_drewN | apply below_drew1) | exact HB.out))) : w.heap.size ≤ g3)); have m3 := Aside0.mk (blk_below (g := g2) (o := (.cells #[.int .i64 0, .string ⟨#[]⟩, .int .i64 0, .int .i64 0, .int .i64 0, .int .i64 0, .int .i64 0] 37 (0, 0))) (by (with_reducible repeat (first | refine blk_drewN ?_ _ | refine blk_drew ?_ | refine blk_alloc ?_ _)); exact B2.out) hb); have m4 := Aside0.mk ((by rw [hg]; exact (blk_lt (g := g2) (o := (.cells #[.int .i64 0, .string ⟨#[]⟩, .int .i64 0, .int .i64 0, .int .i64 0, .int .i64 0, .int .i64 0] 37 (0, 0))) (by (with_reducible repeat (first | refine blk_drewN ?_ _ | refine blk_drew ?_ | refine blk_alloc ?_ _)); exact B2.out))) : g2 < g3); clear HB B2; have HB := m0; have B3 := m1; have G3 := m2; have B2 := m3; have Ng2g3 := m4; clear m0 m1 m2 m3 m4; clear hb hbox hg))
  refine (wkind_bad k A0 c0 l0 r1 r2 r3 _ (Kd.C_below HC0.out HB.out) HCL0.out ht hle).mono ?_
  rintro e w4 ⟨rfl, hb⟩
  have m0 := Aside0.mk (below_step (by repeat (first | (with_reducible first | exact HB.out | apply below_alloc | apply pw_below_drewN | apply below_drew1) | exact HB.out)) hb)
  have m1 := Aside0.mk (blk_below (g := g2) (o := (.cells #[.int .i64 0, .string ⟨#[]⟩, .int .i64 0, .int .i64 0, .int .i64 0, .int .i64 0, .int .i64 0] 37 (0, 0))) (by (with_reducible repeat (first | refine blk_drewN ?_ _ | refine blk_drew ?_ | refine blk_alloc ?_ _)); exact B2.out) hb)
  have m2 := Aside0.mk (blk_below (g := g3) (o := (.cells #[.int .i64 0] 28 (0, 0))) (by (with_reducible repeat (first | refine blk_drewN ?_ _ | refine blk_drew ?_ | refine blk_alloc ?_ _)); exact B3.out) hb)
  clear HB B2 B3
  have HB := m0
  have B2 := m1
  have B3 := m2
  clear m0 m1 m2
  refine doorRequest_bad _ g2 g3 w.heap.size rfl rfl 0 _ _ _ _ _ _ _ w _ HB.out (below_size HB.out) G2.out G3.out B2.out B3.out _ ?_
  intro w' hb
  exact ⟨rfl, hb⟩

set_option maxHeartbeats 8000000 in
set_option maxRecDepth 100000 in
theorem wRead_not (k : Nat) (A0 : Option Addr) (c0 : Nat) (l0 : List Int) (w : World) (hr0 : Kd.C (Kd.int .u8) w A0 l0.length l0) (hc0 : l0.length ≤ c0) (r1 : Int) (r2 : List Int) (kd : Int) (ht : code_TakeNum.f k l0 = some (r1, r2, true)) (hle : r1 ≤ 1000) (hkd : wrap64 r1 = kd) (ho : reqOffs kd = none) :
    Calls Try.prog 17 #[.slice A0 l0.length c0] w fun e w' => e = .returned (.tuple #[.agg #[.int .i64 0, .string ⟨#[]⟩, .int .i64 0, .int .i64 0, .int .i64 0, .int .i64 0, .int .i64 0], .int .i64 220]) ∧ Below w.heap.size w w' := by
  have HB := Aside0.mk (Below.refl w.heap.size w)
  have HC0 := Aside0.mk hr0
  have HCL0 := Aside0.mk hc0
  clear hr0 hc0
  have HKD := Aside0.mk hkd
  clear hkd
  have hmf : ∀ (fn : Fn) (first cap : Array Value) (w : World), (Instr.makeFunc fn first cap).run Try.prog w = .ok (.func fn first cap) w := fun _ _ _ _ => rfl
  go_enter_defers Try.func17, Try.ntmps17
  go_wp2_with (first | ((with_reducible refine gate_dst (N := 2) rfl ?_); (try (refine gate_guard (by rfl) ?_; dsimp only)); refine box_event ?hg (N := 2) ?hd (cs := #[.int .i64 0, .string ⟨#[]⟩, .int .i64 0, .int .i64 0, .int .i64 0, .int .i64 0, .int .i64 0]) (t := 37) ?hr ?_; (case hd => rfl); (case hg => rfl); (case hr => first | (go_simp; done) | (go_simp; rfl)); intro g2 hg w1 hbox hb; have m0 := Aside0.mk (below_step (by repeat (first | (with_reducible first | exact HB.out | apply below_alloc | apply pw_below_drewN | apply below_drew1) | exact HB.out)) hb); have m1 := Aside0.mk hbox; have m2 := Aside0.mk ((by rw [hg]; exact (below_size (by repeat (first | (with_reducible first | exact HB.out | apply below_alloc | apply pw_below_drewN | apply below_drew1) | exact HB.out))) : w.heap.size ≤ g2)); clear HB ; have HB := m0; have B2 := m1; have G2 := m2; clear m0 m1 m2; clear hb hbox hg) | ((with_reducible refine gate_dst (N := 3) rfl ?_); (try (refine gate_guard (by rfl) ?_; dsimp only)); refine box_event ?hg (N := 3) ?hd (cs := #[.int .i64 0]) (t := 28) ?hr ?_; (case hd => rfl); (case hg => rfl); (case hr => first | (go_simp; done) | (go_simp; rfl)); intro g3 hg w2 hbox hb; have m0 := Aside0.mk (below_step (by repeat (first | (with_reducible first | exact HB.out | apply below_alloc | apply pw_below_drewN | apply below_drew1) | exact HB.out)) hb); have m1 := Aside0.mk hbox; have m2 := Aside0.mk ((by rw [hg]; exact (below_size (by repeat (first | (with_reducible first | exact HB.out | apply below_alloc | apply pw_below_drewN | apply below_drew1) | exact HB.out))) : w.heap.size ≤ g3)); have m3 := Aside0.mk (blk_below (g := g2) (o := (.cells #[.int .i64 0, .string ⟨#[]⟩, .int .i64 0, .int .i64 0, .int .i64 0, .int .i64 0, .int .i64 0] 37 (0, 0))) (by (with_reducible repeat (first | refine blk_drewN ?_ _ | refine blk_drew ?_ | refine blk_alloc ?_ _)); exact B2.out) hb); have m4 := Aside0.mk ((by rw [hg]; exact (blk_lt (g := g2) (o := (.cells #[.int .i64 0, .string ⟨#[]⟩, .int .i64 0, .int .i64 0, .int .i64 0, .int .i64 0, .int .i64 0] 37 (0, 0))) (by (with_reducible repeat (first | refine blk_drewN ?_ _ | refine blk_drew ?_ | refine blk_alloc ?_ _)); exact B2.out))) : g2 < g3); clear HB B2; have HB := m0; have B3 := m1; have G3 := m2; have B2 := m3; have Ng2g3 := m4; clear m0 m1 m2 m3 m4; clear hb hbox hg))
  refine (wkind_ok k A0 c0 l0 r1 r2 _ (Kd.C_below HC0.out HB.out) HCL0.out ht hle).mono ?_
  rintro e w4 ⟨A, c, rfl, hR, hcl, hC, hb⟩
  have HNE := Aside0.mk (row_ne hR g2 (blk_lt B2.out))
  have HCL := Aside0.mk hcl
  have HC := Aside0.mk hC
  clear hR hcl hC HC0 HCL0 ht hle
  rw [HKD.out]
  have m0 := Aside0.mk (below_step (by repeat (first | (with_reducible first | exact HB.out | apply below_alloc | apply pw_below_drewN | apply below_drew1) | exact HB.out)) hb)
  have m1 := Aside0.mk (blk_below (g := g2) (o := (.cells #[.int .i64 0, .string ⟨#[]⟩, .int .i64 0, .int .i64 0, .int .i64 0, .int .i64 0, .int .i64 0] 37 (0, 0))) (by (with_reducible repeat (first | refine blk_drewN ?_ _ | refine blk_drew ?_ | refine blk_alloc ?_ _)); exact B2.out) hb)
  have m2 := Aside0.mk (blk_below (g := g3) (o := (.cells #[.int .i64 0] 28 (0, 0))) (by (with_reducible repeat (first | refine blk_drewN ?_ _ | refine blk_drew ?_ | refine blk_alloc ?_ _)); exact B3.out) hb)
  clear HB B2 B3
  have HB := m0
  have B2 := m1
  have B3 := m2
  clear m0 m1 m2
  have hcB20 := blk_cell B2.out 0
  simp only [List.getElem?_toArray, List.getElem?_cons_zero, List.getElem?_cons_succ] at hcB20
  have hfB20 := blk_frozen B2.out 0
  go_wp2_with (fail)
  have m2 := blk_put (cs' := #[.int .i64 kd, .string ⟨#[]⟩, .int .i64 0, .int .i64 0, .int .i64 0, .int .i64 0, .int .i64 0]) B2.out 0 (.int .i64 kd) rfl
  have m3 := blk_far (p := ⟨g2, 0, none⟩) B3.out (Ne.symm (Nat.ne_of_lt Ng2g3.out)) (.int .i64 kd)
  have m0 := Below.setCell (p := ⟨g2, 0, none⟩) HB.out G2.out (.int .i64 kd)
  have mC := Kd.C_keep 0 HC.out ((KeepBut.refl _ g2 none).set_ 0 (.int .i64 kd)) (fun ad e _ => HNE.out ad e)
  clear HB B2 B3 HC hcB20 hfB20
  generalize w4.setCell ⟨g2, 0, none⟩ (.int .i64 kd) = w5 at m0 m2 m3 mC ⊢
  have hcell : w5.cell? ⟨g2, 0, none⟩ = some (.int .i64 kd) := by
    have q := blk_cell m2 0
    simpa using q
  have hnn := fun (w : World) => run_neq_slice_nil_any (P := Try.prog) w 52 20 none 0 0 0 0 Try.underlying52
  refine (wfi_not kd ho g2 w5 hcell).mono ?_
  rintro e w6 ⟨rfl, rfl⟩
  clear hcell
  go_wp2_with (first | ((go_at_call 27); (with_reducible refine (must_bad _).mono ?_); rintro e wm ⟨rfl, rfl⟩))
  refine doorRequest_bad _ g2 g3 w.heap.size rfl rfl 0 _ _ _ _ _ _ _ w _ m0 (below_size m0) G2.out G3.out m2 m3 _ ?_
  intro w' hb
  exact ⟨rfl, hb⟩

set_option maxHeartbeats 8000000 in
set_option maxRecDepth 100000 in
theorem wRead_some (k : Nat) (A0 : Option Addr) (c0 : Nat) (l0 : List Int) (w : World) (hr0 : Kd.C (Kd.int .u8) w A0 l0.length l0) (hc0 : l0.length ≤ c0) (r1 : Int) (r2 : List Int) (kd : Int) (ht : code_TakeNum.f k l0 = some (r1, r2, true)) (hle : r1 ≤ 1000) (hkd : wrap64 r1 = kd) (os : List Nat) (ho : reqOffs kd = some os) (RES : Option (List (Int ⊕ ByteArray))) (hrd : wireRd k (os.map (· == 1)) r2 [] = some RES) :
    Calls Try.prog 17 #[.slice A0 l0.length c0] w fun e w' => ((∃ vs, RES = some vs ∧ e = .returned (.tuple #[.agg (reqVals kd os vs), .int .i64 0])) ∨ (RES = none ∧ e = .returned (.tuple #[.agg #[.int .i64 0, .string ⟨#[]⟩, .int .i64 0, .int .i64 0, .int .i64 0, .int .i64 0, .int .i64 0], .int .i64 220]))) ∧ Below w.heap.size w w' := by
  have HB := Aside0.mk (Below.refl w.heap.size w)
  have HC0 := Aside0.mk hr0
  have HCL0 := Aside0.mk hc0
  clear hr0 hc0
  have HKD := Aside0.mk hkd
  have HRD := Aside0.mk hrd
  have HOS := Aside0.mk ho
  clear hkd hrd ho
  have hmf : ∀ (fn : Fn) (first cap : Array Value) (w : World), (Instr.makeFunc fn first cap).run Try.prog w = .ok (.func fn first cap) w := fun _ _ _ _ => rfl
  go_enter_defers Try.func17, Try.ntmps17
  go_wp2_with (first | ((with_reducible refine gate_dst (N := 2) rfl ?_); (try (refine gate_guard (by rfl) ?_; dsimp only)); refine box_event ?hg (N := 2) ?hd (cs := #[.int .i64 0, .string ⟨#[]⟩, .int .i64 0, .int .i64 0, .int .i64 0, .int .i64 0, .int .i64 0]) (t := 37) ?hr ?_; (case hd => rfl); (case hg => rfl); (case hr => first | (go_simp; done) | (go_simp; rfl)); intro g2 hg w1 hbox hb; have m0 := Aside0.mk (below_step (by repeat (first | (with_reducible first | exact HB.out | apply below_alloc | apply pw_below_drewN | apply below_drew1) | exact HB.out)) hb); have m1 := Aside0.mk hbox; have m2 := Aside0.mk ((by rw [hg]; exact (below_size (by repeat (first | (with_reducible first | exact HB.out | apply below_alloc | apply pw_below_drewN | apply below_drew1) | exact HB.out))) : w.heap.size ≤ g2)); clear HB ; have HB := m0; have B2 := m1; have G2 := m2; clear m0 m1 m2; clear hb hbox hg) | ((with_reducible refine gate_dst (N := 3) rfl ?_); (try (refine gate_guard (by rfl) ?_; dsimp only)); refine box_event ?hg (N := 3) ?hd (cs := #[.int .i64 0]) (t := 28) ?hr ?_; (case hd => rfl); (case hg => rfl); (case hr => first | (go_simp; done) | (go_simp; rfl)); intro g3 hg w2 hbox hb; have m0 := Aside0.mk (below_step (by repeat (first | (with_reducible first | exact HB.out | apply below_alloc | apply pw_below_drewN | apply below_drew1) | exact HB.out)) hb); have m1 := Aside0.mk hbox; have m2 := Aside0.mk ((by rw [hg]; exact (below_size (by repeat (first | (with_reducible first | exact HB.out | apply below_alloc | apply pw_below_drewN | apply below_drew1) | exact HB.out))) : w.heap.size ≤ g3)); have m3 := Aside0.mk (blk_below (g := g2) (o := (.cells #[.int .i64 0, .string ⟨#[]⟩, .int .i64 0, .int .i64 0, .int .i64 0, .int .i64 0, .int .i64 0] 37 (0, 0))) (by (with_reducible repeat (first | refine blk_drewN ?_ _ | refine blk_drew ?_ | refine blk_alloc ?_ _)); exact B2.out) hb); have m4 := Aside0.mk ((by rw [hg]; exact (blk_lt (g := g2) (o := (.cells #[.int .i64 0, .string ⟨#[]⟩, .int .i64 0, .int .i64 0, .int .i64 0, .int .i64 0, .int .i64 0] 37 (0, 0))) (by (with_reducible repeat (first | refine blk_drewN ?_ _ | refine blk_drew ?_ | refine blk_alloc ?_ _)); exact B2.out))) : g2 < g3); clear HB B2; have HB := m0; have B3 := m1; have G3 := m2; have B2 := m3; have Ng2g3 := m4; clear m0 m1 m2 m3 m4; clear hb hbox hg))
  refine (wkind_ok k A0 c0 l0 r1 r2 _ (Kd.C_below HC0.out HB.out) HCL0.out ht hle).mono ?_
  rintro e w4 ⟨A, c, rfl, hR, hcl, hC, hb⟩
  have HNE := Aside0.mk (row_ne hR g2 (blk_lt B2.out))
  have HCL := Aside0.mk hcl
  have HC := Aside0.mk hC
  clear hR hcl hC HC0 HCL0 ht hle
  rw [HKD.out]
  have m0 := Aside0.mk (below_step (by repeat (first | (with_reducible first | exact HB.out | apply below_alloc | apply pw_below_drewN | apply below_drew1) | exact HB.out)) hb)
  have m1 := Aside0.mk (blk_below (g := g2) (o := (.cells #[.int .i64 0, .string ⟨#[]⟩, .int .i64 0, .int .i64 0, .int .i64 0, .int .i64 0, .int .i64 0] 37 (0, 0))) (by (with_reducible repeat (first | refine blk_drewN ?_ _ | refine blk_drew ?_ | refine blk_alloc ?_ _)); exact B2.out) hb)
  have m2 := Aside0.mk (blk_below (g := g3) (o := (.cells #[.int .i64 0] 28 (0, 0))) (by (with_reducible repeat (first | refine blk_drewN ?_ _ | refine blk_drew ?_ | refine blk_alloc ?_ _)); exact B3.out) hb)
  clear HB B2 B3
  have HB := m0
  have B2 := m1
  have B3 := m2
  clear m0 m1 m2
  have hcB20 := blk_cell B2.out 0
  simp only [List.getElem?_toArray, List.getElem?_cons_zero, List.getElem?_cons_succ] at hcB20
  have hfB20 := blk_frozen B2.out 0
  go_wp2_with (fail)
  have m2 := blk_put (cs' := #[.int .i64 kd, .string ⟨#[]⟩, .int .i64 0, .int .i64 0, .int .i64 0, .int .i64 0, .int .i64 0]) B2.out 0 (.int .i64 kd) rfl
  have m3 := blk_far (p := ⟨g2, 0, none⟩) B3.out (Ne.symm (Nat.ne_of_lt Ng2g3.out)) (.int .i64 kd)
  have m0 := Below.setCell (p := ⟨g2, 0, none⟩) HB.out G2.out (.int .i64 kd)
  have mC := Kd.C_keep 0 HC.out ((KeepBut.refl _ g2 none).set_ 0 (.int .i64 kd)) (fun ad e _ => HNE.out ad e)
  clear HB B2 B3 HC hcB20 hfB20
  generalize w4.setCell ⟨g2, 0, none⟩ (.int .i64 kd) = w5 at m0 m2 m3 mC ⊢
  have hcell : w5.cell? ⟨g2, 0, none⟩ = some (.int .i64 kd) := by
    have q := blk_cell m2 0
    simpa using q
  refine (wfi_some kd os HOS.out g2 w5 hcell).mono ?_
  rintro e w6 ⟨L, rfl, hb, hL, hlb⟩
  have hnn := fun (w : World) => run_neq_slice_nil_any (P := Try.prog) w 52 20 (some ⟨L, 0, none⟩) os.length os.length 0 0 Try.underlying52
  have HB := Aside0.mk (below_step m0 hb)
  have B2 := Aside0.mk (blk_below m2 hb)
  have B3 := Aside0.mk (blk_below m3 hb)
  have BL := Aside0.mk hlb
  have HC := Aside0.mk (Kd.C_below mC hb)
  clear m0 m2 m3 mC hb hL hlb hcell
  go_wp2_with (first | ((go_at_call 27); (with_reducible refine (must_ok _).mono ?_); rintro e wm ⟨rfl, rfl⟩))
  have hfl : (fps 1 g2 os).length = os.length := by simp [fps]
  have hmem : ∀ f ∈ fps 1 g2 os, ∃ o, o < 7 ∧ f.2 = ⟨g2, o, none⟩ := by
    intro f hf
    simp only [fps, List.mem_map] at hf
    obtain ⟨o, ho, rfl⟩ := hf
    refine ⟨o, ?_, rfl⟩
    rcases reqOffs_cases HOS.out with rfl | rfl | rfl | rfl | rfl | rfl | rfl | rfl <;> (simp at ho; omega)
  have hwr := wread k L c A (fps 1 g2 os) r2 RES _ BL.out (fun f hf => by
    obtain ⟨o, h1, h2⟩ := hmem f hf
    rw [h2]
    exact ⟨⟨_, _, B2.out, by decide, by simpa using h1⟩, rfl⟩) HC.out HCL.out (fun ad e _ f hf => by
    obtain ⟨o, h1, h2⟩ := hmem f hf
    rw [h2]
    exact HNE.out ad e) (by rw [hfl]; rcases reqOffs_cases HOS.out with rfl | rfl | rfl | rfl | rfl | rfl | rfl | rfl <;> simp) (by rw [fps_fst]; exact HRD.out)
  rw [hfl] at hwr
  refine hwr.mono ?_
  clear hwr
  rintro e w8 ⟨vs, hcase, hb⟩
  obtain ⟨hB8, hfar, hsz⟩ := read_after HB.out (below_size HB.out) hb (fun f hf => by
    obtain ⟨o, h1, h2⟩ := hmem f hf
    rw [h2]
    exact ⟨G2.out, rfl⟩)
  have b3 := hfar g3 _ B3.out (fun f hf => by
    obtain ⟨o, h1, h2⟩ := hmem f hf
    rw [h2]
    exact Nat.ne_of_lt Ng2g3.out)
  rcases hcase with ⟨hx, rfl, hvl⟩ | ⟨hx, rfl⟩
  rotate_left
  · obtain ⟨cs', b2, hs2⟩ := hsz g2 _ _ B2.out
    obtain ⟨z0, z1, z2, z3, z4, z5, z6, rfl⟩ := arr7 hs2
    refine doorRequest_bad _ g2 g3 w.heap.size rfl rfl 0 z0 z1 z2 z3 z4 z5 z6 w w8 hB8 (below_size hB8) G2.out G3.out b2 b3 _ ?_
    intro w' hb
    exact ⟨.inr ⟨hx, rfl⟩, hb⟩
  · subst hx
    have hk : vs.map isTx = os.map (· == 1) := by
      obtain ⟨us, e1, e2⟩ := wireRd_kinds k _ _ _ _ HRD.out
      rw [List.nil_append] at e1
      rw [e1]
      exact e2
    have q := wput_cells (List.zip os (vs.map fval)) B2.out
    rw [← puts_fps 1] at q
    have b2 := (hb.block g2 (blk_lt B2.out)).trans q
    clear q
    rw [put_req kd kd os vs HOS.out hk] at b2
    clear HB B2 B3 BL HC HCL hb hfar hsz hk hvl hmem hfl HRD HNE
    unfold reqVals at b2
    obtain ⟨x1, hx1⟩ : ∃ x, getS os vs 1 = x := ⟨_, rfl⟩
    obtain ⟨x2, hx2⟩ : ∃ x, getN os vs 2 = x := ⟨_, rfl⟩
    obtain ⟨x3, hx3⟩ : ∃ x, getN os vs 3 = x := ⟨_, rfl⟩
    obtain ⟨x4, hx4⟩ : ∃ x, getN os vs 4 = x := ⟨_, rfl⟩
    obtain ⟨x5, hx5⟩ : ∃ x, getN os vs 5 = x := ⟨_, rfl⟩
    obtain ⟨x6, hx6⟩ : ∃ x, getN os vs 6 = x := ⟨_, rfl⟩
    simp only [hx1, hx2, hx3, hx4, hx5, hx6] at b2
    have HX1 := Aside0.mk hx1
    have HX2 := Aside0.mk hx2
    have HX3 := Aside0.mk hx3
    have HX4 := Aside0.mk hx4
    have HX5 := Aside0.mk hx5
    have HX6 := Aside0.mk hx6
    clear hx1 hx2 hx3 hx4 hx5 hx6
    have HB := Aside0.mk hB8
    have B2 := Aside0.mk b2
    have B3 := Aside0.mk b3
    have N23 := Aside0.mk (Nat.ne_of_lt Ng2g3.out)
    clear hB8 b2 b3
    have hcB20 := blk_cell B2.out 0
    simp only [List.getElem?_toArray, List.getElem?_cons_zero, List.getElem?_cons_succ] at hcB20
    have hfB20 := blk_frozen B2.out 0
    have hcB21 := blk_cell B2.out 1
    simp only [List.getElem?_toArray, List.getElem?_cons_zero, List.getElem?_cons_succ] at hcB21
    have hfB21 := blk_frozen B2.out 1
    have hcB22 := blk_cell B2.out 2
    simp only [List.getElem?_toArray, List.getElem?_cons_zero, List.getElem?_cons_succ] at hcB22
    have hfB22 := blk_frozen B2.out 2
    have hcB23 := blk_cell B2.out 3
    simp only [List.getElem?_toArray, List.getElem?_cons_zero, List.getElem?_cons_succ] at hcB23
    have hfB23 := blk_frozen B2.out 3
    have hcB24 := blk_cell B2.out 4
    simp only [List.getElem?_toArray, List.getElem?_cons_zero, List.getElem?_cons_succ] at hcB24
    have hfB24 := blk_frozen B2.out 4
    have hcB25 := blk_cell B2.out 5
    simp only [List.getElem?_toArray, List.getElem?_cons_zero, List.getElem?_cons_succ] at hcB25
    have hfB25 := blk_frozen B2.out 5
    have hcB26 := blk_cell B2.out 6
    simp only [List.getElem?_toArray, List.getElem?_cons_zero, List.getElem?_cons_succ] at hcB26
    have hfB26 := blk_frozen B2.out 6
    have hc3 := blk_cell B3.out 0
    have hf3 := blk_frozen B3.out 0
    simp only [List.getElem?_toArray, List.getElem?_cons_zero, List.getElem?_cons_succ] at hc3
    have hne1 : ¬ g2 = g3 := N23.out
    have hne2 : ¬ g3 = g2 := fun e => N23.out e.symm
    go_wp2_with (fail)
    have j2 := blk_far (p := ⟨g3, 0, none⟩) (blk_put (cs' := #[.int .i64 kd, .string x1, .int .i64 x2, .int .i64 x3, .int .i64 x4, .int .i64 x5, .int .i64 x6]) (blk_put (cs' := #[.int .i64 kd, .string x1, .int .i64 x2, .int .i64 x3, .int .i64 x4, .int .i64 x5, .int .i64 x6]) (blk_put (cs' := #[.int .i64 kd, .string x1, .int .i64 x2, .int .i64 x3, .int .i64 x4, .int .i64 x5, .int .i64 x6]) (blk_put (cs' := #[.int .i64 kd, .string x1, .int .i64 x2, .int .i64 x3, .int .i64 x4, .int .i64 x5, .int .i64 x6]) (blk_put (cs' := #[.int .i64 kd, .string x1, .int .i64 x2, .int .i64 x3, .int .i64 x4, .int .i64 x5, .int .i64 x6]) (blk_put (cs' := #[.int .i64 kd, .string x1, .int .i64 x2, .int .i64 x3, .int .i64 x4, .int .i64 x5, .int .i64 x6]) (blk_put (cs' := #[.int .i64 kd, .string x1, .int .i64 x2, .int .i64 x3, .int .i64 x4, .int .i64 x5, .int .i64 x6]) B2.out 0 (.int .i64 kd) rfl) 1 (.string x1) rfl) 2 (.int .i64 x2) rfl) 3 (.int .i64 x3) rfl) 4 (.int .i64 x4) rfl) 5 (.int .i64 x5) rfl) 6 (.int .i64 x6) rfl) N23.out (.int .i64 0)
    have j3 := blk_put (cs' := #[.int .i64 0]) (blk_far (p := ⟨g2, 6, none⟩) (blk_far (p := ⟨g2, 5, none⟩) (blk_far (p := ⟨g2, 4, none⟩) (blk_far (p := ⟨g2, 3, none⟩) (blk_far (p := ⟨g2, 2, none⟩) (blk_far (p := ⟨g2, 1, none⟩) (blk_far (p := ⟨g2, 0, none⟩) B3.out (Ne.symm N23.out) (.int .i64 kd)) (Ne.symm N23.out) (.string x1)) (Ne.symm N23.out) (.int .i64 x2)) (Ne.symm N23.out) (.int .i64 x3)) (Ne.symm N23.out) (.int .i64 x4)) (Ne.symm N23.out) (.int .i64 x5)) (Ne.symm N23.out) (.int .i64 x6)) 0 (.int .i64 0) rfl
    have jB := (((((((HB.out.setCell (p := ⟨g2, 0, none⟩) G2.out (.int .i64 kd)).setCell (p := ⟨g2, 1, none⟩) G2.out (.string x1)).setCell (p := ⟨g2, 2, none⟩) G2.out (.int .i64 x2)).setCell (p := ⟨g2, 3, none⟩) G2.out (.int .i64 x3)).setCell (p := ⟨g2, 4, none⟩) G2.out (.int .i64 x4)).setCell (p := ⟨g2, 5, none⟩) G2.out (.int .i64 x5)).setCell (p := ⟨g2, 6, none⟩) G2.out (.int .i64 x6)).setCell (p := ⟨g3, 0, none⟩) G3.out (.int .i64 0)
    refine doorB_ok 42 clRequest_ok (fun _ _ _ => by simp [go_sem]) Try.f17 _ g2 g3 _ j3 _ (.tuple #[.agg #[.int .i64 kd, .string x1, .int .i64 x2, .int .i64 x3, .int .i64 x4, .int .i64 x5, .int .i64 x6], .int .i64 0]) ?_ ⟨.inl ⟨vs, rfl, by unfold reqVals; simp only [HX1.out, HX2.out, HX3.out, HX4.out, HX5.out, HX6.out]⟩, jB⟩
    exact results_sc rfl _ _ ⟨g2, 0, none⟩ rfl _ (run_loadVar_row _ g2 _ 37 #[.int .i64 kd, .string x1, .int .i64 x2, .int .i64 x3, .int .i64 x4, .int .i64 x5, .int .i64 x6] (0, 0) _ j2 Try.underlying37 rfl (by kernel_rfl)) ⟨g3, 0, none⟩ rfl (.int .i64 0) (load_errno j3)

def wire_Read.f (k : Nat) (l0 : List Int) : Option (Int × ByteArray × Int × Int × Int × Int × Int × Int) :=
  (code_TakeNum.f k l0).bind fun r => if r.2.2 = true ∧ r.1 ≤ 1000 then (match reqOffs (wrap64 r.1) with
    | none => some (0, ⟨#[]⟩, 0, 0, 0, 0, 0, 220)
    | some os => (wireRd k (os.map (· == 1)) r.2.1 []).bind fun x => match x with
      | none => some (0, ⟨#[]⟩, 0, 0, 0, 0, 0, 220)
      | some vs => some (wrap64 r.1, getS os vs 1, getN os vs 2, getN os vs 3, getN os vs 4, getN os vs 5, getN os vs 6, 0)) else some (0, ⟨#[]⟩, 0, 0, 0, 0, 0, 220)
theorem wire_Read.mono : ∀ l0 k, LeO (wire_Read.f k l0) (wire_Read.f (k + 1) l0) := by
  intro l0 k
  unfold wire_Read.f
  refine LeO.bind (code_TakeNum.mono _ k) (fun r => LeO.ite ?_ (LeO.refl _))
  cases reqOffs (wrap64 r.1) with
  | none => exact LeO.refl _
  | some os => exact LeO.bind (wireRd_mono _ _ _ k) (fun _ => LeO.refl _)
theorem wire_Read.calls (k : Nat) (A0 : Option Addr) (c0 : Nat) (l0 : List Int) (r1 : Int) (r2 : ByteArray) (r3 : Int) (r4 : Int) (r5 : Int) (r6 : Int) (r7 : Int) (r8 : Int) (w : World) (hr0 : Kd.C (Kd.int .u8) w A0 l0.length l0) (hc0 : l0.length ≤ c0) (h : wire_Read.f k l0 = some (r1, r2, r3, r4, r5, r6, r7, r8)) :
    Calls Try.prog 17 #[.slice A0 l0.length c0] w fun e w' => e = .returned (.tuple #[.agg #[.int .i64 r1, .string r2, .int .i64 r3, .int .i64 r4, .int .i64 r5, .int .i64 r6, .int .i64 r7], .int .i64 r8]) ∧ Below w.heap.size w w' := by
  unfold wire_Read.f at h
  obtain ⟨⟨t1, t2, t3⟩, ht, h⟩ := Option.bind_eq_some_iff.mp h
  dsimp only at h
  by_cases hle : t3 = true ∧ t1 ≤ 1000
  · rw [if_pos hle] at h
    obtain ⟨rfl, hle⟩ := hle
    obtain ⟨kd, hkd⟩ : ∃ kd, wrap64 t1 = kd := ⟨_, rfl⟩
    rw [hkd] at h
    obtain ⟨oo, ho⟩ : ∃ oo, reqOffs kd = oo := ⟨_, rfl⟩
    rw [ho] at h
    cases oo with
    | none =>
      simp only [Option.some.injEq, Prod.mk.injEq] at h
      obtain ⟨rfl, rfl, rfl, rfl, rfl, rfl, rfl, rfl⟩ := h
      exact wRead_not k A0 c0 l0 w hr0 hc0 t1 t2 kd ht hle hkd ho
    | some os =>
      dsimp only at h
      obtain ⟨x, hx, h⟩ := Option.bind_eq_some_iff.mp h
      refine (wRead_some k A0 c0 l0 w hr0 hc0 t1 t2 kd ht hle hkd os ho x hx).mono ?_
      rintro e w' ⟨⟨vs, rfl, rfl⟩ | ⟨rfl, rfl⟩, hb⟩
      · simp only [Option.some.injEq, Prod.mk.injEq] at h
        obtain ⟨rfl, rfl, rfl, rfl, rfl, rfl, rfl, rfl⟩ := h
        exact ⟨rfl, hb⟩
      · simp only [Option.some.injEq, Prod.mk.injEq] at h
        obtain ⟨rfl, rfl, rfl, rfl, rfl, rfl, rfl, rfl⟩ := h
        exact ⟨rfl, hb⟩
  · rw [if_neg hle] at h
    simp only [Option.some.injEq, Prod.mk.injEq] at h
    obtain ⟨rfl, rfl, rfl, rfl, rfl, rfl, rfl, rfl⟩ := h
    exact wRead_bad k A0 c0 l0 w hr0 hc0 t1 t2 t3 ht hle

end Go.Proofs.Ytklnnmgfoebbhaa.PWireAsks
