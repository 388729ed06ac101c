-- Written by wip/xprint of this repo (our own program) out of the translation; what is marked BY HAND is ours. Not trusted: Lean checks it.
import Derived.Test.YtlehgphnjpgjnaaPBloomNeverx0
namespace Go.Proofs.Ytlehgphnjpgjnaa.PBloomNever
open Go.RowKit Go.Proofs.YtlehgphnjpgjnaaW.PrintWords Go.Proofs.YtlehgphnjpgjnaaW.PrintLast Go.Proofs.YtlehgphnjpgjnaaW.PrintMore
attribute [local go_sem] max2_int min2_int max_two min_two max_three min_three max_four min_four   -- for this text's walks alone
set_option linter.unusedVariables false
set_option linter.unusedSimpArgs false

/-! ### lienlaw11_few: function 40 -/
def lienlaw11_few.l0 : Nat → List ByteArray → List ByteArray → Int → Option (List ByteArray)
  | 0, _, _, _ => none
  | k + 1, x0, x3, x4 => if x4 < (x0.length : Int) then (if x4 < 200 then (if 0 ≤ x4 then (if 0 ≤ (mn ((rdOf ByteArray.empty x0 x4).size : Int) 80) then (if (mn ((rdOf ByteArray.empty x0 x4).size : Int) 80) ≤ ((rdOf ByteArray.empty x0 x4).size : Int) then (if x3.length < 8796093022208 then (lienlaw11_few.l0 k x0 (x3 ++ [(rdOf ByteArray.empty x0 x4).extract 0 ((mn ((rdOf ByteArray.empty x0 x4).size : Int) 80) : Int).toNat]) (wrap64 (x4 + 1))) else (none)) else (none)) else (none)) else (none)) else (some x3)) else (some x3)
def lienlaw11_few.f (k : Nat) (l0 : List ByteArray) : Option (List ByteArray) := lienlaw11_few.l0 k l0 ([] : List ByteArray) 0
theorem lienlaw11_few.mono_l : ∀ k, (∀ y0 y1 y2, LeO (lienlaw11_few.l0 k y0 y1 y2) (lienlaw11_few.l0 (k + 1) y0 y1 y2))
  | 0 => fun _ _ _ r h => by simp [lienlaw11_few.l0] at h
  | k + 1 => by
    have ih0 := lienlaw11_few.mono_l k
    · intro y0 y1 y2
      unfold lienlaw11_few.l0
      repeat' first
      | (with_reducible exact ih0 _ _ _)
      | (with_reducible exact LeO.refl _)
      | (with_reducible exact LeO.none _)
      | (with_reducible refine LeO.ite ?_ ?_)
      | (with_reducible refine LeO.bind ?_ (fun _ => ?_))
      | exact ih0 _ _ _
      | exact LeO.none _
      | refine LeO.ite ?_ ?_
      | refine LeO.bind ?_ (fun _ => ?_)
theorem lienlaw11_few.mono : ∀ a0 k, LeO (lienlaw11_few.f k a0) (lienlaw11_few.f (k + 1) a0) := by
  intro a0 k
  have ih0 := lienlaw11_few.mono_l k
  unfold lienlaw11_few.f
  repeat' first
      | (with_reducible exact ih0 _ _ _)
      | (with_reducible exact LeO.refl _)
      | (with_reducible exact LeO.none _)
      | (with_reducible refine LeO.ite ?_ ?_)
      | (with_reducible refine LeO.bind ?_ (fun _ => ?_))
      | exact ih0 _ _ _
      | exact LeO.none _
      | refine LeO.ite ?_ ?_
      | refine LeO.bind ?_ (fun _ => ?_)
def lienlaw11_few.T5 : Bool × List (List Nat × List Nat) := (true, [([], []), ([], []), ([], []), ([1, 2], [1, 2]), ([3], [3]), ([], []), ([], []), ([5, 6], [5, 6]), ([7], [7]), ([8], [8]), ([9], [9]), ([4, 10], [4, 10]), ([11], [11]), ([0, 12], [0, 12]), ([13, 13, 0, 1, 2, 3, 4, 5, 6, 7, 8, 9, 10, 11, 12, 13], [0, 13])])
def lienlaw11_few.B5 : List Nat := [0, 0, 0, 6, 14, 0, 0, 96, 224, 480, 992, 2046, 4094, 8191, 16383]
theorem lienlaw11_few.tab5 : rtab .any (opsOf Try.f40 5) = lienlaw11_few.T5 := by kernel_rfl
theorem lienlaw11_few.bits5 : waitsOk lienlaw11_few.T5.2 lienlaw11_few.B5 = true := by kernel_rfl
set_option maxHeartbeats 8000000 in
set_option maxRecDepth 100000 in
theorem lienlaw11_few.calls (k : Nat) (A0 : Option Addr) (c0 : Nat) (l0 : List ByteArray) (r : List ByteArray) (w : World) (hr0 : Kd.C Kd.string w A0 l0.length l0) (hc0 : l0.length ≤ c0) (h : lienlaw11_few.f k l0 = some r) :
    Calls Try.prog 40 #[.slice A0 l0.length c0] w fun e w' => ∃ v0_ : Value, e = .returned (v0_) ∧ Kd.R Kd.string 9 w' w.heap.size (fun _ => True) v0_ r ∧ Below w.heap.size w w' := by
  have HR0 := Aside0.mk hr0
  have HC0 := Aside0.mk hc0
  clear hr0 hc0
  have HB := Aside0.mk (Below.refl w.heap.size w)
  have H : (lienlaw11_few.l0 k l0 ([] : List ByteArray) 0) = some r := h
  clear h
  have H' := Aside0.mk H
  clear H
  go_enter Try.func40, Try.ntmps40
  go_wp2
  go_loopg [3, 4] k (fun kq v3 v4 w' => ∃ (x3_1 : List ByteArray) (x4_1 : Int), v4 = .int .i64 x4_1 ∧ Aside0 (lienlaw11_few.l0 kq l0 x3_1 x4_1 = some r) ∧ Aside0 (kq ≤ k) ∧ Aside0 (Kd.R Kd.string 9 w' w.heap.size (fun _ => True) v3 x3_1) ∧ Aside0 (Below w.heap.size w w'))
  case atStart => exact ⟨(([] : List ByteArray)), (0), (by first | rfl | (simp; done) | (simp [*]; done)), H', ⟨Nat.le_refl _⟩, ⟨by first | exact Kd.R_nil _ _ _ _ _ | exact Kd.N_nil _ _ _ _ _ | exact Kd.V_nil _ _ _ _ _ | exact Kd.Q_nil _ _ _ _ _ | exact Kd.S_nil _ _ _ _ _⟩, ⟨by repeat (first | (with_reducible first | exact HB.out | apply below_alloc | apply pw_below_drewN | apply below_drew1) | exact HB.out)⟩⟩
  case round =>
    clear H'
    obtain ⟨x3_1, x4_1, rfl, HA, HK1, HO_3, HB⟩ := hrel
    cases gk with
    | zero => exact absurd HA.out (by simp [lienlaw11_few.l0])
    | succ k1 =>
      have H := HA.out
      clear HA
      simp only [lienlaw11_few.l0] at H
      by_cases c2 : x4_1 < (l0.length : Int)
      · rw [if_pos c2] at H
        have c2b0 : decide (x4_1 < (l0.length : Int)) = true := decide_eq_true c2
        clear c2
        by_cases c3 : x4_1 < 200
        · rw [if_pos c3] at H
          have c3b0 : decide (x4_1 < 200) = true := decide_eq_true c3
          clear c3
          by_cases c4 : 0 ≤ x4_1
          · rw [if_pos c4] at H
            have c4b0 : decide (0 ≤ x4_1) = true := decide_eq_true c4
            clear c4
            obtain ⟨ji5, hji5⟩ : ∃ j_ : Int, (mn ((rdOf ByteArray.empty l0 x4_1).size : Int) 80) = j_ := ⟨_, rfl⟩
            replace H : (if 0 ≤ (ji5) then (if (ji5) ≤ ((rdOf ByteArray.empty l0 x4_1).size : Int) then (if x3_1.length < 8796093022208 then (lienlaw11_few.l0 k1 l0 (x3_1 ++ [(rdOf ByteArray.empty l0 x4_1).extract 0 ((ji5) : Int).toNat]) (wrap64 (x4_1 + 1))) else (none)) else (none)) else (none)) = some r := by first | (rw [hji5] at H; exact H) | (simp only [hji5] at H ⊢; exact H)
            have hji5_ : (if 80 < ((rdOf ByteArray.empty l0 x4_1).size : Int) then 80 else ((rdOf ByteArray.empty l0 x4_1).size : Int)) = ji5 := hji5
            by_cases c6 : 0 ≤ (ji5)
            · rw [if_pos c6] at H
              have c6b0 := eq_true c6
              have c6b1 : decide (0 ≤ (ji5)) = true := decide_eq_true c6
              clear c6
              by_cases c7 : (ji5) ≤ ((rdOf ByteArray.empty l0 x4_1).size : Int)
              · rw [if_pos c7] at H
                have c7b0 := eq_true c7
                have c7b1 : decide ((ji5) ≤ ((rdOf ByteArray.empty l0 x4_1).size : Int)) = true := decide_eq_true c7
                clear c7
                by_cases c8 : x3_1.length < 8796093022208
                · rw [if_pos c8] at H
                  have LMc8 := Aside0.mk c8
                  clear c8
                  obtain ⟨y103, hy103⟩ : ∃ y_ : List ByteArray, y_ = (x3_1 ++ [(rdOf ByteArray.empty l0 x4_1).extract 0 ((ji5) : Int).toNat]) := ⟨_, rfl⟩
                  replace H : (lienlaw11_few.l0 k1 l0 y103 (wrap64 (x4_1 + 1))) = some r := by first | (rw [hy103]; with_reducible exact H) | (have H2_ := (Option.bind_some _ _).symm.trans H; rw [hy103]; with_reducible exact H2_) | (have H2_ := (Option.bind_some _ _).symm.trans H; with_reducible exact H2_) | with_reducible exact H | (rw [hy103]; exact H) | exact H
                  have Ny103 := Aside0.mk hy103
                  clear hy103
                  have H' := Aside0.mk H
                  clear H
                  try go_wp2
                  have n0_ := Aside0.mk (Kd.R_drew HO_3.out)
                  have n1_ := Aside0.mk (below_drew1 HB.out)
                  clear HO_3
                  clear HB
                  have HO_3 := n0_
                  have HB := n1_
                  clear n0_ n1_
                  have p101 : 0 ≤ (x4_1 : Int) := of_decide_eq_true (by first | (with_reducible assumption) | assumption)
                  have q101 : x4_1 < (l0.length : Int) := of_decide_eq_true (by first | (with_reducible assumption) | assumption)
                  obtain ⟨ad101, e101, hx101_0⟩ := Kd.at_string HR0.out x4_1 p101 q101
                  have hw101_0 := hx101_0
                  cases e101
                  replace hx101_0 := (HB.out.cell (World.block_lt_of_cell? w _ hx101_0)).trans hx101_0
                  replace p101 := eq_true p101
                  replace q101 := eq_true q101
                  have p102 : 0 ≤ (x4_1 : Int) := of_decide_eq_true (by first | (with_reducible assumption) | assumption)
                  have q102 : x4_1 < (l0.length : Int) := of_decide_eq_true (by first | (with_reducible assumption) | assumption)
                  obtain ⟨ad102, e102, hx102_0⟩ := Kd.at_string HR0.out x4_1 p102 q102
                  have hw102_0 := hx102_0
                  obtain rfl : ad101 = ad102 := (by injection e102)
                  replace hx102_0 := (HB.out.cell (World.block_lt_of_cell? w _ hx102_0)).trans hx102_0
                  replace p102 := eq_true p102
                  replace q102 := eq_true q102
                  refine start_ (n := 15) (S := fun w' => w'.cell? (ad101.add (x4_1).toNat) = some (.string (rdOf ByteArray.empty l0 x4_1)) ∧ w'.cell? (ad101.add (x4_1).toNat) = some (.string (rdOf ByteArray.empty l0 x4_1))) (ds := []) #[false, false, false, false, false, false, false, false, false, false, false, false, false, false, false] (by kernel_rfl) rfl rfl ⟨((HB.out.cell (World.block_lt_of_cell? w _ hw101_0)).trans hw101_0), ((HB.out.cell (World.block_lt_of_cell? w _ hw102_0)).trans hw102_0)⟩ (fun hHeld => ?_); refine with_tabW lienlaw11_few.tab5 lienlaw11_few.bits5 (fun HT_ HW_ => ?_)
                  generalize wr.drew = w9 at HO_3 HB hx101_0 hx102_0 hHeld ⊢
                  refine pure_ (i := 0) (N := some 15) (v := ?_) (a' := ?_) #[true, false, false, false, false, false, false, false, false, false, false, false, false, false, false] rfl rfl (any_of HT_.out (by kernel_rfl)) (fun _ _ _ h => h) (Or.inl ⟨by rfl, ?_⟩) ?_ ?_
                  rotate_left
                  · intro w'
                    go_simp
                    with_reducible rfl
                  rotate_left
                  · simp only [Act.put, List.setIfInBounds_toArray, List.set_cons_zero, List.set_cons_succ, i64_w, i32_w]
                    rfl
                  refine pure_ (i := 1) (N := some 16) (v := ?_) (a' := ?_) #[true, true, false, false, false, false, false, false, false, false, false, false, false, false, false] rfl rfl (any_of HT_.out (by kernel_rfl)) (fun _ _ _ h => h) (Or.inl ⟨by rfl, ?_⟩) ?_ ?_
                  rotate_left
                  · intro w'
                    go_simp
                    with_reducible rfl
                  rotate_left
                  · simp only [Act.put, List.setIfInBounds_toArray, List.set_cons_zero, List.set_cons_succ, i64_w, i32_w]
                    rfl
                  refine pure_ (i := 2) (N := some 17) (v := ?_) (a' := ?_) #[true, true, true, false, false, false, false, false, false, false, false, false, false, false, false] rfl rfl (any_of HT_.out (by kernel_rfl)) (fun _ _ _ h => h) (Or.inl ⟨by rfl, ?_⟩) ?_ ?_
                  rotate_left
                  · intro w'
                    go_simp
                    with_reducible rfl
                  rotate_left
                  · simp only [Act.put, List.setIfInBounds_toArray, List.set_cons_zero, List.set_cons_succ, i64_w, i32_w]
                    rfl
                  refine pure_ (i := 3) (N := some 18) (v := ?_) (a' := ?_) #[true, true, true, true, false, false, false, false, false, false, false, false, false, false, false] rfl rfl (any_of HT_.out (by kernel_rfl)) (fun _ _ _ h => h) (Or.inl ⟨by rfl, ?_⟩) ?_ ?_
                  rotate_left
                  · intro w'
                    go_simp
                    with_reducible rfl
                  rotate_left
                  · simp only [Act.put, List.setIfInBounds_toArray, List.set_cons_zero, List.set_cons_succ, i64_w, i32_w]
                    rfl
                  refine pure_ (i := 5) (N := some 20) (v := ?_) (a' := ?_) #[true, true, true, true, false, true, false, false, false, false, false, false, false, false, false] rfl rfl (any_of HT_.out (by kernel_rfl)) (fun _ _ _ h => h) (Or.inl ⟨by rfl, ?_⟩) ?_ ?_
                  rotate_left
                  · intro w'
                    go_simp
                    with_reducible rfl
                  rotate_left
                  · simp only [Act.put, List.setIfInBounds_toArray, List.set_cons_zero, List.set_cons_succ, i64_w, i32_w]
                    rfl
                  refine pure_ (i := 6) (N := some 21) (v := ?_) (a' := ?_) #[true, true, true, true, false, true, true, false, false, false, false, false, false, false, false] rfl rfl (any_of HT_.out (by kernel_rfl)) (fun _ _ _ h => h) (Or.inl ⟨by rfl, ?_⟩) ?_ ?_
                  rotate_left
                  · intro w'
                    go_simp
                    with_reducible rfl
                  rotate_left
                  · simp only [Act.put, List.setIfInBounds_toArray, List.set_cons_zero, List.set_cons_succ, i64_w, i32_w]
                    rfl
                  refine pure_ (i := 7) (N := some 22) (v := ?_) (a' := ?_) #[true, true, true, true, false, true, true, true, false, false, false, false, false, false, false] rfl rfl (any_of HT_.out (by kernel_rfl)) (fun _ _ _ h => h) (Or.inl ⟨by rfl, ?_⟩) ?_ ?_
                  rotate_left
                  · intro w'
                    go_simp
                    with_reducible rfl
                  rotate_left
                  · simp only [Act.put, List.setIfInBounds_toArray, List.set_cons_zero, List.set_cons_succ, i64_w, i32_w]
                    rfl
                  refine take_ (i := 4) (N := some 19) (v := ?_) (a' := ?_) #[true, true, true, true, true, true, true, true, false, false, false, false, false, false, false] rfl rfl (take_ofW HT_.out HW_.out (by kernel_rfl)) (fun _ _ _ h => h) (Or.inl ⟨by rfl, ?_⟩) hHeld ?_ ?_
                  rotate_left
                  · rintro w' ⟨s0, s1⟩
                    go_simp
                    with_reducible rfl
                  rotate_left
                  · simp only [Act.put, List.setIfInBounds_toArray, List.set_cons_zero, List.set_cons_succ, i64_w, i32_w]
                    rfl
                  refine take_ (i := 8) (N := some 23) (v := ?_) (a' := ?_) #[true, true, true, true, true, true, true, true, true, false, false, false, false, false, false] rfl rfl (take_ofW HT_.out HW_.out (by kernel_rfl)) (fun _ _ _ h => h) (Or.inl ⟨by rfl, ?_⟩) hHeld ?_ ?_
                  rotate_left
                  · rintro w' ⟨s0, s1⟩
                    go_simp
                    with_reducible rfl
                  rotate_left
                  · simp only [Act.put, List.setIfInBounds_toArray, List.set_cons_zero, List.set_cons_succ, i64_w, i32_w]
                    rfl
                  refine pure_ (i := 9) (N := some 24) (v := ?_) (a' := ?_) #[true, true, true, true, true, true, true, true, true, true, false, false, false, false, false] rfl rfl (any_of HT_.out (by kernel_rfl)) (fun _ _ _ h => h) (Or.inl ⟨by rfl, ?_⟩) ?_ ?_
                  rotate_left
                  · intro w'
                    go_simp
                    with_reducible rfl
                  rotate_left
                  · simp only [Act.put, List.setIfInBounds_toArray, List.set_cons_zero, List.set_cons_succ, i64_w, i32_w]
                    rfl
                  refine pure_ (i := 10) (N := some 25) (v := ?_) (a' := ?_) #[true, true, true, true, true, true, true, true, true, true, true, false, false, false, false] rfl rfl (any_of HT_.out (by kernel_rfl)) (fun _ _ _ h => h) (Or.inl ⟨by rfl, ?_⟩) ?_ ?_
                  rotate_left
                  · intro w'
                    go_simp
                    with_reducible rfl
                  rotate_left
                  · simp only [Act.put, List.setIfInBounds_toArray, List.set_cons_zero, List.set_cons_succ, i64_w, i32_w]
                    rfl
                  refine pure_ (i := 11) (N := some 26) (v := ?_) (a' := ?_) #[true, true, true, true, true, true, true, true, true, true, true, true, false, false, false] rfl rfl (any_of HT_.out (by kernel_rfl)) (fun _ _ _ h => h) (Or.inl ⟨by rfl, ?_⟩) ?_ ?_
                  rotate_left
                  · intro w'
                    go_simp
                    with_reducible rfl
                  rotate_left
                  · simp only [Act.put, List.setIfInBounds_toArray, List.set_cons_zero, List.set_cons_succ, i64_w, i32_w]
                    rfl
                  refine one_ (i := 12) (N := some 27) #[true, true, true, true, true, true, true, true, true, true, true, true, true, false, false] rfl rfl (one_of HT_.out (by kernel_rfl)) (by decide) (fun K hK => ?_)
                  refine value_ (w1 := ?_) (v := ?_) (by rfl) rfl ?_ ?_
                  rotate_left 2
                  · go_simp
                    constructor
                    · rfl
                    · rfl
                  refine hK.out _ _ ⟨(World.cell?_alloc_lt _ _ _ (World.block_lt_of_cell? _ _ (((HB.out.cell (World.block_lt_of_cell? w _ hw101_0)).trans hw101_0)))).trans (((HB.out.cell (World.block_lt_of_cell? w _ hw101_0)).trans hw101_0)), (World.cell?_alloc_lt _ _ _ (World.block_lt_of_cell? _ _ (((HB.out.cell (World.block_lt_of_cell? w _ hw102_0)).trans hw102_0)))).trans (((HB.out.cell (World.block_lt_of_cell? w _ hw102_0)).trans hw102_0))⟩ (fun hHeld => ?_)
                  clear hK K
                  refine norm_ (a' := ?_) ?_ ?_
                  rotate_left
                  · show Act.put _ (some 27) _ = _
                    simp only [Act.put, List.setIfInBounds_toArray, List.set_cons_zero, List.set_cons_succ, i64_w, i32_w]
                    rfl
                  refine one_ (i := 13) (N := some 28) #[true, true, true, true, true, true, true, true, true, true, true, true, true, true, false] rfl rfl (one_of HT_.out (by kernel_rfl)) (by decide) (fun K hK => ?_)
                  refine Kd.R_append_step Kd.string (w0 := w) w.heap.size (by rfl) (.tmp 15) (.tmp 27) 22 9 (.string ⟨#[]⟩) 16 rfl Try.underlying22 info9 rfl (by decide) (by omega) u3 x3_1 ((rdOf ByteArray.empty l0 x4_1).extract 0 ((ji5) : Int).toNat) [.string ((rdOf ByteArray.empty l0 x4_1).extract 0 ((ji5) : Int).toNat)] (fun _ => True) (fun _ => False) rfl rfl ?aP (fun _ hk => hk.elim) ?aF ?aO ?aB ?aS ?aL ?_
                  (case aP => exact rfl)
                  (case aB => exact (by repeat (first | (with_reducible first | exact HB.out | apply below_alloc | apply pw_below_drewN | apply below_drew1) | exact HB.out)))
                  (case aF => exact (fun _ _ => trivial))
                  (case aO => exact (by (with_reducible repeat (first | apply Kd.R_alloc | apply Kd.R_drewN | apply Kd.R_drew)); exact HO_3.out))
                  (case aS => exact (below_size (by repeat (first | (with_reducible first | exact HB.out | apply below_alloc | apply pw_below_drewN | apply below_drew1) | exact HB.out))))
                  (case aL => have := LMc8.out; omega)
                  intro v104 w10 ho hb hg hat
                  rw [← Ny103.out] at ho
                  have n0_ := Aside0.mk (hb)
                  have n1_ := Aside0.mk (ho)
                  clear HB
                  clear HO_3
                  have HB := n0_
                  have HO105 := n1_
                  clear n0_ n1_
                  clear ho hb hg hat
                  refine hK.out _ _ ⟨((HB.out.cell (World.block_lt_of_cell? w _ hw101_0)).trans hw101_0), ((HB.out.cell (World.block_lt_of_cell? w _ hw102_0)).trans hw102_0)⟩ (fun hHeld => ?_)
                  clear hK K
                  refine norm_ (a' := ?_) ?_ ?_
                  rotate_left
                  · show Act.put _ (some 28) _ = _
                    simp only [Act.put, List.setIfInBounds_toArray, List.set_cons_zero, List.set_cons_succ, i64_w, i32_w]
                    rfl
                  refine pure_ (i := 14) (N := some 3) (v := ?_) (a' := ?_) #[true, true, true, true, true, true, true, true, true, true, true, true, true, true, true] rfl rfl (any_of HT_.out (by kernel_rfl)) (fun _ _ _ h => h) (Or.inl ⟨by rfl, ?_⟩) ?_ ?_
                  rotate_left
                  · intro w'
                    go_simp
                    with_reducible rfl
                  rotate_left
                  · simp only [Act.put, List.setIfInBounds_toArray, List.set_cons_zero, List.set_cons_succ, i64_w, i32_w]
                    rfl
                  refine done_ (done_of HT_.out (by kernel_rfl)) ?_
                  try go_wp2
                  go_roundg k1
                  case measure => have := HK1.out; omega
                  case rel => exact ⟨(y103), (wrap64 (x4_1 + 1)), (by first | rfl | (simp; done) | (simp [*]; done)), H', ⟨by have := HK1.out; omega⟩, ⟨by (with_reducible repeat (first | apply Kd.R_alloc | apply Kd.R_drewN | apply Kd.R_drew)); exact HO105.out⟩, ⟨by repeat (first | (with_reducible first | exact HB.out | apply below_alloc | apply pw_below_drewN | apply below_drew1) | exact HB.out)⟩⟩
                · rw [if_neg c8] at H
                  exact absurd H (by simp)
              · rw [if_neg c7] at H
                exact absurd H (by simp)
            · rw [if_neg c6] at H
              exact absurd H (by simp)
          · rw [if_neg c4] at H
            exact absurd H (by simp)
        · rw [if_neg c3] at H
          have c3b0 : decide (x4_1 < 200) = false := decide_eq_false c3
          clear c3
          obtain rfl := Option.some.inj H
          go_wp2
          go_ret
          exact ⟨_, by first | rfl | (simp [errW_none, errW_some] <;> rfl) | (simp [*, errW_none, errW_some] <;> rfl), by (with_reducible repeat (first | apply Kd.R_alloc | apply Kd.R_drewN | apply Kd.R_drew)); exact HO_3.out, by repeat (first | (with_reducible first | exact HB.out | apply below_alloc | apply pw_below_drewN | apply below_drew1) | exact HB.out)⟩
      · rw [if_neg c2] at H
        have c2b0 : decide (x4_1 < (l0.length : Int)) = false := decide_eq_false c2
        clear c2
        obtain rfl := Option.some.inj H
        go_wp2
        go_ret
        exact ⟨_, by first | rfl | (simp [errW_none, errW_some] <;> rfl) | (simp [*, errW_none, errW_some] <;> rfl), by (with_reducible repeat (first | apply Kd.R_alloc | apply Kd.R_drewN | apply Kd.R_drew)); exact HO_3.out, by repeat (first | (with_reducible first | exact HB.out | apply below_alloc | apply pw_below_drewN | apply below_drew1) | exact HB.out)⟩

/-! ### bloom_Hash: function 43 -/
def bloom_Hash.l0 : Nat → ByteArray → Int → Int → Int → Option (Int)
  | 0, _, _, _, _ => none
  | k + 1, x0, x3, x6, x7 => if x7 < x6 then (if 0 ≤ x7 then (if x7 < (x0.size : Int) then (bloom_Hash.l0 k x0 (IntKind.u64.wrap ((Go.bits .xor .u64 x3 (IntKind.u64.wrap (bt x0 x7))) * 13787848793156543929)) x6 (wrap64 (x7 + 1))) else (none)) else (none)) else (some (Go.bits .xor .u64 (IntKind.u64.wrap ((Go.bits .xor .u64 x3 (x3 / 2147483648)) * 10723151780598845931)) ((IntKind.u64.wrap ((Go.bits .xor .u64 x3 (x3 / 2147483648)) * 10723151780598845931)) / 536870912)))
def bloom_Hash.f (k : Nat) (a0 : ByteArray) : Option (Int) := bloom_Hash.l0 k a0 11400714819323198485 (a0.size : Int) 0
theorem bloom_Hash.mono_l : ∀ k, (∀ y0 y1 y2 y3, LeO (bloom_Hash.l0 k y0 y1 y2 y3) (bloom_Hash.l0 (k + 1) y0 y1 y2 y3))
  | 0 => fun _ _ _ _ r h => by simp [bloom_Hash.l0] at h
  | k + 1 => by
    have ih0 := bloom_Hash.mono_l k
    · intro y0 y1 y2 y3
      unfold bloom_Hash.l0
      repeat' first
      | (with_reducible exact ih0 _ _ _ _)
      | (with_reducible exact LeO.refl _)
      | (with_reducible exact LeO.none _)
      | (with_reducible refine LeO.ite ?_ ?_)
      | (with_reducible refine LeO.bind ?_ (fun _ => ?_))
      | exact ih0 _ _ _ _
      | exact LeO.none _
      | refine LeO.ite ?_ ?_
      | refine LeO.bind ?_ (fun _ => ?_)
theorem bloom_Hash.mono : ∀ a0 k, LeO (bloom_Hash.f k a0) (bloom_Hash.f (k + 1) a0) := by
  intro a0 k
  have ih0 := bloom_Hash.mono_l k
  unfold bloom_Hash.f
  repeat' first
      | (with_reducible exact ih0 _ _ _ _)
      | (with_reducible exact LeO.refl _)
      | (with_reducible exact LeO.none _)
      | (with_reducible refine LeO.ite ?_ ?_)
      | (with_reducible refine LeO.bind ?_ (fun _ => ?_))
      | exact ih0 _ _ _ _
      | exact LeO.none _
      | refine LeO.ite ?_ ?_
      | refine LeO.bind ?_ (fun _ => ?_)
set_option maxHeartbeats 8000000 in
set_option maxRecDepth 100000 in
theorem bloom_Hash.calls (k : Nat) (a0 : ByteArray) (r : Int) (w : World) (h : bloom_Hash.f k a0 = some r) :
    Calls Try.prog 43 #[.string a0] w fun e w' => e = .returned (.int .u64 r) ∧ Drawn0 w w' := by
  have H : (bloom_Hash.l0 k a0 11400714819323198485 (a0.size : Int) 0) = some r := h
  clear h
  have H' := Aside0.mk H
  clear H
  go_enter Try.func43, Try.ntmps43
  go_wp2
  go_loopg [3, 7] k (fun kq v3 v7 w' => ∃ (x3_1 : Int) (x7_1 : Int), v3 = .int .u64 x3_1 ∧ v7 = .int .i64 x7_1 ∧ Aside0 (bloom_Hash.l0 kq a0 x3_1 (a0.size : Int) x7_1 = some r) ∧ Aside0 (kq ≤ k) ∧ Drawn0 w w')
  case atStart => exact ⟨(11400714819323198485), (0), (by first | rfl | (simp; done) | (simp [*]; done)), (by first | rfl | (simp; done) | (simp [*]; done)), H', ⟨Nat.le_refl _⟩, by repeat (first | exact Drawn0.refl _ | apply Drawn0.step)⟩
  case round =>
    clear H'
    obtain ⟨x3_1, x7_1, rfl, rfl, HA, HK1, ⟨m1, rfl⟩⟩ := hrel
    cases gk with
    | zero => exact absurd HA.out (by simp [bloom_Hash.l0])
    | succ k1 =>
      have H := HA.out
      clear HA
      simp only [bloom_Hash.l0] at H
      by_cases c2 : x7_1 < (a0.size : Int)
      · rw [if_pos c2] at H
        have c2b0 : decide (x7_1 < (a0.size : Int)) = true := decide_eq_true c2
        clear c2
        by_cases c3 : 0 ≤ x7_1
        · rw [if_pos c3] at H
          have c3b0 : decide (0 ≤ x7_1) = true := decide_eq_true c3
          clear c3
          by_cases c4 : x7_1 < (a0.size : Int)
          · rw [if_pos c4] at H
            have c4b0 : decide (x7_1 < (a0.size : Int)) = true := decide_eq_true c4
            clear c4
            have H' := Aside0.mk H
            clear H
            have p5 : 0 ≤ (x7_1 : Int) := of_decide_eq_true (by first | (with_reducible assumption) | assumption)
            have q5 : x7_1 < (a0.size : Int) := of_decide_eq_true (by first | (with_reducible assumption) | assumption)
            have hx5 := bt_at a0 x7_1
            replace p5 := eq_true p5
            replace q5 := eq_true q5
            go_wp2
            go_roundg k1
            case measure => have := HK1.out; omega
            case rel => exact ⟨(IntKind.u64.wrap ((Go.bits .xor .u64 x3_1 (IntKind.u64.wrap (bt a0 x7_1))) * 13787848793156543929)), (wrap64 (x7_1 + 1)), (by first | rfl | (simp; done) | (simp [*]; done)), (by first | rfl | (simp; done) | (simp [*]; done)), H', ⟨by have := HK1.out; omega⟩, by repeat (first | exact Drawn0.refl _ | apply Drawn0.step)⟩
          · rw [if_neg c4] at H
            exact absurd H (by simp)
        · rw [if_neg c3] at H
          exact absurd H (by simp)
      · rw [if_neg c2] at H
        have c2b0 : decide (x7_1 < (a0.size : Int)) = false := decide_eq_false c2
        clear c2
        obtain rfl := Option.some.inj H
        go_wp2
        go_ret
        exact ⟨by first | rfl | (simp; done) | (simp [*]; done), by repeat (first | exact Drawn0.refl _ | apply Drawn0.step)⟩

-- NOT PRINTED: function 58 (bloom_filter_spot)

-- NOT PRINTED: function 53 (bloom_filter_each)

/-! ### ours: bl_each -/

set_option maxHeartbeats 4000000 in
set_option maxRecDepth 100000 in
theorem bl_spot (A : Addr) (n c : Nat) (p q : Int) (w : World) (h0 : 0 ≤ q) (h1 : q / 8 < n) (hn : n ≤ c) (hs : n ≤ 8192) :
    Calls Try.prog 58 #[.agg #[.slice (some A) n c, .int .i64 p], .int .u64 q] w fun e w' =>
      e = .returned (.tuple #[.slice (some (A.add (q / 8).toNat)) 1 1, .int .u8 (2 ^ (q % 8).toNat % 256)]) ∧ Below w.heap.size w w' := by
  have hu69 := Try.underlying69
  have HB := Aside0.mk (Below.refl w.heap.size w)
  have e1 : IntKind.i64.wrap (q / 8) = q / 8 := by simp [IntKind.wrap, IntKind.bits]; omega
  go_enter Try.func58, Try.ntmps58
  go_wp2_with (first | ((with_reducible refine gate_dst (N := 2) rfl ?_); refine box_event ?hg (N := 2) ?hd (cs := #[.slice (some A) n c, .int .i64 p]) (t := 69) ?hr ?_; (case hd => rfl); (case hg => rfl); (case hr => first | (go_simp; done) | (go_simp; rfl)); intro g2 hg w1 hbox hb; have m0 := Aside0.mk (below_step (by repeat (first | (with_reducible first | exact HB.out | apply below_alloc | apply pw_below_drewN | apply below_drew1) | exact HB.out)) hb); have m1 := Aside0.mk hbox; have m2 := Aside0.mk ((by rw [hg]; exact (below_size (by repeat (first | (with_reducible first | exact HB.out | apply below_alloc | apply pw_below_drewN | apply below_drew1) | exact HB.out))) : w.heap.size ≤ g2)); clear HB; have HB := m0; have B2 := m1; have G2 := m2; clear m0 m1 m2; clear hb hbox hg; have hc0 := blk_cell B2.out 0; have hc1 := blk_cell B2.out 1; simp only [List.getElem?_toArray, List.getElem?_cons_zero, List.getElem?_cons_succ] at hc0 hc1))
  have e2 : (q / 8 + 1).toNat - (q / 8).toNat = 1 := by omega
  rw [e2]
  go_ret2
  exact ⟨rfl, by repeat (first | (with_reducible first | exact HB.out | apply below_alloc | apply pw_below_drewN | apply below_drew1) | exact HB.out)⟩

set_option maxHeartbeats 4000000 in
set_option maxRecDepth 100000 in
theorem bl_mk1 (g i cap b : Nat) (ok : Nat → Prop) (xs : List Int) (m : Int) (w : World) (hR : (Kd.int .u8).R 5 w b ok (.slice (some ⟨g, 0, none⟩) xs.length cap) xs) (hi : i < xs.length) :
    Calls Try.prog 54 #[.slice (some ⟨g, i, none⟩) 1 1, .int .u8 m] w fun e w' =>
      e = .returned (.bool true) ∧ w' = w.setCell ⟨g, i, none⟩ (.int .u8 (Go.bits .or .u8 (rd xs i) m)) := by
  have hc := Kd.R_celln (d := 0) hR (i : Int) (by omega) (by omega)
  have c0 : w.cell? ⟨g, i, none⟩ = some (.int .u8 (rd xs i)) := hc.1
  have f0 : w.frozen? ⟨g, i, none⟩ = false := hc.2
  go_enter Try.func54, Try.ntmps54
  go_wp2
  go_ret
  exact ⟨rfl, rfl⟩
set_option maxHeartbeats 4000000 in
set_option maxRecDepth 100000 in
theorem bl_has1 (A : Addr) (x m : Int) (w : World) (c0 : w.cell? A = some (.int .u8 x)) :
    Calls Try.prog 57 #[.slice (some A) 1 1, .int .u8 m] w fun e w' =>
      e = .returned (.bool (Go.bits .and .u8 x m != 0)) ∧ w' = w := by
  go_enter Try.func57, Try.ntmps57
  go_wp2
  go_ret
  exact ⟨rfl, rfl⟩

def bl_step (h : Int) : Int := if h / 8589934592 = 0 then 1 else h / 8589934592
def bl_mark (xs : List Int) (p : Int) : List Int := xs.set (1 + p / 8).toNat (Go.bits .or .u8 (rd xs (1 + p / 8)) (2 ^ (p % 8).toNat % 256))
def bl_marks (m s : Int) : Nat → Int → List Int → List Int
  | 0, _, xs => xs
  | n + 1, h, xs => bl_marks m s n (IntKind.u64.wrap (h + s)) (bl_mark xs (h % m))
def bl_has (m s : Int) (l : List Int) : Nat → Int → Bool
  | 0, _ => true
  | n + 1, h => if (Go.bits .and .u8 (rd l (h % m / 8)) (2 ^ (h % m % 8).toNat % 256) != 0) = true then bl_has m s l n (IntKind.u64.wrap (h + s)) else false

def bl_kb (g : Nat) (w w' : World) : Prop := w.heap.size ≤ w'.heap.size ∧ ∀ k, k < w.heap.size → k ≠ g → w'.heap[k]? = w.heap[k]?
theorem bl_kb_refl (g : Nat) (w : World) : bl_kb g w w := ⟨Nat.le_refl _, fun _ _ _ => rfl⟩
theorem bl_kb_below {g : Nat} {w W w2 : World} (h : bl_kb g w W) (hb : Below W.heap.size W w2) : bl_kb g w w2 := ⟨Nat.le_trans h.1 hb.size, fun k hk hg => (hb.block k (Nat.lt_of_lt_of_le hk h.1)).trans (h.2 k hk hg)⟩
theorem bl_kb_drewN {g : Nat} {w W : World} (h : bl_kb g w W) (n : Nat) : bl_kb g w (W.drewN n) := bl_kb_below h (pw_below_drewN (Below.refl _ _) n)
theorem bl_kb_drew {g : Nat} {w W : World} (h : bl_kb g w W) : bl_kb g w W.drew := bl_kb_below h (below_drew (Below.refl _ _))
theorem bl_kb_alloc {g : Nat} {w W : World} (h : bl_kb g w W) (o : Obj) : bl_kb g w (W.alloc o) := bl_kb_below h (below_alloc (Below.refl _ _) o)
theorem bl_kb_set {g j : Nat} {v : Value} {w W : World} (h : bl_kb g w W) (hs : W.heap.size ≤ (W.setCell ⟨g, j, none⟩ v).heap.size) : bl_kb g w (W.setCell ⟨g, j, none⟩ v) := ⟨Nat.le_trans h.1 hs, fun k hk hg => (Below.heap_setCell W ⟨g, j, none⟩ v k hg).trans (h.2 k hk hg)⟩

set_option maxHeartbeats 8000000 in
set_option maxRecDepth 100000 in
theorem bl_eachHas (A : Addr) (l : List Int) (c : Nat) (p : Nat) (key : ByteArray) (h : Int) (w : World) (hC : Kd.C (Kd.int .u8) w (some A) l.length l) (hc : l.length ≤ c) (h1 : 8 ≤ l.length) (h2 : l.length ≤ 8192) (hp : p ≤ 16) (hh : bloom_Hash.f (key.size + 1) key = some h) (hh0 : 0 ≤ h) (r : Bool) (hrr : bl_has (8 * (l.length : Int)) (bl_step h) l p h = r) :
    Calls Try.prog 53 #[.agg #[.slice (some A) l.length c, .int .i64 (p : Int)], .string key, .func (.func 57) #[] #[]] w fun e w' => e = .returned (.bool r) ∧ Below w.heap.size w w' := by
  have hu69 := Try.underlying69
  have HC := Aside0.mk hC
  clear hC
  have HB := Aside0.mk (Below.refl w.heap.size w)
  have HRS0 := Aside0.mk hrr
  clear hrr
  have hm : IntKind.u64.wrap (8 * IntKind.u64.wrap (l.length : Int)) = 8 * (l.length : Int) := by simp [IntKind.wrap, IntKind.bits]; omega
  by_cases c3 : h / 8589934592 = 0
  · have c3b : decide (h / 8589934592 = 0) = true := decide_eq_true c3
    have c3c : (h / 8589934592 == 0) = true := by simpa using c3
    have HRS : Aside0 (bl_has (8 * (l.length : Int)) 1 l p h = r) := ⟨by have q := HRS0.out; rw [show bl_step h = 1 from if_pos c3] at q; exact q⟩
    clear HRS0
    go_enter Try.func53, Try.ntmps53
    go_wp2_with (first | ((with_reducible refine gate_dst (N := 3) rfl ?_); refine box_event ?hg (N := 3) ?hd (cs := #[.slice (some A) l.length c, .int .i64 (p : Int)]) (t := 69) ?hr ?_; (case hd => rfl); (case hg => rfl); (case hr => first | (go_simp; done) | (go_simp; rfl)); intro g2 hg w1 hbox hb; have m0 := Aside0.mk (below_step (by repeat (first | (with_reducible first | exact HB.out | apply below_alloc | apply pw_below_drewN | apply below_drew1) | exact HB.out)) hb); have m1 := Aside0.mk hbox; have m2 := Aside0.mk ((by rw [hg]; exact (below_size (by repeat (first | (with_reducible first | exact HB.out | apply below_alloc | apply pw_below_drewN | apply below_drew1) | exact HB.out))) : w.heap.size ≤ g2)); have m3 := Aside0.mk (Kd.C_below (by (with_reducible repeat (first | apply Kd.C_alloc | apply Kd.C_drewN | apply Kd.C_drew)); exact HC.out) hb); clear HB HC; have HB := m0; have B2 := m1; have G2 := m2; have HC := m3; clear m0 m1 m2 m3; clear hb hbox hg) | ((with_reducible refine gate_callee (f := 43) rfl ?_); refine goesL_ (some 13) rfl rfl Try.func43 (by kernel_rfl) rfl #[.string key] rfl (by (try simp only [List.map_toArray, List.map_cons, List.map_nil]); first | done | rfl) ?_; (with_reducible refine (bloom_Hash.calls _ key h _ hh).mono ?_); rintro e w2 ⟨rfl, ⟨⟨nd, rfl⟩⟩⟩; refine ⟨_, rfl, ?_⟩; have hc0 := blk_cell B2.out 0; have hc1 := blk_cell B2.out 1; simp only [List.getElem?_toArray, List.getElem?_cons_zero, List.getElem?_cons_succ] at hc0 hc1))
    have hc0 := blk_cell B2.out 0
    have hc1 := blk_cell B2.out 1
    simp only [List.getElem?_toArray, List.getElem?_cons_zero, List.getElem?_cons_succ] at hc0 hc1
    go_loopg [7, 25] p (fun kq v7 v25 w' => ∃ (x : Int) (j : Nat), v7 = .int .u64 x ∧ v25 = .int .i64 (j : Int) ∧ Aside0 (0 ≤ x) ∧ Aside0 (kq + j = p) ∧ Aside0 (bl_has (8 * (l.length : Int)) 1 l kq x = r) ∧ Aside0 (Kd.C (Kd.int .u8) w' (some A) l.length l) ∧ Aside0 (w'.heap[g2]? = some (.cells #[.slice (some A) l.length c, .int .i64 (p : Int)] 69 (0, 0))) ∧ Aside0 (Below w.heap.size w w'))
    case atStart => exact ⟨h, 0, rfl, rfl, ⟨hh0⟩, ⟨rfl⟩, HRS, ⟨(by (with_reducible repeat (first | apply Kd.C_alloc | apply Kd.C_drewN | apply Kd.C_drew)); exact HC.out)⟩, ⟨(by (with_reducible repeat (first | refine blk_drewN ?_ _ | refine blk_drew ?_ | refine blk_alloc ?_ _)); exact B2.out)⟩, ⟨by repeat (first | (with_reducible first | exact HB.out | apply below_alloc | apply pw_below_drewN | apply below_drew1) | exact HB.out)⟩⟩
    case round =>
      clear HC  B2 HB HRS hc0 hc1
      obtain ⟨x, j, rfl, rfl, HX, HK, HRS, HC, B2, HB⟩ := hrel
      cases gk with
      | zero =>
        have ej : j = p := by have := HK.out; omega
        subst ej
        have hr := HRS.out
        simp only [bl_has] at hr
        subst hr
        go_wp2
        go_ret
        exact ⟨rfl, by repeat (first | (with_reducible first | exact HB.out | apply below_alloc | apply pw_below_drewN | apply below_drew1) | exact HB.out)⟩
      | succ n =>
        have hjp := Aside0.mk (show j < p by have := HK.out; omega)
        have hjb : decide ((j : Int) < (p : Int)) = true := decide_eq_true (by have := hjp.out; omega)
        have hjb' : decide (j < p) = true := decide_eq_true hjp.out
        have hx0 := HX.out
        have hz : ¬ (8 * (l.length : Int)) = 0 := by omega
        obtain ⟨q, hq⟩ : ∃ q, Int.tmod x (8 * (l.length : Int)) = q := ⟨_, rfl⟩
        have het : q = x % (8 * (l.length : Int)) := hq.symm.trans (Int.tmod_eq_emod_of_nonneg hx0)
        have hq0 := Aside0.mk (show 0 ≤ q by rw [het]; exact Int.emod_nonneg _ hz)
        have hq1 := Aside0.mk (show q / 8 < l.length by rw [het]; have := Int.emod_lt_of_pos x (show (0 : Int) < 8 * (l.length : Int) by omega); omega)
        have hr := HRS.out
        simp only [bl_has] at hr
        rw [← het] at hr
        clear HRS
        have het' := Aside0.mk het
        clear het
        have hw0 : 0 ≤ IntKind.u64.wrap (x + 1) := by rw [show IntKind.u64.wrap (x + 1) = (x + 1) % 18446744073709551616 from by simp [IntKind.wrap, IntKind.bits, IntKind.signed]]; omega
        have HW0 := Aside0.mk hw0
        clear hw0
        cases hbv : (Go.bits .and .u8 (rd l (q / 8)) (2 ^ (q % 8).toNat % 256) != 0)
        all_goals rw [hbv] at hr
        all_goals have HBV := Aside0.mk hbv
        all_goals clear hbv
        case false =>
          have hr' : false = r := hr
          subst hr'
          clear hr
          have hc0 := blk_cell B2.out 0
          have hc1 := blk_cell B2.out 1
          simp only [List.getElem?_toArray, List.getElem?_cons_zero, List.getElem?_cons_succ] at hc0 hc1
          go_wp2
          go_region_with (first | ((with_reducible refine (bl_spot A l.length c p q _ hq0.out hq1.out hc h2).mono ?_); rintro e w8 ⟨rfl, hb⟩; have m0 := Aside0.mk (below_step (by repeat (first | (with_reducible first | exact HB.out | apply below_alloc | apply pw_below_drewN | apply below_drew1) | exact HB.out)) hb); have m1 := Aside0.mk (Kd.C_below (by (with_reducible repeat (first | apply Kd.C_alloc | apply Kd.C_drewN | apply Kd.C_drew)); exact HC.out) hb); have m2 := Aside0.mk (blk_below (g := g2) (o := .cells #[.slice (some A) l.length c, .int .i64 (p : Int)] 69 (0, 0)) (by (with_reducible repeat (first | refine blk_drewN ?_ _ | refine blk_drew ?_ | refine blk_alloc ?_ _)); exact B2.out) hb); clear HB HC B2 hb; have HB := m0; have HC := m1; have B2 := m2; clear m0 m1 m2; dsimp only))
          clear hc0 hc1
          obtain ⟨ad_, ea_, hcell⟩ := (Kd.reads_of_C (d := 0) HC.out).at_ (q / 8) (Int.ediv_nonneg hq0.out (by decide)) hq1.out
          obtain rfl := Option.some.inj ea_
          clear ea_
          have hcell' : _ = some (Value.int .u8 (rd l (q / 8))) := hcell
          clear hcell
          have hbv := HBV.out
          go_wp2
          go_ret
          exact ⟨rfl, by repeat (first | (with_reducible first | exact HB.out | apply below_alloc | apply pw_below_drewN | apply below_drew1) | exact HB.out)⟩
        case true =>
          have hr' : bl_has (8 * (l.length : Int)) 1 l n (IntKind.u64.wrap (x + 1)) = r := hr
          have HRS := Aside0.mk hr'
          clear hr hr'
          have hc0 := blk_cell B2.out 0
          have hc1 := blk_cell B2.out 1
          simp only [List.getElem?_toArray, List.getElem?_cons_zero, List.getElem?_cons_succ] at hc0 hc1
          go_wp2
          go_region_with (first | ((with_reducible refine (bl_spot A l.length c p q _ hq0.out hq1.out hc h2).mono ?_); rintro e w8 ⟨rfl, hb⟩; have m0 := Aside0.mk (below_step (by repeat (first | (with_reducible first | exact HB.out | apply below_alloc | apply pw_below_drewN | apply below_drew1) | exact HB.out)) hb); have m1 := Aside0.mk (Kd.C_below (by (with_reducible repeat (first | apply Kd.C_alloc | apply Kd.C_drewN | apply Kd.C_drew)); exact HC.out) hb); have m2 := Aside0.mk (blk_below (g := g2) (o := .cells #[.slice (some A) l.length c, .int .i64 (p : Int)] 69 (0, 0)) (by (with_reducible repeat (first | refine blk_drewN ?_ _ | refine blk_drew ?_ | refine blk_alloc ?_ _)); exact B2.out) hb); clear HB HC B2 hb; have HB := m0; have HC := m1; have B2 := m2; clear m0 m1 m2; dsimp only))
          clear hc0 hc1
          obtain ⟨ad_, ea_, hcell⟩ := (Kd.reads_of_C (d := 0) HC.out).at_ (q / 8) (Int.ediv_nonneg hq0.out (by decide)) hq1.out
          obtain rfl := Option.some.inj ea_
          clear ea_
          have hcell' : _ = some (Value.int .u8 (rd l (q / 8))) := hcell
          clear hcell
          have hbv := HBV.out
          go_wp2
          go_roundg n
          case measure => omega
          case rel => exact ⟨_, j + 1, rfl, by rw [show wrap64 ((j : Int) + 1) = ((j + 1 : Nat) : Int) from by have := hjp.out; unfold wrap64; omega], HW0, ⟨by have := HK.out; omega⟩, HRS, ⟨(by (with_reducible repeat (first | apply Kd.C_alloc | apply Kd.C_drewN | apply Kd.C_drew)); exact HC.out)⟩, ⟨(by (with_reducible repeat (first | refine blk_drewN ?_ _ | refine blk_drew ?_ | refine blk_alloc ?_ _)); exact B2.out)⟩, ⟨by repeat (first | (with_reducible first | exact HB.out | apply below_alloc | apply pw_below_drewN | apply below_drew1) | exact HB.out)⟩⟩
    
  · have c3b : decide (h / 8589934592 = 0) = false := decide_eq_false c3
    have c3c : (h / 8589934592 == 0) = false := by simpa using c3
    have HRS : Aside0 (bl_has (8 * (l.length : Int)) (h / 8589934592) l p h = r) := ⟨by have q := HRS0.out; rw [show bl_step h = h / 8589934592 from if_neg c3] at q; exact q⟩
    clear HRS0
    go_enter Try.func53, Try.ntmps53
    go_wp2_with (first | ((with_reducible refine gate_dst (N := 3) rfl ?_); refine box_event ?hg (N := 3) ?hd (cs := #[.slice (some A) l.length c, .int .i64 (p : Int)]) (t := 69) ?hr ?_; (case hd => rfl); (case hg => rfl); (case hr => first | (go_simp; done) | (go_simp; rfl)); intro g2 hg w1 hbox hb; have m0 := Aside0.mk (below_step (by repeat (first | (with_reducible first | exact HB.out | apply below_alloc | apply pw_below_drewN | apply below_drew1) | exact HB.out)) hb); have m1 := Aside0.mk hbox; have m2 := Aside0.mk ((by rw [hg]; exact (below_size (by repeat (first | (with_reducible first | exact HB.out | apply below_alloc | apply pw_below_drewN | apply below_drew1) | exact HB.out))) : w.heap.size ≤ g2)); have m3 := Aside0.mk (Kd.C_below (by (with_reducible repeat (first | apply Kd.C_alloc | apply Kd.C_drewN | apply Kd.C_drew)); exact HC.out) hb); clear HB HC; have HB := m0; have B2 := m1; have G2 := m2; have HC := m3; clear m0 m1 m2 m3; clear hb hbox hg) | ((with_reducible refine gate_callee (f := 43) rfl ?_); refine goesL_ (some 13) rfl rfl Try.func43 (by kernel_rfl) rfl #[.string key] rfl (by (try simp only [List.map_toArray, List.map_cons, List.map_nil]); first | done | rfl) ?_; (with_reducible refine (bloom_Hash.calls _ key h _ hh).mono ?_); rintro e w2 ⟨rfl, ⟨⟨nd, rfl⟩⟩⟩; refine ⟨_, rfl, ?_⟩; have hc0 := blk_cell B2.out 0; have hc1 := blk_cell B2.out 1; simp only [List.getElem?_toArray, List.getElem?_cons_zero, List.getElem?_cons_succ] at hc0 hc1))
    have hc0 := blk_cell B2.out 0
    have hc1 := blk_cell B2.out 1
    simp only [List.getElem?_toArray, List.getElem?_cons_zero, List.getElem?_cons_succ] at hc0 hc1
    go_loopg [7, 25] p (fun kq v7 v25 w' => ∃ (x : Int) (j : Nat), v7 = .int .u64 x ∧ v25 = .int .i64 (j : Int) ∧ Aside0 (0 ≤ x) ∧ Aside0 (kq + j = p) ∧ Aside0 (bl_has (8 * (l.length : Int)) (h / 8589934592) l kq x = r) ∧ Aside0 (Kd.C (Kd.int .u8) w' (some A) l.length l) ∧ Aside0 (w'.heap[g2]? = some (.cells #[.slice (some A) l.length c, .int .i64 (p : Int)] 69 (0, 0))) ∧ Aside0 (Below w.heap.size w w'))
    case atStart => exact ⟨h, 0, rfl, rfl, ⟨hh0⟩, ⟨rfl⟩, HRS, ⟨(by (with_reducible repeat (first | apply Kd.C_alloc | apply Kd.C_drewN | apply Kd.C_drew)); exact HC.out)⟩, ⟨(by (with_reducible repeat (first | refine blk_drewN ?_ _ | refine blk_drew ?_ | refine blk_alloc ?_ _)); exact B2.out)⟩, ⟨by repeat (first | (with_reducible first | exact HB.out | apply below_alloc | apply pw_below_drewN | apply below_drew1) | exact HB.out)⟩⟩
    case round =>
      clear HC  B2 HB HRS hc0 hc1
      obtain ⟨x, j, rfl, rfl, HX, HK, HRS, HC, B2, HB⟩ := hrel
      cases gk with
      | zero =>
        have ej : j = p := by have := HK.out; omega
        subst ej
        have hr := HRS.out
        simp only [bl_has] at hr
        subst hr
        go_wp2
        go_ret
        exact ⟨rfl, by repeat (first | (with_reducible first | exact HB.out | apply below_alloc | apply pw_below_drewN | apply below_drew1) | exact HB.out)⟩
      | succ n =>
        have hjp := Aside0.mk (show j < p by have := HK.out; omega)
        have hjb : decide ((j : Int) < (p : Int)) = true := decide_eq_true (by have := hjp.out; omega)
        have hjb' : decide (j < p) = true := decide_eq_true hjp.out
        have hx0 := HX.out
        have hz : ¬ (8 * (l.length : Int)) = 0 := by omega
        obtain ⟨q, hq⟩ : ∃ q, Int.tmod x (8 * (l.length : Int)) = q := ⟨_, rfl⟩
        have het : q = x % (8 * (l.length : Int)) := hq.symm.trans (Int.tmod_eq_emod_of_nonneg hx0)
        have hq0 := Aside0.mk (show 0 ≤ q by rw [het]; exact Int.emod_nonneg _ hz)
        have hq1 := Aside0.mk (show q / 8 < l.length by rw [het]; have := Int.emod_lt_of_pos x (show (0 : Int) < 8 * (l.length : Int) by omega); omega)
        have hr := HRS.out
        simp only [bl_has] at hr
        rw [← het] at hr
        clear HRS
        have het' := Aside0.mk het
        clear het
        have hw0 : 0 ≤ IntKind.u64.wrap (x + (h / 8589934592)) := by rw [show IntKind.u64.wrap (x + (h / 8589934592)) = (x + (h / 8589934592)) % 18446744073709551616 from by simp [IntKind.wrap, IntKind.bits, IntKind.signed]]; omega
        have HW0 := Aside0.mk hw0
        clear hw0
        cases hbv : (Go.bits .and .u8 (rd l (q / 8)) (2 ^ (q % 8).toNat % 256) != 0)
        all_goals rw [hbv] at hr
        all_goals have HBV := Aside0.mk hbv
        all_goals clear hbv
        case false =>
          have hr' : false = r := hr
          subst hr'
          clear hr
          have hc0 := blk_cell B2.out 0
          have hc1 := blk_cell B2.out 1
          simp only [List.getElem?_toArray, List.getElem?_cons_zero, List.getElem?_cons_succ] at hc0 hc1
          go_wp2
          go_region_with (first | ((with_reducible refine (bl_spot A l.length c p q _ hq0.out hq1.out hc h2).mono ?_); rintro e w8 ⟨rfl, hb⟩; have m0 := Aside0.mk (below_step (by repeat (first | (with_reducible first | exact HB.out | apply below_alloc | apply pw_below_drewN | apply below_drew1) | exact HB.out)) hb); have m1 := Aside0.mk (Kd.C_below (by (with_reducible repeat (first | apply Kd.C_alloc | apply Kd.C_drewN | apply Kd.C_drew)); exact HC.out) hb); have m2 := Aside0.mk (blk_below (g := g2) (o := .cells #[.slice (some A) l.length c, .int .i64 (p : Int)] 69 (0, 0)) (by (with_reducible repeat (first | refine blk_drewN ?_ _ | refine blk_drew ?_ | refine blk_alloc ?_ _)); exact B2.out) hb); clear HB HC B2 hb; have HB := m0; have HC := m1; have B2 := m2; clear m0 m1 m2; dsimp only))
          clear hc0 hc1
          obtain ⟨ad_, ea_, hcell⟩ := (Kd.reads_of_C (d := 0) HC.out).at_ (q / 8) (Int.ediv_nonneg hq0.out (by decide)) hq1.out
          obtain rfl := Option.some.inj ea_
          clear ea_
          have hcell' : _ = some (Value.int .u8 (rd l (q / 8))) := hcell
          clear hcell
          have hbv := HBV.out
          go_wp2
          go_ret
          exact ⟨rfl, by repeat (first | (with_reducible first | exact HB.out | apply below_alloc | apply pw_below_drewN | apply below_drew1) | exact HB.out)⟩
        case true =>
          have hr' : bl_has (8 * (l.length : Int)) (h / 8589934592) l n (IntKind.u64.wrap (x + (h / 8589934592))) = r := hr
          have HRS := Aside0.mk hr'
          clear hr hr'
          have hc0 := blk_cell B2.out 0
          have hc1 := blk_cell B2.out 1
          simp only [List.getElem?_toArray, List.getElem?_cons_zero, List.getElem?_cons_succ] at hc0 hc1
          go_wp2
          go_region_with (first | ((with_reducible refine (bl_spot A l.length c p q _ hq0.out hq1.out hc h2).mono ?_); rintro e w8 ⟨rfl, hb⟩; have m0 := Aside0.mk (below_step (by repeat (first | (with_reducible first | exact HB.out | apply below_alloc | apply pw_below_drewN | apply below_drew1) | exact HB.out)) hb); have m1 := Aside0.mk (Kd.C_below (by (with_reducible repeat (first | apply Kd.C_alloc | apply Kd.C_drewN | apply Kd.C_drew)); exact HC.out) hb); have m2 := Aside0.mk (blk_below (g := g2) (o := .cells #[.slice (some A) l.length c, .int .i64 (p : Int)] 69 (0, 0)) (by (with_reducible repeat (first | refine blk_drewN ?_ _ | refine blk_drew ?_ | refine blk_alloc ?_ _)); exact B2.out) hb); clear HB HC B2 hb; have HB := m0; have HC := m1; have B2 := m2; clear m0 m1 m2; dsimp only))
          clear hc0 hc1
          obtain ⟨ad_, ea_, hcell⟩ := (Kd.reads_of_C (d := 0) HC.out).at_ (q / 8) (Int.ediv_nonneg hq0.out (by decide)) hq1.out
          obtain rfl := Option.some.inj ea_
          clear ea_
          have hcell' : _ = some (Value.int .u8 (rd l (q / 8))) := hcell
          clear hcell
          have hbv := HBV.out
          go_wp2
          go_roundg n
          case measure => omega
          case rel => exact ⟨_, j + 1, rfl, by rw [show wrap64 ((j : Int) + 1) = ((j + 1 : Nat) : Int) from by have := hjp.out; unfold wrap64; omega], HW0, ⟨by have := HK.out; omega⟩, HRS, ⟨(by (with_reducible repeat (first | apply Kd.C_alloc | apply Kd.C_drewN | apply Kd.C_drew)); exact HC.out)⟩, ⟨(by (with_reducible repeat (first | refine blk_drewN ?_ _ | refine blk_drew ?_ | refine blk_alloc ?_ _)); exact B2.out)⟩, ⟨by repeat (first | (with_reducible first | exact HB.out | apply below_alloc | apply pw_below_drewN | apply below_drew1) | exact HB.out)⟩⟩
    

set_option maxHeartbeats 8000000 in
set_option maxRecDepth 100000 in
theorem bl_eachMake (g nb cb : Nat) (ok : Nat → Prop) (xs0 : List Int) (p : Nat) (key : ByteArray) (h : Int) (W0 w : World) (hB : Below W0.heap.size W0 w) (hR : (Kd.int .u8).R 5 w W0.heap.size ok (.slice (some ⟨g, 0, none⟩) (nb + 1) (cb + 1)) xs0) (hbg : W0.heap.size ≤ g) (hgw : g < w.heap.size) (hc : nb ≤ cb) (h1 : 8 ≤ nb) (h2 : nb ≤ 8192) (hp : p ≤ 16) (hh : bloom_Hash.f (key.size + 1) key = some h) (hh0 : 0 ≤ h) (r : List Int) (hrr : bl_marks (8 * (nb : Int)) (bl_step h) p h xs0 = r) :
    Calls Try.prog 53 #[.agg #[.slice (some ⟨g, 1, none⟩) nb cb, .int .i64 (p : Int)], .string key, .func (.func 54) #[] #[]] w fun e w' => e = .returned (.bool true) ∧ Below W0.heap.size W0 w' ∧ bl_kb g w w' ∧ (Kd.int .u8).R 5 w' W0.heap.size ok (.slice (some ⟨g, 0, none⟩) (nb + 1) (cb + 1)) r := by
  have hu69 := Try.underlying69
  have HR := Aside0.mk hR
  clear hR
  have HB := Aside0.mk hB
  clear hB
  have KBF := Aside0.mk (bl_kb_refl g w)
  have HRS0 := Aside0.mk hrr
  clear hrr
  have hm : IntKind.u64.wrap (8 * IntKind.u64.wrap (nb : Int)) = 8 * (nb : Int) := by simp [IntKind.wrap, IntKind.bits]; omega
  by_cases c3 : h / 8589934592 = 0
  · have c3b : decide (h / 8589934592 = 0) = true := decide_eq_true c3
    have c3c : (h / 8589934592 == 0) = true := by simpa using c3
    have HRS : Aside0 (bl_marks (8 * (nb : Int)) 1 p h xs0 = r) := ⟨by have q := HRS0.out; rw [show bl_step h = 1 from if_pos c3] at q; exact q⟩
    clear HRS0
    go_enter Try.func53, Try.ntmps53
    go_wp2_with (first | ((with_reducible refine gate_dst (N := 3) rfl ?_); refine box_event ?hg (N := 3) ?hd (cs := #[.slice (some ⟨g, 1, none⟩) nb cb, .int .i64 (p : Int)]) (t := 69) ?hr ?_; (case hd => rfl); (case hg => rfl); (case hr => first | (go_simp; done) | (go_simp; rfl)); intro g2 hg w1 hbox hb; have m0 := Aside0.mk (below_step (by repeat (first | (with_reducible first | exact HB.out | apply below_alloc | apply pw_below_drewN | apply below_drew1 | refine below_set ?_ hbg) | exact HB.out)) hb); have m1 := Aside0.mk hbox; have m2 := Aside0.mk ((by rw [hg]; exact Nat.le_of_eq rfl : w.heap.size ≤ g2)); have m3 := Aside0.mk (Kd.R_below (by (with_reducible repeat (first | apply Kd.R_alloc | apply Kd.R_drewN | apply Kd.R_drew)); exact HR.out) hb); have m4 := Aside0.mk (bl_kb_below (by (with_reducible repeat (first | apply bl_kb_alloc | apply bl_kb_drewN | apply bl_kb_drew)); exact KBF.out) hb); clear HB KBF HR; have HB := m0; have KBF := m4; have B2 := m1; have G2 := m2; have HR := m3; clear m0 m1 m2 m3 m4; clear hb hbox hg) | ((with_reducible refine gate_callee (f := 43) rfl ?_); refine goesL_ (some 13) rfl rfl Try.func43 (by kernel_rfl) rfl #[.string key] rfl (by (try simp only [List.map_toArray, List.map_cons, List.map_nil]); first | done | rfl) ?_; (with_reducible refine (bloom_Hash.calls _ key h _ hh).mono ?_); rintro e w2 ⟨rfl, ⟨⟨nd, rfl⟩⟩⟩; refine ⟨_, rfl, ?_⟩; have hc0 := blk_cell B2.out 0; have hc1 := blk_cell B2.out 1; simp only [List.getElem?_toArray, List.getElem?_cons_zero, List.getElem?_cons_succ] at hc0 hc1))
    have hc0 := blk_cell B2.out 0
    have hc1 := blk_cell B2.out 1
    simp only [List.getElem?_toArray, List.getElem?_cons_zero, List.getElem?_cons_succ] at hc0 hc1
    go_loopg [7, 25] p (fun kq v7 v25 w' => ∃ (x : Int) (j : Nat) (xs : List Int), v7 = .int .u64 x ∧ v25 = .int .i64 (j : Int) ∧ Aside0 (0 ≤ x) ∧ Aside0 (kq + j = p) ∧ Aside0 (bl_marks (8 * (nb : Int)) 1 kq x xs = r) ∧ Aside0 ((Kd.int .u8).R 5 w' W0.heap.size ok (.slice (some ⟨g, 0, none⟩) (nb + 1) (cb + 1)) xs) ∧ Aside0 (bl_kb g w w') ∧ Aside0 (w'.heap[g2]? = some (.cells #[.slice (some ⟨g, 1, none⟩) nb cb, .int .i64 (p : Int)] 69 (0, 0))) ∧ Aside0 (Below W0.heap.size W0 w'))
    case atStart => exact ⟨h, 0, xs0, rfl, rfl, ⟨hh0⟩, ⟨rfl⟩, HRS, ⟨(by (with_reducible repeat (first | apply Kd.R_alloc | apply Kd.R_drewN | apply Kd.R_drew)); exact HR.out)⟩, ⟨(by (with_reducible repeat (first | apply bl_kb_alloc | apply bl_kb_drewN | apply bl_kb_drew)); exact KBF.out)⟩, ⟨(by (with_reducible repeat (first | refine blk_drewN ?_ _ | refine blk_drew ?_ | refine blk_alloc ?_ _)); exact B2.out)⟩, ⟨by repeat (first | (with_reducible first | exact HB.out | apply below_alloc | apply pw_below_drewN | apply below_drew1 | refine below_set ?_ hbg) | exact HB.out)⟩⟩
    case round =>
      clear HR KBF B2 HB HRS hc0 hc1
      obtain ⟨x, j, xs, rfl, rfl, HX, HK, HRS, HR, KBF, B2, HB⟩ := hrel
      cases gk with
      | zero =>
        have ej : j = p := by have := HK.out; omega
        subst ej
        have hr := HRS.out
        simp only [bl_marks] at hr
        subst hr
        go_wp2
        go_ret
        exact ⟨rfl, (by repeat (first | (with_reducible first | exact HB.out | apply below_alloc | apply pw_below_drewN | apply below_drew1 | refine below_set ?_ hbg) | exact HB.out)), (by (with_reducible repeat (first | apply bl_kb_alloc | apply bl_kb_drewN | apply bl_kb_drew)); exact KBF.out), (by (with_reducible repeat (first | apply Kd.R_alloc | apply Kd.R_drewN | apply Kd.R_drew)); exact HR.out)⟩
      | succ n =>
        have hjp := Aside0.mk (show j < p by have := HK.out; omega)
        have hjb : decide ((j : Int) < (p : Int)) = true := decide_eq_true (by have := hjp.out; omega)
        have hjb' : decide (j < p) = true := decide_eq_true hjp.out
        have hx0 := HX.out
        have hz : ¬ (8 * (nb : Int)) = 0 := by omega
        obtain ⟨q, hq⟩ : ∃ q, Int.tmod x (8 * (nb : Int)) = q := ⟨_, rfl⟩
        have het : q = x % (8 * (nb : Int)) := hq.symm.trans (Int.tmod_eq_emod_of_nonneg hx0)
        have hq0 := Aside0.mk (show 0 ≤ q by rw [het]; exact Int.emod_nonneg _ hz)
        have hq1 := Aside0.mk (show q / 8 < nb by rw [het]; have := Int.emod_lt_of_pos x (show (0 : Int) < 8 * (nb : Int) by omega); omega)
        have hr := HRS.out
        simp only [bl_marks] at hr
        rw [← het] at hr
        clear HRS
        have het' := Aside0.mk het
        clear het
        have hw0 : 0 ≤ IntKind.u64.wrap (x + 1) := by rw [show IntKind.u64.wrap (x + 1) = (x + 1) % 18446744073709551616 from by simp [IntKind.wrap, IntKind.bits, IntKind.signed]]; omega
        have HW0 := Aside0.mk hw0
        clear hw0
        have HRS := Aside0.mk hr
        clear hr
        have hc0 := blk_cell B2.out 0
        have hc1 := blk_cell B2.out 1
        simp only [List.getElem?_toArray, List.getElem?_cons_zero, List.getElem?_cons_succ] at hc0 hc1
        go_wp2
        go_region_with (first | ((with_reducible refine (bl_spot ⟨g, 1, none⟩ nb cb p q _ hq0.out hq1.out hc h2).mono ?_); rintro e w8 ⟨rfl, hb⟩; have m0 := Aside0.mk (below_step (by repeat (first | (with_reducible first | exact HB.out | apply below_alloc | apply pw_below_drewN | apply below_drew1 | refine below_set ?_ hbg) | exact HB.out)) hb); have m1 := Aside0.mk (Kd.R_below (by (with_reducible repeat (first | apply Kd.R_alloc | apply Kd.R_drewN | apply Kd.R_drew)); exact HR.out) hb); have m2 := Aside0.mk (blk_below (g := g2) (o := .cells #[.slice (some ⟨g, 1, none⟩) nb cb, .int .i64 (p : Int)] 69 (0, 0)) (by (with_reducible repeat (first | refine blk_drewN ?_ _ | refine blk_drew ?_ | refine blk_alloc ?_ _)); exact B2.out) hb); have m3 := Aside0.mk (bl_kb_below (by (with_reducible repeat (first | apply bl_kb_alloc | apply bl_kb_drewN | apply bl_kb_drew)); exact KBF.out) hb); clear HB KBF HR B2 hb; have HB := m0; have KBF := m3; have HR := m1; have B2 := m2; clear m0 m1 m2 m3; dsimp only))
        clear hc0 hc1
        have hcel := Kd.R_celln (d := 0) HR.out (1 + q / 8) (by have := hq0.out; omega) (by have := hq1.out; omega)
        rw [show (1 + q / 8).toNat = 1 + (q / 8).toNat by have := hq0.out; omega] at hcel
        have hcell : _ = some (Value.int .u8 (rd xs (1 + q / 8))) := hcel.1
        have hfro := hcel.2
        clear hcel
        go_wp2
        go_roundg n
        case measure => omega
        case rel => exact ⟨_, j + 1, _, rfl, by rw [show wrap64 ((j : Int) + 1) = ((j + 1 : Nat) : Int) from by have := hjp.out; unfold wrap64; omega], HW0, ⟨by have := HK.out; omega⟩, HRS, ⟨by have h9 := Kd.R_putn HR.out (1 + q / 8) (Go.bits .or .u8 (rd xs (1 + q / 8)) (2 ^ (q % 8).toNat % 256)); have e9 : (1 + q / 8).toNat = 1 + (q / 8).toNat := (by have := hq0.out; omega); rw [e9] at h9; unfold bl_mark; rw [e9]; exact h9⟩, ⟨bl_kb_set KBF.out (by have h9 := (Kd.R_putg HR.out (1 + q / 8) (Go.bits .or .u8 (rd xs (1 + q / 8)) (2 ^ (q % 8).toNat % 256))).2.size; rw [show (1 + q / 8).toNat = 1 + (q / 8).toNat from (by have := hq0.out; omega)] at h9; exact h9)⟩, ⟨by refine blk_far ?_ (show g2 ≠ g by have := G2.out; omega) _; exact B2.out⟩, ⟨below_set (by repeat (first | (with_reducible first | exact HB.out | apply below_alloc | apply pw_below_drewN | apply below_drew1 | refine below_set ?_ hbg) | exact HB.out)) hbg⟩⟩
    
  · have c3b : decide (h / 8589934592 = 0) = false := decide_eq_false c3
    have c3c : (h / 8589934592 == 0) = false := by simpa using c3
    have HRS : Aside0 (bl_marks (8 * (nb : Int)) (h / 8589934592) p h xs0 = r) := ⟨by have q := HRS0.out; rw [show bl_step h = h / 8589934592 from if_neg c3] at q; exact q⟩
    clear HRS0
    go_enter Try.func53, Try.ntmps53
    go_wp2_with (first | ((with_reducible refine gate_dst (N := 3) rfl ?_); refine box_event ?hg (N := 3) ?hd (cs := #[.slice (some ⟨g, 1, none⟩) nb cb, .int .i64 (p : Int)]) (t := 69) ?hr ?_; (case hd => rfl); (case hg => rfl); (case hr => first | (go_simp; done) | (go_simp; rfl)); intro g2 hg w1 hbox hb; have m0 := Aside0.mk (below_step (by repeat (first | (with_reducible first | exact HB.out | apply below_alloc | apply pw_below_drewN | apply below_drew1 | refine below_set ?_ hbg) | exact HB.out)) hb); have m1 := Aside0.mk hbox; have m2 := Aside0.mk ((by rw [hg]; exact Nat.le_of_eq rfl : w.heap.size ≤ g2)); have m3 := Aside0.mk (Kd.R_below (by (with_reducible repeat (first | apply Kd.R_alloc | apply Kd.R_drewN | apply Kd.R_drew)); exact HR.out) hb); have m4 := Aside0.mk (bl_kb_below (by (with_reducible repeat (first | apply bl_kb_alloc | apply bl_kb_drewN | apply bl_kb_drew)); exact KBF.out) hb); clear HB KBF HR; have HB := m0; have KBF := m4; have B2 := m1; have G2 := m2; have HR := m3; clear m0 m1 m2 m3 m4; clear hb hbox hg) | ((with_reducible refine gate_callee (f := 43) rfl ?_); refine goesL_ (some 13) rfl rfl Try.func43 (by kernel_rfl) rfl #[.string key] rfl (by (try simp only [List.map_toArray, List.map_cons, List.map_nil]); first | done | rfl) ?_; (with_reducible refine (bloom_Hash.calls _ key h _ hh).mono ?_); rintro e w2 ⟨rfl, ⟨⟨nd, rfl⟩⟩⟩; refine ⟨_, rfl, ?_⟩; have hc0 := blk_cell B2.out 0; have hc1 := blk_cell B2.out 1; simp only [List.getElem?_toArray, List.getElem?_cons_zero, List.getElem?_cons_succ] at hc0 hc1))
    have hc0 := blk_cell B2.out 0
    have hc1 := blk_cell B2.out 1
    simp only [List.getElem?_toArray, List.getElem?_cons_zero, List.getElem?_cons_succ] at hc0 hc1
    go_loopg [7, 25] p (fun kq v7 v25 w' => ∃ (x : Int) (j : Nat) (xs : List Int), v7 = .int .u64 x ∧ v25 = .int .i64 (j : Int) ∧ Aside0 (0 ≤ x) ∧ Aside0 (kq + j = p) ∧ Aside0 (bl_marks (8 * (nb : Int)) (h / 8589934592) kq x xs = r) ∧ Aside0 ((Kd.int .u8).R 5 w' W0.heap.size ok (.slice (some ⟨g, 0, none⟩) (nb + 1) (cb + 1)) xs) ∧ Aside0 (bl_kb g w w') ∧ Aside0 (w'.heap[g2]? = some (.cells #[.slice (some ⟨g, 1, none⟩) nb cb, .int .i64 (p : Int)] 69 (0, 0))) ∧ Aside0 (Below W0.heap.size W0 w'))
    case atStart => exact ⟨h, 0, xs0, rfl, rfl, ⟨hh0⟩, ⟨rfl⟩, HRS, ⟨(by (with_reducible repeat (first | apply Kd.R_alloc | apply Kd.R_drewN | apply Kd.R_drew)); exact HR.out)⟩, ⟨(by (with_reducible repeat (first | apply bl_kb_alloc | apply bl_kb_drewN | apply bl_kb_drew)); exact KBF.out)⟩, ⟨(by (with_reducible repeat (first | refine blk_drewN ?_ _ | refine blk_drew ?_ | refine blk_alloc ?_ _)); exact B2.out)⟩, ⟨by repeat (first | (with_reducible first | exact HB.out | apply below_alloc | apply pw_below_drewN | apply below_drew1 | refine below_set ?_ hbg) | exact HB.out)⟩⟩
    case round =>
      clear HR KBF B2 HB HRS hc0 hc1
      obtain ⟨x, j, xs, rfl, rfl, HX, HK, HRS, HR, KBF, B2, HB⟩ := hrel
      cases gk with
      | zero =>
        have ej : j = p := by have := HK.out; omega
        subst ej
        have hr := HRS.out
        simp only [bl_marks] at hr
        subst hr
        go_wp2
        go_ret
        exact ⟨rfl, (by repeat (first | (with_reducible first | exact HB.out | apply below_alloc | apply pw_below_drewN | apply below_drew1 | refine below_set ?_ hbg) | exact HB.out)), (by (with_reducible repeat (first | apply bl_kb_alloc | apply bl_kb_drewN | apply bl_kb_drew)); exact KBF.out), (by (with_reducible repeat (first | apply Kd.R_alloc | apply Kd.R_drewN | apply Kd.R_drew)); exact HR.out)⟩
      | succ n =>
        have hjp := Aside0.mk (show j < p by have := HK.out; omega)
        have hjb : decide ((j : Int) < (p : Int)) = true := decide_eq_true (by have := hjp.out; omega)
        have hjb' : decide (j < p) = true := decide_eq_true hjp.out
        have hx0 := HX.out
        have hz : ¬ (8 * (nb : Int)) = 0 := by omega
        obtain ⟨q, hq⟩ : ∃ q, Int.tmod x (8 * (nb : Int)) = q := ⟨_, rfl⟩
        have het : q = x % (8 * (nb : Int)) := hq.symm.trans (Int.tmod_eq_emod_of_nonneg hx0)
        have hq0 := Aside0.mk (show 0 ≤ q by rw [het]; exact Int.emod_nonneg _ hz)
        have hq1 := Aside0.mk (show q / 8 < nb by rw [het]; have := Int.emod_lt_of_pos x (show (0 : Int) < 8 * (nb : Int) by omega); omega)
        have hr := HRS.out
        simp only [bl_marks] at hr
        rw [← het] at hr
        clear HRS
        have het' := Aside0.mk het
        clear het
        have hw0 : 0 ≤ IntKind.u64.wrap (x + (h / 8589934592)) := by rw [show IntKind.u64.wrap (x + (h / 8589934592)) = (x + (h / 8589934592)) % 18446744073709551616 from by simp [IntKind.wrap, IntKind.bits, IntKind.signed]]; omega
        have HW0 := Aside0.mk hw0
        clear hw0
        have HRS := Aside0.mk hr
        clear hr
        have hc0 := blk_cell B2.out 0
        have hc1 := blk_cell B2.out 1
        simp only [List.getElem?_toArray, List.getElem?_cons_zero, List.getElem?_cons_succ] at hc0 hc1
        go_wp2
        go_region_with (first | ((with_reducible refine (bl_spot ⟨g, 1, none⟩ nb cb p q _ hq0.out hq1.out hc h2).mono ?_); rintro e w8 ⟨rfl, hb⟩; have m0 := Aside0.mk (below_step (by repeat (first | (with_reducible first | exact HB.out | apply below_alloc | apply pw_below_drewN | apply below_drew1 | refine below_set ?_ hbg) | exact HB.out)) hb); have m1 := Aside0.mk (Kd.R_below (by (with_reducible repeat (first | apply Kd.R_alloc | apply Kd.R_drewN | apply Kd.R_drew)); exact HR.out) hb); have m2 := Aside0.mk (blk_below (g := g2) (o := .cells #[.slice (some ⟨g, 1, none⟩) nb cb, .int .i64 (p : Int)] 69 (0, 0)) (by (with_reducible repeat (first | refine blk_drewN ?_ _ | refine blk_drew ?_ | refine blk_alloc ?_ _)); exact B2.out) hb); have m3 := Aside0.mk (bl_kb_below (by (with_reducible repeat (first | apply bl_kb_alloc | apply bl_kb_drewN | apply bl_kb_drew)); exact KBF.out) hb); clear HB KBF HR B2 hb; have HB := m0; have KBF := m3; have HR := m1; have B2 := m2; clear m0 m1 m2 m3; dsimp only))
        clear hc0 hc1
        have hcel := Kd.R_celln (d := 0) HR.out (1 + q / 8) (by have := hq0.out; omega) (by have := hq1.out; omega)
        rw [show (1 + q / 8).toNat = 1 + (q / 8).toNat by have := hq0.out; omega] at hcel
        have hcell : _ = some (Value.int .u8 (rd xs (1 + q / 8))) := hcel.1
        have hfro := hcel.2
        clear hcel
        go_wp2
        go_roundg n
        case measure => omega
        case rel => exact ⟨_, j + 1, _, rfl, by rw [show wrap64 ((j : Int) + 1) = ((j + 1 : Nat) : Int) from by have := hjp.out; unfold wrap64; omega], HW0, ⟨by have := HK.out; omega⟩, HRS, ⟨by have h9 := Kd.R_putn HR.out (1 + q / 8) (Go.bits .or .u8 (rd xs (1 + q / 8)) (2 ^ (q % 8).toNat % 256)); have e9 : (1 + q / 8).toNat = 1 + (q / 8).toNat := (by have := hq0.out; omega); rw [e9] at h9; unfold bl_mark; rw [e9]; exact h9⟩, ⟨bl_kb_set KBF.out (by have h9 := (Kd.R_putg HR.out (1 + q / 8) (Go.bits .or .u8 (rd xs (1 + q / 8)) (2 ^ (q % 8).toNat % 256))).2.size; rw [show (1 + q / 8).toNat = 1 + (q / 8).toNat from (by have := hq0.out; omega)] at h9; exact h9)⟩, ⟨by refine blk_far ?_ (show g2 ≠ g by have := G2.out; omega) _; exact B2.out⟩, ⟨below_set (by repeat (first | (with_reducible first | exact HB.out | apply below_alloc | apply pw_below_drewN | apply below_drew1 | refine below_set ?_ hbg) | exact HB.out)) hbg⟩⟩
    
theorem bl_eachHas' (A : Addr) (l : List Int) (n c : Nat) (P : Int) (key : ByteArray) (h : Int) (w : World) (hC : Kd.C (Kd.int .u8) w (some A) l.length l) (hn : n = l.length) (hc : n ≤ c) (h1 : 8 ≤ n) (h2 : n ≤ 8192) (hp0 : 0 ≤ P) (hp : P ≤ 16) (hh : bloom_Hash.f (key.size + 1) key = some h) (hh0 : 0 ≤ h) :
    Calls Try.prog 53 #[.agg #[.slice (some A) n c, .int .i64 P], .string key, .func (.func 57) #[] #[]] w fun e w' => e = .returned (.bool (bl_has (8 * (n : Int)) (bl_step h) l P.toNat h)) ∧ Below w.heap.size w w' := by
  subst hn
  have q := bl_eachHas A l c P.toNat key h w hC hc h1 h2 (by omega) hh hh0 _ rfl
  rw [show ((P.toNat : Nat) : Int) = P by omega] at q
  exact q
theorem bl_eachMake' (g nb cb : Nat) (ok : Nat → Prop) (xs0 : List Int) (P : Int) (key : ByteArray) (h : Int) (W0 w : World) (hB : Below W0.heap.size W0 w) (hR : (Kd.int .u8).R 5 w W0.heap.size ok (.slice (some ⟨g, 0, none⟩) (nb + 1) (cb + 1)) xs0) (hbg : W0.heap.size ≤ g) (hgw : g < w.heap.size) (hc : nb ≤ cb) (h1 : 8 ≤ nb) (h2 : nb ≤ 8192) (hp0 : 0 ≤ P) (hp : P ≤ 16) (hh : bloom_Hash.f (key.size + 1) key = some h) (hh0 : 0 ≤ h) :
    Calls Try.prog 53 #[.agg #[.slice (some ⟨g, 1, none⟩) nb cb, .int .i64 P], .string key, .func (.func 54) #[] #[]] w fun e w' => e = .returned (.bool true) ∧ Below W0.heap.size W0 w' ∧ bl_kb g w w' ∧ (Kd.int .u8).R 5 w' W0.heap.size ok (.slice (some ⟨g, 0, none⟩) (nb + 1) (cb + 1)) (bl_marks (8 * (nb : Int)) (bl_step h) P.toNat h xs0) := by
  have q := bl_eachMake g nb cb ok xs0 P.toNat key h W0 w hB hR hbg hgw hc h1 h2 (by omega) hh hh0 _ rfl
  rw [show ((P.toNat : Nat) : Int) = P by omega] at q
  exact q

end Go.Proofs.Ytlehgphnjpgjnaa.PBloomNever
