-- Written by wip/xprint of this repo (our own program) out of the translation; what is marked BY HAND is ours. Not trusted: Lean checks it.
import Derived.Test.YtlehgphnjpgjnaaPBloomHasx0
import Derived.Test.YtlehgphnjpgjnaaPBloomHasx2
namespace Go.Proofs.Ytlehgphnjpgjnaa.PBloomHas
open Go.RowKit Go.Proofs.YtlehgphnjpgjnaaW.PrintWords Go.Proofs.YtlehgphnjpgjnaaW.PrintLast Go.Proofs.YtlehgphnjpgjnaaW.PrintMore
attribute [local go_sem] max2_int min2_int max_two min_two max_three min_three max_four min_four   -- for this text's walks alone
set_option linter.unusedVariables false
set_option linter.unusedSimpArgs false

/-! ### lienref11_Places: function 55 -/
mutual
def lienref11_Places.j0 : Nat → Int → Int → Int → Int → Option (List Int)
  | 0, _, _, _, _ => none
  | k + 1, x1, x2, x7, x8 => lienref11_Places.l0 k x1 x2 x7 x8 ([] : List Int) 0
def lienref11_Places.l0 : Nat → Int → Int → Int → Int → List Int → Int → Option (List Int)
  | 0, _, _, _, _, _, _ => none
  | k + 1, x1, x2, x7, x8, x9, x10 => if x10 < x2 then (if (IntKind.u64.wrap (x1)) = 0 then (none) else (if x9.length < 17592186044416 then (lienref11_Places.l0 k x1 x2 (IntKind.u64.wrap (x7 + x8)) x8 (x9 ++ [wrap64 (Int.tmod x7 (IntKind.u64.wrap (x1)))]) (wrap64 (x10 + 1))) else (none))) else (some x9)
end
def lienref11_Places.f (k : Nat) (a0 : ByteArray) (a1 : Int) (a2 : Int) : Option (List Int) := (lienref11_Hash.f k a0).bind fun t124 => (if (t124 / 8589934592) = 0 then (lienref11_Places.j0 k a1 a2 t124 1) else (lienref11_Places.j0 k a1 a2 t124 (t124 / 8589934592)))
theorem lienref11_Places.mono_l : ∀ k, (∀ y0 y1 y2 y3, LeO (lienref11_Places.j0 k y0 y1 y2 y3) (lienref11_Places.j0 (k + 1) y0 y1 y2 y3)) ∧ (∀ y0 y1 y2 y3 y4 y5, LeO (lienref11_Places.l0 k y0 y1 y2 y3 y4 y5) (lienref11_Places.l0 (k + 1) y0 y1 y2 y3 y4 y5))
  | 0 => ⟨fun _ _ _ _ r h => by simp [lienref11_Places.j0] at h, fun _ _ _ _ _ _ r h => by simp [lienref11_Places.l0] at h⟩
  | k + 1 => by
    obtain ⟨ih0, ih1⟩ := lienref11_Places.mono_l k
    refine ⟨?_, ?_⟩
    · intro y0 y1 y2 y3
      unfold lienref11_Places.j0
      repeat' first
      | (with_reducible exact ih0 _ _ _ _)
      | (with_reducible exact ih1 _ _ _ _ _ _)
      | (with_reducible exact lienref11_Hash.mono _ _)
      | (with_reducible exact LeO.refl _)
      | (with_reducible exact LeO.none _)
      | (with_reducible refine LeO.ite ?_ ?_)
      | (with_reducible refine LeO.bind ?_ (fun _ => ?_))
      | exact ih0 _ _ _ _
      | exact ih1 _ _ _ _ _ _
      | exact lienref11_Hash.mono _ _
      | exact LeO.none _
      | refine LeO.ite ?_ ?_
      | refine LeO.bind ?_ (fun _ => ?_)
    · intro y0 y1 y2 y3 y4 y5
      unfold lienref11_Places.l0
      repeat' first
      | (with_reducible exact ih0 _ _ _ _)
      | (with_reducible exact ih1 _ _ _ _ _ _)
      | (with_reducible exact lienref11_Hash.mono _ _)
      | (with_reducible exact LeO.refl _)
      | (with_reducible exact LeO.none _)
      | (with_reducible refine LeO.ite ?_ ?_)
      | (with_reducible refine LeO.bind ?_ (fun _ => ?_))
      | exact ih0 _ _ _ _
      | exact ih1 _ _ _ _ _ _
      | exact lienref11_Hash.mono _ _
      | exact LeO.none _
      | refine LeO.ite ?_ ?_
      | refine LeO.bind ?_ (fun _ => ?_)
theorem lienref11_Places.mono : ∀ a0 a1 a2 k, LeO (lienref11_Places.f k a0 a1 a2) (lienref11_Places.f (k + 1) a0 a1 a2) := by
  intro a0 a1 a2 k
  obtain ⟨ih0, ih1⟩ := lienref11_Places.mono_l k
  unfold lienref11_Places.f
  repeat' first
      | (with_reducible exact ih0 _ _ _ _)
      | (with_reducible exact ih1 _ _ _ _ _ _)
      | (with_reducible exact lienref11_Hash.mono _ _)
      | (with_reducible exact LeO.refl _)
      | (with_reducible exact LeO.none _)
      | (with_reducible refine LeO.ite ?_ ?_)
      | (with_reducible refine LeO.bind ?_ (fun _ => ?_))
      | exact ih0 _ _ _ _
      | exact ih1 _ _ _ _ _ _
      | exact lienref11_Hash.mono _ _
      | exact LeO.none _
      | refine LeO.ite ?_ ?_
      | refine LeO.bind ?_ (fun _ => ?_)
set_option maxHeartbeats 8000000 in
set_option maxRecDepth 100000 in
theorem lienref11_Places.calls (k : Nat) (a0 : ByteArray) (a1 : Int) (a2 : Int) (r : List Int) (w : World) (h : lienref11_Places.f k a0 a1 a2 = some r) :
    Calls Try.prog 55 #[.string a0, .int .i64 a1, .int .i64 a2] w fun e w' => ∃ v0_ : Value, e = .returned (v0_) ∧ Kd.R (Kd.int .i64) 3 w' w.heap.size (fun _ => True) v0_ r ∧ Below w.heap.size w w' := by
  have HB := Aside0.mk (Below.refl w.heap.size w)
  have H : ((lienref11_Hash.f k a0).bind fun t124 => (if (t124 / 8589934592) = 0 then (lienref11_Places.j0 k a1 a2 t124 1) else (lienref11_Places.j0 k a1 a2 t124 (t124 / 8589934592)))) = some r := h
  clear h
  replace H := Option.bind_eq_some_iff.mp H
  obtain ⟨t124, A40, H⟩ := H
  replace H : (if (t124 / 8589934592) = 0 then (lienref11_Places.j0 k a1 a2 t124 1) else (lienref11_Places.j0 k a1 a2 t124 (t124 / 8589934592))) = some r := H
  have A4 := Aside0.mk A40
  clear A40
  have HC5 := Aside0.mk H
  clear H
  go_enter Try.func55, Try.ntmps55
  go_upto_if 16 with (first | ((with_reducible refine gate_callee (f := 44) rfl ?_); refine goesL_ (some 12) rfl rfl Try.func44 (by kernel_rfl) rfl #[.string a0] rfl (by (try simp only [List.map_toArray, List.map_cons, List.map_nil]); first | done | rfl | (simp only [List.length_drop, List.length_take]; rfl)) ?_; (with_reducible refine (lienref11_Hash.calls k a0 t124 _ A4.out).mono ?_); rintro e w' ⟨rfl, ⟨nd, rfl⟩⟩; refine ⟨_, rfl, ?_⟩))
  (try simp only [Act.put, List.setIfInBounds_toArray, List.set_cons_zero, List.set_cons_succ])
  go_cut [8] (fun v8 wc => ∃ (kq : Nat) (x8_4 : Int), v8 = .int .u64 x8_4 ∧ Aside0 (lienref11_Places.j0 kq a1 a2 t124 x8_4 = some r) ∧ Aside0 (kq ≤ k) ∧ Aside0 (Below w.heap.size w wc))
  case first =>
    have H := HC5.out
    clear HC5
    by_cases c6 : (t124 / 8589934592) = 0
    · rw [if_pos c6] at H
      have c6b0 : ((t124 / 8589934592) == 0) = true := beq_iff_eq.mpr c6
      have c6b1 : ((t124 / 8589934592) != 0) = false := bne_eq_false_iff_eq.mpr c6
      clear c6
      (first | rw [c6b0] | (simp only [i64_w, i32_w]; rw [c6b0]) | skip)
      have H' := Aside0.mk H
      clear H
      go_wp2
      go_meet
      case rel => exact ⟨_, (1), (by first | rfl | (simp; done) | (simp [*]; done)), H', ⟨by first | omega | exact Nat.le_refl _⟩, ⟨by repeat (first | (with_reducible first | exact HB.out | apply below_alloc | apply pw_below_drewN | apply below_drew1) | exact HB.out)⟩⟩
    · rw [if_neg c6] at H
      have c6b0 : ((t124 / 8589934592) == 0) = false := beq_eq_false_iff_ne.mpr c6
      have c6b1 : ((t124 / 8589934592) != 0) = true := bne_iff_ne.mpr c6
      (first | rw [c6b0] | (simp only [i64_w, i32_w]; rw [c6b0]) | skip)
      have H' := Aside0.mk H
      clear H
      go_wp2
      go_meet
      case rel => exact ⟨_, (t124 / 8589934592), (by first | rfl | (simp; done) | (simp [*]; done)), H', ⟨by first | omega | exact Nat.le_refl _⟩, ⟨by repeat (first | (with_reducible first | exact HB.out | apply below_alloc | apply pw_below_drewN | apply below_drew1) | exact HB.out)⟩⟩
  case rest =>
    clear HC5
    try clear p2
    try clear c4
    try clear c5
    try clear c6
    try clear c6b0
    try clear c6b1
    obtain ⟨kq, x8_4, rfl, HA, HJ4, HB⟩ := hcut
    cases kq with
    | zero => exact absurd HA.out (by simp [lienref11_Places.j0])
    | succ kj4 =>
      have H := HA.out
      clear HA
      simp only [lienref11_Places.j0] at H
      have H' := Aside0.mk H
      clear H
      go_wp2
      go_loopg [7, 9, 10] kj4 (fun kq v7 v9 v10 w' => ∃ (x7_2 : Int) (x9_2 : List Int) (x10_2 : Int), v7 = .int .u64 x7_2 ∧ v10 = .int .i64 x10_2 ∧ Aside0 (lienref11_Places.l0 kq a1 a2 x7_2 x8_4 x9_2 x10_2 = some r) ∧ Aside0 (kq ≤ kj4) ∧ Aside0 (Kd.R (Kd.int .i64) 3 w' w.heap.size (fun _ => True) v9 x9_2) ∧ Aside0 (Below w.heap.size w w'))
      case atStart => exact ⟨(t124), (([] : List Int)), (0), (by first | rfl | (simp; done) | (simp [*]; done)), (by first | rfl | (simp; done) | (simp [*]; done)), H', ⟨Nat.le_refl _⟩, ⟨by first | exact Kd.R_nil _ _ _ _ _ | exact Kd.N_nil _ _ _ _ _ | exact Kd.V_nil _ _ _ _ _ | exact Kd.Q_nil _ _ _ _ _ | exact Kd.S_nil _ _ _ _ _⟩, ⟨by repeat (first | (with_reducible first | exact HB.out | apply below_alloc | apply pw_below_drewN | apply below_drew1) | exact HB.out)⟩⟩
      case round =>
        clear H'
        try clear p2
        try clear c4
        try clear c5
        try clear c6
        try clear c6b0
        try clear c6b1
        try clear p2
        obtain ⟨x7_2, x9_2, x10_2, rfl, rfl, HA, HK2, HO_9, HB⟩ := hrel
        cases gk with
        | zero => exact absurd HA.out (by simp [lienref11_Places.l0])
        | succ k2 =>
          have H := HA.out
          clear HA
          simp only [lienref11_Places.l0] at H
          by_cases c7 : x10_2 < a2
          · rw [if_pos c7] at H
            have c7b0 : decide (x10_2 < a2) = true := decide_eq_true c7
            clear c7
            by_cases c8 : (IntKind.u64.wrap (a1)) = 0
            · rw [if_pos c8] at H
              exact absurd H (by simp)
            · rw [if_neg c8] at H
              have c8b0 : ((IntKind.u64.wrap (a1)) == 0) = false := beq_eq_false_iff_ne.mpr c8
              have c8b1 : ((IntKind.u64.wrap (a1)) != 0) = true := bne_iff_ne.mpr c8
              by_cases c9 : x9_2.length < 17592186044416
              · rw [if_pos c9] at H
                have LMc9 := Aside0.mk c9
                clear c9
                obtain ⟨y125, hy125⟩ : ∃ y_ : List Int, y_ = (x9_2 ++ [wrap64 (Int.tmod x7_2 (IntKind.u64.wrap (a1)))]) := ⟨_, rfl⟩
                replace H : (lienref11_Places.l0 k2 a1 a2 (IntKind.u64.wrap (x7_2 + x8_4)) x8_4 y125 (wrap64 (x10_2 + 1))) = some r := by first | (rw [hy125]; with_reducible exact H) | (have H2_ := (Option.bind_some _ _).symm.trans H; rw [hy125]; with_reducible exact H2_) | (have H2_ := (Option.bind_some _ _).symm.trans H; with_reducible exact H2_) | with_reducible exact H | (rw [hy125]; exact H) | exact H
                have Ny125 := Aside0.mk hy125
                clear hy125
                have H' := Aside0.mk H
                clear H
                go_wp2_with (first | ((with_reducible refine gate_builtin (b := .append) (xs := #[.tmp 22, .tmp 28]) rfl ?_); at_builtin; refine Kd.R_append (Kd.int .i64) (w0 := w) w.heap.size rfl (.tmp 22) (.tmp 28) 72 3 (.int .i64 0) 8 rfl Try.underlying72 info3 rfl (by decide) (by omega) u9 x9_2 (wrap64 (Int.tmod x7_2 (IntKind.u64.wrap (a1)))) [.int .i64 (wrap64 (Int.tmod x7_2 (IntKind.u64.wrap (a1))))] (fun _ => True) (fun _ => False) rfl rfl ?aP (fun _ hk => hk.elim) ?aF ?aO ?aB ?aS ?aL ?_; (case aP => exact rfl); (case aB => exact (by repeat (first | (with_reducible first | exact HB.out | apply below_alloc | apply pw_below_drewN | apply below_drew1) | exact HB.out))); (case aF => exact (fun _ _ => trivial)); (case aO => exact (by (with_reducible repeat (first | apply Kd.R_alloc | apply Kd.R_drewN | apply Kd.R_drew)); exact HO_9.out)); (case aS => exact (below_size (by repeat (first | (with_reducible first | exact HB.out | apply below_alloc | apply pw_below_drewN | apply below_drew1) | exact HB.out)))); (case aL => have := LMc9.out; omega); intro v126 w10 ho hb hg hat; rw [← Ny125.out] at ho; have n0_ := Aside0.mk (hb); have n1_ := Aside0.mk (ho); clear HB; clear HO_9; have HB := n0_; have HO127 := n1_; clear n0_ n1_; clear ho hb hg hat))
                go_roundg k2
                case measure => have := HJ4.out; have := HK2.out; omega
                case rel => exact ⟨(IntKind.u64.wrap (x7_2 + x8_4)), (y125), (wrap64 (x10_2 + 1)), (by first | rfl | (simp; done) | (simp [*]; done)), (by first | rfl | (simp; done) | (simp [*]; done)), H', ⟨by have := HJ4.out; have := HK2.out; omega⟩, ⟨by (with_reducible repeat (first | apply Kd.R_alloc | apply Kd.R_drewN | apply Kd.R_drew)); exact HO127.out⟩, ⟨by repeat (first | (with_reducible first | exact HB.out | apply below_alloc | apply pw_below_drewN | apply below_drew1) | exact HB.out)⟩⟩
              · rw [if_neg c9] at H
                exact absurd H (by simp)
          · rw [if_neg c7] at H
            have c7b0 : decide (x10_2 < a2) = false := decide_eq_false c7
            clear c7
            obtain rfl := Option.some.inj H
            go_wp2
            go_ret
            exact ⟨_, by first | rfl | (simp [errW_none, errW_some] <;> rfl) | (simp [*, errW_none, errW_some] <;> rfl), by (with_reducible repeat (first | apply Kd.R_alloc | apply Kd.R_drewN | apply Kd.R_drew)); exact HO_9.out, by repeat (first | (with_reducible first | exact HB.out | apply below_alloc | apply pw_below_drewN | apply below_drew1) | exact HB.out)⟩

/-! ### lienref11_Has: function 49 -/
def lienref11_Has.l0 : Nat → List Int → List Int → Int → Option (Bool)
  | 0, _, _, _ => none
  | k + 1, x0, x5, x6 => if x6 < (x5.length : Int) then (if 0 ≤ x6 then (if 0 ≤ (wrap64 (1 + (wrap64 (Int.tdiv (rd x5 x6) 8)))) then (if (wrap64 (1 + (wrap64 (Int.tdiv (rd x5 x6) 8)))) < (x0.length : Int) then (if 0 ≤ (IntKind.u64.wrap (Int.tmod (rd x5 x6) 8)) then (if (Int.tmod (shr .u8 (rd x0 (wrap64 (1 + (wrap64 (Int.tdiv (rd x5 x6) 8))))) (IntKind.u64.wrap (Int.tmod (rd x5 x6) 8))) 2) = 0 then (some false) else (lienref11_Has.l0 k x0 x5 (wrap64 (x6 + 1)))) else (none)) else (none)) else (none)) else (none)) else (some true)
def lienref11_Has.f (k : Nat) (l0 : List Int) (a1 : ByteArray) : Option (Bool) := (lienref11_Is.f l0).bind fun t128 => (if t128 = true then (if 0 < (l0.length : Int) then ((lienref11_Places.f k a1 (wrap64 (8 * (wrap64 ((l0.length : Int) - 1)))) (wrap64 (rd l0 0))).bind fun t130 => (lienref11_Has.l0 k l0 t130 0)) else (none)) else (some false))
theorem lienref11_Has.mono_l : ∀ k, (∀ y0 y1 y2, LeO (lienref11_Has.l0 k y0 y1 y2) (lienref11_Has.l0 (k + 1) y0 y1 y2))
  | 0 => fun _ _ _ r h => by simp [lienref11_Has.l0] at h
  | k + 1 => by
    have ih0 := lienref11_Has.mono_l k
    · intro y0 y1 y2
      unfold lienref11_Has.l0
      repeat' first
      | (with_reducible exact ih0 _ _ _)
      | (with_reducible exact lienref11_Places.mono _ _ _ _)
      | (with_reducible exact LeO.refl _)
      | (with_reducible exact LeO.none _)
      | (with_reducible refine LeO.ite ?_ ?_)
      | (with_reducible refine LeO.bind ?_ (fun _ => ?_))
      | exact ih0 _ _ _
      | exact lienref11_Places.mono _ _ _ _
      | exact LeO.none _
      | refine LeO.ite ?_ ?_
      | refine LeO.bind ?_ (fun _ => ?_)
theorem lienref11_Has.mono : ∀ a0 a1 k, LeO (lienref11_Has.f k a0 a1) (lienref11_Has.f (k + 1) a0 a1) := by
  intro a0 a1 k
  have ih0 := lienref11_Has.mono_l k
  unfold lienref11_Has.f
  repeat' first
      | (with_reducible exact ih0 _ _ _)
      | (with_reducible exact lienref11_Places.mono _ _ _ _)
      | (with_reducible exact LeO.refl _)
      | (with_reducible exact LeO.none _)
      | (with_reducible refine LeO.ite ?_ ?_)
      | (with_reducible refine LeO.bind ?_ (fun _ => ?_))
      | exact ih0 _ _ _
      | exact lienref11_Places.mono _ _ _ _
      | exact LeO.none _
      | refine LeO.ite ?_ ?_
      | refine LeO.bind ?_ (fun _ => ?_)
set_option maxHeartbeats 8000000 in
set_option maxRecDepth 100000 in
theorem lienref11_Has.calls (k : Nat) (A0 : Option Addr) (c0 : Nat) (l0 : List Int) (a1 : ByteArray) (r : Bool) (w : World) (hr0 : Kd.C (Kd.int .u8) w A0 l0.length l0) (hc0 : l0.length ≤ c0) (h : lienref11_Has.f k l0 a1 = some r) :
    Calls Try.prog 49 #[.slice A0 l0.length c0, .string a1] w fun e w' => e = .returned (.bool r) ∧ Below w.heap.size w w' := by
  have HR0 := Aside0.mk hr0
  have HC0 := Aside0.mk hc0
  clear hr0 hc0
  have HB := Aside0.mk (Below.refl w.heap.size w)
  have H : ((lienref11_Is.f l0).bind fun t128 => (if t128 = true then (if 0 < (l0.length : Int) then ((lienref11_Places.f k a1 (wrap64 (8 * (wrap64 ((l0.length : Int) - 1)))) (wrap64 (rd l0 0))).bind fun t130 => (lienref11_Has.l0 k l0 t130 0)) else (none)) else (some false))) = some r := h
  clear h
  replace H := Option.bind_eq_some_iff.mp H
  obtain ⟨t128, A30, H⟩ := H
  replace H : (if t128 = true then (if 0 < (l0.length : Int) then ((lienref11_Places.f k a1 (wrap64 (8 * (wrap64 ((l0.length : Int) - 1)))) (wrap64 (rd l0 0))).bind fun t130 => (lienref11_Has.l0 k l0 t130 0)) else (none)) else (some false)) = some r := H
  have A3 := Aside0.mk A30
  clear A30
  by_cases c4 : t128 = true
  · subst c4
    have H1 : (if 0 < (l0.length : Int) then ((lienref11_Places.f k a1 (wrap64 (8 * (wrap64 ((l0.length : Int) - 1)))) (wrap64 (rd l0 0))).bind fun t130 => (lienref11_Has.l0 k l0 t130 0)) else (none)) = some r := by rw [if_pos rfl] at H; exact H
    clear H
    have H := H1
    clear H1
    by_cases c5 : 0 < (l0.length : Int)
    · rw [if_pos c5] at H
      have c5b0 : decide (0 < (l0.length : Int)) = true := decide_eq_true c5
      have c5b1 : decide (0 < l0.length) = true := decide_eq_true (by omega)
      clear c5
      replace H := Option.bind_eq_some_iff.mp H
      obtain ⟨t130, A60, H⟩ := H
      replace H : (lienref11_Has.l0 k l0 t130 0) = some r := H
      have A6 := Aside0.mk A60
      clear A60
      have H' := Aside0.mk H
      clear H
      go_enter Try.func49, Try.ntmps49
      go_wp2_with (first | (go_at_call 51; (with_reducible refine (lienref11_Is.calls _ _ l0 true _ ?side1 ?side2 A3.out).mono ?_); (case side1 => repeat (first | exact HR0.out | (with_reducible refine Kd.C_alloc ?_ _) | (with_reducible refine Kd.C_drewN ?_ _) | (with_reducible refine Kd.C_drew ?_))); (case side2 => exact HC0.out); rintro e w' ⟨rfl, ⟨nd, rfl⟩⟩; (try first | exact ⟨rfl, _, World.drewN_drewN _ _ _⟩ | exact ⟨rfl, _, Eq.trans (World.drewN_drewN _ _ _) (congrArg (World.drewN _) (Nat.add_assoc _ _ _))⟩); have p129 : 0 ≤ (0 : Int) := (by omega); have q129 : 0 < (l0.length : Int) := of_decide_eq_true (by first | (with_reducible assumption) | assumption); obtain ⟨ad129, e129, hx129_0⟩ := Kd.at_int HR0.out 0 p129 q129; cases e129; have qi129 : (0 < l0.length) = True := eq_true (by omega); (try rw [show ((0 : Int)).toNat = 0 from rfl] at hx129_0); (try rw [Addr.add_zero'] at hx129_0); replace p129 := eq_true p129; replace q129 := eq_true q129) | (go_at_call 55; (with_reducible refine (lienref11_Places.calls k a1 (wrap64 (8 * (wrap64 ((l0.length : Int) - 1)))) (wrap64 (rd l0 0)) t130 _ A6.out).mono ?_); rintro e w7 ⟨v131, rfl, ho0, hb⟩; have n0_ := Aside0.mk (Kd.R_lower ho0 (below_size (by repeat (first | (with_reducible first | exact HB.out | apply below_alloc | apply pw_below_drewN | apply below_drew1) | exact HB.out)))); have n1_ := Aside0.mk (below_step (by repeat (first | (with_reducible first | exact HB.out | apply below_alloc | apply pw_below_drewN | apply below_drew1) | exact HB.out)) hb); clear HB; have HO132 := n0_; have HB := n1_; clear n0_ n1_; (try clear hb); (try clear hb2); (try clear hk); (try clear hi); (try clear ho0)))
      repeat (go_quiet (first | (go_at_call 51; (with_reducible refine (lienref11_Is.calls _ _ l0 true _ ?side1 ?side2 A3.out).mono ?_); (case side1 => repeat (first | exact HR0.out | (with_reducible refine Kd.C_alloc ?_ _) | (with_reducible refine Kd.C_drewN ?_ _) | (with_reducible refine Kd.C_drew ?_))); (case side2 => exact HC0.out); rintro e w' ⟨rfl, ⟨nd, rfl⟩⟩; (try first | exact ⟨rfl, _, World.drewN_drewN _ _ _⟩ | exact ⟨rfl, _, Eq.trans (World.drewN_drewN _ _ _) (congrArg (World.drewN _) (Nat.add_assoc _ _ _))⟩); have p129 : 0 ≤ (0 : Int) := (by omega); have q129 : 0 < (l0.length : Int) := of_decide_eq_true (by first | (with_reducible assumption) | assumption); obtain ⟨ad129, e129, hx129_0⟩ := Kd.at_int HR0.out 0 p129 q129; cases e129; have qi129 : (0 < l0.length) = True := eq_true (by omega); (try rw [show ((0 : Int)).toNat = 0 from rfl] at hx129_0); (try rw [Addr.add_zero'] at hx129_0); replace p129 := eq_true p129; replace q129 := eq_true q129) | (go_at_call 55; (with_reducible refine (lienref11_Places.calls k a1 (wrap64 (8 * (wrap64 ((l0.length : Int) - 1)))) (wrap64 (rd l0 0)) t130 _ A6.out).mono ?_); rintro e w7 ⟨v131, rfl, ho0, hb⟩; have n0_ := Aside0.mk (Kd.R_lower ho0 (below_size (by repeat (first | (with_reducible first | exact HB.out | apply below_alloc | apply pw_below_drewN | apply below_drew1) | exact HB.out)))); have n1_ := Aside0.mk (below_step (by repeat (first | (with_reducible first | exact HB.out | apply below_alloc | apply pw_below_drewN | apply below_drew1) | exact HB.out)) hb); clear HB; have HO132 := n0_; have HB := n1_; clear n0_ n1_; (try clear hb); (try clear hb2); (try clear hk); (try clear hi); (try clear ho0))); try go_wp2_with (first | (go_at_call 51; (with_reducible refine (lienref11_Is.calls _ _ l0 true _ ?side1 ?side2 A3.out).mono ?_); (case side1 => repeat (first | exact HR0.out | (with_reducible refine Kd.C_alloc ?_ _) | (with_reducible refine Kd.C_drewN ?_ _) | (with_reducible refine Kd.C_drew ?_))); (case side2 => exact HC0.out); rintro e w' ⟨rfl, ⟨nd, rfl⟩⟩; (try first | exact ⟨rfl, _, World.drewN_drewN _ _ _⟩ | exact ⟨rfl, _, Eq.trans (World.drewN_drewN _ _ _) (congrArg (World.drewN _) (Nat.add_assoc _ _ _))⟩); have p129 : 0 ≤ (0 : Int) := (by omega); have q129 : 0 < (l0.length : Int) := of_decide_eq_true (by first | (with_reducible assumption) | assumption); obtain ⟨ad129, e129, hx129_0⟩ := Kd.at_int HR0.out 0 p129 q129; cases e129; have qi129 : (0 < l0.length) = True := eq_true (by omega); (try rw [show ((0 : Int)).toNat = 0 from rfl] at hx129_0); (try rw [Addr.add_zero'] at hx129_0); replace p129 := eq_true p129; replace q129 := eq_true q129) | (go_at_call 55; (with_reducible refine (lienref11_Places.calls k a1 (wrap64 (8 * (wrap64 ((l0.length : Int) - 1)))) (wrap64 (rd l0 0)) t130 _ A6.out).mono ?_); rintro e w7 ⟨v131, rfl, ho0, hb⟩; have n0_ := Aside0.mk (Kd.R_lower ho0 (below_size (by repeat (first | (with_reducible first | exact HB.out | apply below_alloc | apply pw_below_drewN | apply below_drew1) | exact HB.out)))); have n1_ := Aside0.mk (below_step (by repeat (first | (with_reducible first | exact HB.out | apply below_alloc | apply pw_below_drewN | apply below_drew1) | exact HB.out)) hb); clear HB; have HO132 := n0_; have HB := n1_; clear n0_ n1_; (try clear hb); (try clear hb2); (try clear hk); (try clear hi); (try clear ho0))))
      go_loopg [6] k (fun kq v6 w' => ∃ (x6_1 : Int), v6 = .int .i64 x6_1 ∧ Aside0 (lienref11_Has.l0 kq l0 t130 x6_1 = some r) ∧ Aside0 (kq ≤ k) ∧ Aside0 (Kd.R (Kd.int .i64) 3 w' w.heap.size (fun _ => True) v131 t130) ∧ Aside0 (Below w.heap.size w w'))
      case atStart => exact ⟨(0), (by first | rfl | (simp; done) | (simp [*]; done)), H', ⟨Nat.le_refl _⟩, ⟨by (with_reducible repeat (first | apply Kd.R_alloc | apply Kd.R_drewN | apply Kd.R_drew)); exact HO132.out⟩, ⟨by repeat (first | (with_reducible first | exact HB.out | apply below_alloc | apply pw_below_drewN | apply below_drew1) | exact HB.out)⟩⟩
      case round =>
        clear H'
        try clear p1
        try clear q1
        try clear hx1
        try clear qi1
        try clear p2
        try clear c4
        try clear c5
        try clear c5b0
        try clear c5b1
        try clear p6
        try clear hx129_0
        try clear p129
        try clear q129
        obtain ⟨x6_1, rfl, HA, HK1, HO_5, HB⟩ := hrel
        cases gk with
        | zero => exact absurd HA.out (by simp [lienref11_Has.l0])
        | succ k1 =>
          have H := HA.out
          clear HA
          simp only [lienref11_Has.l0] at H
          by_cases c8 : x6_1 < (t130.length : Int)
          · rw [if_pos c8] at H
            have c8b0 : decide (x6_1 < (t130.length : Int)) = true := decide_eq_true c8
            clear c8
            by_cases c9 : 0 ≤ x6_1
            · rw [if_pos c9] at H
              have c9b0 : decide (0 ≤ x6_1) = true := decide_eq_true c9
              clear c9
              obtain ⟨ji10, hji10⟩ : ∃ j_ : Int, (wrap64 (1 + (wrap64 (Int.tdiv (rd t130 x6_1) 8)))) = j_ := ⟨_, rfl⟩
              replace H : (if 0 ≤ (ji10) then (if (ji10) < (l0.length : Int) then (if 0 ≤ (IntKind.u64.wrap (Int.tmod (rd t130 x6_1) 8)) then (if (Int.tmod (shr .u8 (rd l0 (ji10)) (IntKind.u64.wrap (Int.tmod (rd t130 x6_1) 8))) 2) = 0 then (some false) else (lienref11_Has.l0 k1 l0 t130 (wrap64 (x6_1 + 1)))) else (none)) else (none)) else (none)) = some r := by first | (rw [hji10] at H; exact H) | (simp only [hji10] at H ⊢; exact H)
              have hji10w : (IntKind.i64.wrap (1 + (wrap64 (Int.tdiv (rd t130 x6_1) 8)))) = ji10 := (i64_w _).trans hji10
              by_cases c11 : 0 ≤ (ji10)
              · rw [if_pos c11] at H
                have c11b0 : decide (0 ≤ (ji10)) = true := decide_eq_true c11
                clear c11
                by_cases c12 : (ji10) < (l0.length : Int)
                · rw [if_pos c12] at H
                  have c12b0 : decide ((ji10) < (l0.length : Int)) = true := decide_eq_true c12
                  clear c12
                  obtain ⟨ji13, hji13⟩ : ∃ j_ : Int, (IntKind.u64.wrap (Int.tmod (rd t130 x6_1) 8)) = j_ := ⟨_, rfl⟩
                  replace H : (if 0 ≤ (ji13) then (if (Int.tmod (shr .u8 (rd l0 (ji10)) (ji13)) 2) = 0 then (some false) else (lienref11_Has.l0 k1 l0 t130 (wrap64 (x6_1 + 1)))) else (none)) = some r := by first | (rw [hji13] at H; exact H) | (simp only [hji13] at H ⊢; exact H)
                  by_cases c14 : 0 ≤ (ji13)
                  · rw [if_pos c14] at H
                    have c14b0 := eq_true c14
                    have c14b1 : decide (0 ≤ (ji13)) = true := decide_eq_true c14
                    clear c14
                    obtain ⟨ji15, hji15⟩ : ∃ j_ : Int, (shr .u8 (rd l0 (ji10)) (ji13)) = j_ := ⟨_, rfl⟩
                    replace H : (if (Int.tmod (ji15) 2) = 0 then (some false) else (lienref11_Has.l0 k1 l0 t130 (wrap64 (x6_1 + 1)))) = some r := by first | (rw [hji15] at H; exact H) | (simp only [hji15] at H ⊢; exact H)
                    have hji15_ : ((rd l0 (ji10)) / 2 ^ min (ji13).toNat 8) = ji15 := hji15
                    have hji15z : (ji13) ≤ 8 → ((rd l0 (ji10)) / 2 ^ (ji13).toNat) = ji15 := shr_small hji15
                    by_cases c16 : (Int.tmod (ji15) 2) = 0
                    · rw [if_pos c16] at H
                      have c16b0 : ((Int.tmod (ji15) 2) == 0) = true := beq_iff_eq.mpr c16
                      have c16b1 : ((Int.tmod (ji15) 2) != 0) = false := bne_eq_false_iff_eq.mpr c16
                      clear c16
                      obtain rfl := Option.some.inj H
                      obtain ⟨Ao17, co17, eo17⟩ := Kd.R_slice HO_5.out
                      subst eo17
                      have p133 : 0 ≤ (x6_1 : Int) := of_decide_eq_true (by first | (with_reducible assumption) | assumption)
                      have q133 : x6_1 < (t130.length : Int) := of_decide_eq_true (by first | (with_reducible assumption) | assumption)
                      obtain ⟨ad133, e133, hx133_0⟩ := Kd.at_int (Kd.R_reads' HO_5.out).2.2 x6_1 p133 q133
                      cases e133
                      replace p133 := eq_true p133
                      replace q133 := eq_true q133
                      have p134 : 0 ≤ ((ji10) : Int) := of_decide_eq_true (by first | (with_reducible assumption) | assumption)
                      have q134 : (ji10) < (l0.length : Int) := of_decide_eq_true (by first | (with_reducible assumption) | assumption)
                      obtain ⟨ad134, e134, hx134_0⟩ := Kd.at_int HR0.out (ji10) p134 q134
                      obtain rfl : ad129 = ad134 := (by injection e134)
                      replace hx134_0 := (HB.out.cell (World.block_lt_of_cell? w _ hx134_0)).trans hx134_0
                      replace p134 := eq_true p134
                      replace q134 := eq_true q134
                      have p135 : 0 ≤ (x6_1 : Int) := of_decide_eq_true (by first | (with_reducible assumption) | assumption)
                      have q135 : x6_1 < (t130.length : Int) := of_decide_eq_true (by first | (with_reducible assumption) | assumption)
                      obtain ⟨ad135, e135, hx135_0⟩ := Kd.at_int (Kd.R_reads' HO_5.out).2.2 x6_1 p135 q135
                      obtain rfl : ad133 = ad135 := (by injection e135)
                      replace p135 := eq_true p135
                      replace q135 := eq_true q135
                      go_wp2
                      repeat (go_quiet (fail); try go_wp2)
                      go_ret
                      exact ⟨by first | rfl | (simp [errW_none, errW_some] <;> rfl) | (simp only [← hji10, ← hji13, ← hji15]; first | rfl | (simp [errW_none, errW_some] <;> rfl)) | (simp [*, errW_none, errW_some] <;> rfl), by repeat (first | (with_reducible first | exact HB.out | apply below_alloc | apply pw_below_drewN | apply below_drew1) | exact HB.out)⟩
                    · rw [if_neg c16] at H
                      have c16b0 : ((Int.tmod (ji15) 2) == 0) = false := beq_eq_false_iff_ne.mpr c16
                      have c16b1 : ((Int.tmod (ji15) 2) != 0) = true := bne_iff_ne.mpr c16
                      have H' := Aside0.mk H
                      clear H
                      obtain ⟨Ao18, co18, eo18⟩ := Kd.R_slice HO_5.out
                      subst eo18
                      have p133 : 0 ≤ (x6_1 : Int) := of_decide_eq_true (by first | (with_reducible assumption) | assumption)
                      have q133 : x6_1 < (t130.length : Int) := of_decide_eq_true (by first | (with_reducible assumption) | assumption)
                      obtain ⟨ad133, e133, hx133_0⟩ := Kd.at_int (Kd.R_reads' HO_5.out).2.2 x6_1 p133 q133
                      cases e133
                      replace p133 := eq_true p133
                      replace q133 := eq_true q133
                      have p134 : 0 ≤ ((ji10) : Int) := of_decide_eq_true (by first | (with_reducible assumption) | assumption)
                      have q134 : (ji10) < (l0.length : Int) := of_decide_eq_true (by first | (with_reducible assumption) | assumption)
                      obtain ⟨ad134, e134, hx134_0⟩ := Kd.at_int HR0.out (ji10) p134 q134
                      obtain rfl : ad129 = ad134 := (by injection e134)
                      replace hx134_0 := (HB.out.cell (World.block_lt_of_cell? w _ hx134_0)).trans hx134_0
                      replace p134 := eq_true p134
                      replace q134 := eq_true q134
                      have p135 : 0 ≤ (x6_1 : Int) := of_decide_eq_true (by first | (with_reducible assumption) | assumption)
                      have q135 : x6_1 < (t130.length : Int) := of_decide_eq_true (by first | (with_reducible assumption) | assumption)
                      obtain ⟨ad135, e135, hx135_0⟩ := Kd.at_int (Kd.R_reads' HO_5.out).2.2 x6_1 p135 q135
                      obtain rfl : ad133 = ad135 := (by injection e135)
                      replace p135 := eq_true p135
                      replace q135 := eq_true q135
                      go_wp2
                      repeat (go_quiet (fail); try go_wp2)
                      go_roundg k1
                      case measure => have := HK1.out; omega
                      case rel => exact ⟨(wrap64 (x6_1 + 1)), (by first | rfl | (simp; done) | (simp [*]; done)), H', ⟨by have := HK1.out; omega⟩, ⟨by (with_reducible repeat (first | apply Kd.R_alloc | apply Kd.R_drewN | apply Kd.R_drew)); exact HO_5.out⟩, ⟨by repeat (first | (with_reducible first | exact HB.out | apply below_alloc | apply pw_below_drewN | apply below_drew1) | exact HB.out)⟩⟩
                  · rw [if_neg c14] at H
                    exact absurd H (by simp)
                · rw [if_neg c12] at H
                  exact absurd H (by simp)
              · rw [if_neg c11] at H
                exact absurd H (by simp)
            · rw [if_neg c9] at H
              exact absurd H (by simp)
          · rw [if_neg c8] at H
            have c8b0 : decide (x6_1 < (t130.length : Int)) = false := decide_eq_false c8
            clear c8
            obtain rfl := Option.some.inj H
            obtain ⟨Ao19, co19, eo19⟩ := Kd.R_slice HO_5.out
            subst eo19
            go_wp2
            repeat (go_quiet (fail); try go_wp2)
            go_ret
            exact ⟨by first | rfl | (simp [errW_none, errW_some] <;> rfl) | (simp [*, errW_none, errW_some] <;> rfl), by repeat (first | (with_reducible first | exact HB.out | apply below_alloc | apply pw_below_drewN | apply below_drew1) | exact HB.out)⟩
    · rw [if_neg c5] at H
      exact absurd H (by simp)
  · replace c4 := Bool.eq_false_iff.mpr c4
    subst c4
    have H1 : (some false) = some r := by rw [if_neg (show ¬ (false = true) by decide)] at H; exact H
    clear H
    have H := H1
    clear H1
    obtain rfl := Option.some.inj H
    go_enter Try.func49, Try.ntmps49
    go_wp2_with (first | (go_at_call 51; (with_reducible refine (lienref11_Is.calls _ _ l0 false _ ?side1 ?side2 A3.out).mono ?_); (case side1 => repeat (first | exact HR0.out | (with_reducible refine Kd.C_alloc ?_ _) | (with_reducible refine Kd.C_drewN ?_ _) | (with_reducible refine Kd.C_drew ?_))); (case side2 => exact HC0.out); rintro e w' ⟨rfl, ⟨nd, rfl⟩⟩; (try first | exact ⟨rfl, _, World.drewN_drewN _ _ _⟩ | exact ⟨rfl, _, Eq.trans (World.drewN_drewN _ _ _) (congrArg (World.drewN _) (Nat.add_assoc _ _ _))⟩)))
    repeat (go_quiet (first | (go_at_call 51; (with_reducible refine (lienref11_Is.calls _ _ l0 false _ ?side1 ?side2 A3.out).mono ?_); (case side1 => repeat (first | exact HR0.out | (with_reducible refine Kd.C_alloc ?_ _) | (with_reducible refine Kd.C_drewN ?_ _) | (with_reducible refine Kd.C_drew ?_))); (case side2 => exact HC0.out); rintro e w' ⟨rfl, ⟨nd, rfl⟩⟩; (try first | exact ⟨rfl, _, World.drewN_drewN _ _ _⟩ | exact ⟨rfl, _, Eq.trans (World.drewN_drewN _ _ _) (congrArg (World.drewN _) (Nat.add_assoc _ _ _))⟩))); try go_wp2_with (first | (go_at_call 51; (with_reducible refine (lienref11_Is.calls _ _ l0 false _ ?side1 ?side2 A3.out).mono ?_); (case side1 => repeat (first | exact HR0.out | (with_reducible refine Kd.C_alloc ?_ _) | (with_reducible refine Kd.C_drewN ?_ _) | (with_reducible refine Kd.C_drew ?_))); (case side2 => exact HC0.out); rintro e w' ⟨rfl, ⟨nd, rfl⟩⟩; (try first | exact ⟨rfl, _, World.drewN_drewN _ _ _⟩ | exact ⟨rfl, _, Eq.trans (World.drewN_drewN _ _ _) (congrArg (World.drewN _) (Nat.add_assoc _ _ _))⟩))))
    go_ret
    exact ⟨by first | rfl | (simp [errW_none, errW_some] <;> rfl) | (simp [*, errW_none, errW_some] <;> rfl), by repeat (first | (with_reducible first | exact HB.out | apply below_alloc | apply pw_below_drewN | apply below_drew1) | exact HB.out)⟩

/-! ### lienlaw11_BloomHas: function 10 -/
def lienlaw11_BloomHas.j0 : Nat → List Int → ByteArray → Bool → Option (Bool)
  | 0, _, _, _ => none
  | k + 1, x0, x1, x18 => if x18 = true then (if 300 ≤ (x0.length : Int) then ((bloom_Count.f (x0.take 300)).bind fun bt137 => ((lienref11_Count.f k (x0.take 300)).bind fun bt140 => ((bloom_Has.f (x0.take 300) x1).bind fun t143 => ((lienref11_Has.f k (x0.take 300) x1).bind fun t144 => (if (t143 == t144) = true then ((bloom_Check.f (x0.take 300)).bind fun t145 => ((lienref11_Is.f (x0.take 300)).bind fun t146 => (if ((t145 == 0) == t146) = true then (if bt137.1 = bt140.1 then (if bt137.2.1 = bt140.2.1 then (if bt137.2.2 = bt140.2.2 then ((lienlaw11_awake.f).bind fun t147 => (some t147)) else (some false)) else (some false)) else (some false)) else (some false)))) else (some false)))))) else (none)) else ((bloom_Count.f x0).bind fun bt148 => ((lienref11_Count.f k x0).bind fun bt151 => ((bloom_Has.f x0 x1).bind fun t154 => ((lienref11_Has.f k x0 x1).bind fun t155 => (if (t154 == t155) = true then ((bloom_Check.f x0).bind fun t156 => ((lienref11_Is.f x0).bind fun t157 => (if ((t156 == 0) == t157) = true then (if bt148.1 = bt151.1 then (if bt148.2.1 = bt151.2.1 then (if bt148.2.2 = bt151.2.2 then ((lienlaw11_awake.f).bind fun t158 => (some t158)) else (some false)) else (some false)) else (some false)) else (some false)))) else (some false))))))
def lienlaw11_BloomHas.f (k : Nat) (l0 : List Int) (a1 : ByteArray) : Option (Bool) := if (l0.length : Int) > 300 then (lienlaw11_BloomHas.j0 k l0 a1 (decide ((l0.length : Int) ≤ 8193))) else (lienlaw11_BloomHas.j0 k l0 a1 false)
theorem lienlaw11_BloomHas.mono_l : ∀ k, (∀ y0 y1 y2, LeO (lienlaw11_BloomHas.j0 k y0 y1 y2) (lienlaw11_BloomHas.j0 (k + 1) y0 y1 y2))
  | 0 => fun _ _ _ r h => by simp [lienlaw11_BloomHas.j0] at h
  | k + 1 => by
    have ih0 := lienlaw11_BloomHas.mono_l k
    · intro y0 y1 y2
      unfold lienlaw11_BloomHas.j0
      repeat' first
      | (with_reducible exact ih0 _ _ _)
      | (with_reducible exact lienref11_Count.mono _ _)
      | (with_reducible exact lienref11_Has.mono _ _ _)
      | (with_reducible exact LeO.refl _)
      | (with_reducible exact LeO.none _)
      | (with_reducible refine LeO.ite ?_ ?_)
      | (with_reducible refine LeO.bind ?_ (fun _ => ?_))
      | exact ih0 _ _ _
      | exact lienref11_Count.mono _ _
      | exact lienref11_Has.mono _ _ _
      | exact LeO.none _
      | refine LeO.ite ?_ ?_
      | refine LeO.bind ?_ (fun _ => ?_)
theorem lienlaw11_BloomHas.mono : ∀ a0 a1 k, LeO (lienlaw11_BloomHas.f k a0 a1) (lienlaw11_BloomHas.f (k + 1) a0 a1) := by
  intro a0 a1 k
  have ih0 := lienlaw11_BloomHas.mono_l k
  unfold lienlaw11_BloomHas.f
  repeat' first
      | (with_reducible exact ih0 _ _ _)
      | (with_reducible exact lienref11_Count.mono _ _)
      | (with_reducible exact lienref11_Has.mono _ _ _)
      | (with_reducible exact LeO.refl _)
      | (with_reducible exact LeO.none _)
      | (with_reducible refine LeO.ite ?_ ?_)
      | (with_reducible refine LeO.bind ?_ (fun _ => ?_))
      | exact ih0 _ _ _
      | exact lienref11_Count.mono _ _
      | exact lienref11_Has.mono _ _ _
      | exact LeO.none _
      | refine LeO.ite ?_ ?_
      | refine LeO.bind ?_ (fun _ => ?_)
set_option maxHeartbeats 8000000 in
set_option maxRecDepth 100000 in
theorem lienlaw11_BloomHas.calls (k : Nat) (A0 : Option Addr) (c0 : Nat) (l0 : List Int) (a1 : ByteArray) (r : Bool) (w : World) (hr0 : Kd.C (Kd.int .u8) w A0 l0.length l0) (hc0 : l0.length ≤ c0) (h : lienlaw11_BloomHas.f k l0 a1 = some r) (hr_ : Aside0 (r = true)) :
    Calls Try.prog 10 #[.slice A0 l0.length c0, .string a1] w fun e w' => e = .returned (.bool r) ∧ Below w.heap.size w w' := by
  have HR0 := Aside0.mk hr0
  have HC0 := Aside0.mk hc0
  clear hr0 hc0
  have HB := Aside0.mk (Below.refl w.heap.size w)
  have H : (if (l0.length : Int) > 300 then (lienlaw11_BloomHas.j0 k l0 a1 (decide ((l0.length : Int) ≤ 8193))) else (lienlaw11_BloomHas.j0 k l0 a1 false)) = some r := h
  clear h
  have HC3 := Aside0.mk H
  clear H
  go_enter Try.func10, Try.ntmps10
  go_upto_region 1 with (fail)
  go_cut [18] (fun v18 wc => ∃ (kq : Nat) (x18_2 : Bool), v18 = .bool x18_2 ∧ Aside0 (lienlaw11_BloomHas.j0 kq l0 a1 x18_2 = some r) ∧ Aside0 (kq ≤ k) ∧ Aside0 (Below w.heap.size w wc))
  case first =>
    have H := HC3.out
    clear HC3
    by_cases c4 : (l0.length : Int) > 300
    · rw [if_pos c4] at H
      have c4b0 : decide (300 < (l0.length : Int)) = true := decide_eq_true c4
      have c4b1 : decide (300 < l0.length) = true := decide_eq_true (by omega)
      clear c4
      (first | rw [c4b0] | (simp only [i64_w, i32_w]; rw [c4b0]) | skip)
      have H' := Aside0.mk H
      clear H
      go_wp2
      go_meet
      case rel => exact ⟨_, (decide ((l0.length : Int) ≤ 8193)), (by first | rfl | (simp; done) | (simp [*]; done)), H', ⟨by first | omega | exact Nat.le_refl _⟩, ⟨by repeat (first | (with_reducible first | exact HB.out | apply below_alloc | apply pw_below_drewN | apply below_drew1) | exact HB.out)⟩⟩
    · rw [if_neg c4] at H
      have c4b0 : decide (300 < (l0.length : Int)) = false := decide_eq_false c4
      have c4b1 : decide (300 < l0.length) = false := decide_eq_false (by omega)
      clear c4
      (first | rw [c4b0] | (simp only [i64_w, i32_w]; rw [c4b0]) | skip)
      have H' := Aside0.mk H
      clear H
      go_wp2
      go_meet
      case rel => exact ⟨_, (false), (by first | rfl | (simp; done) | (simp [*]; done)), H', ⟨by first | omega | exact Nat.le_refl _⟩, ⟨by repeat (first | (with_reducible first | exact HB.out | apply below_alloc | apply pw_below_drewN | apply below_drew1) | exact HB.out)⟩⟩
  case rest =>
    clear HC3
    try clear c1
    try clear p2
    try clear c4
    try clear c4b0
    try clear c4b1
    obtain ⟨kq, x18_2, rfl, HA, HJ2, HB⟩ := hcut
    cases kq with
    | zero => exact absurd HA.out (by simp [lienlaw11_BloomHas.j0])
    | succ kj2 =>
      have H := HA.out
      clear HA
      simp only [lienlaw11_BloomHas.j0] at H
      by_cases c5 : x18_2 = true
      · subst c5
        have H1 : (if 300 ≤ (l0.length : Int) then ((bloom_Count.f (l0.take 300)).bind fun bt137 => ((lienref11_Count.f kj2 (l0.take 300)).bind fun bt140 => ((bloom_Has.f (l0.take 300) a1).bind fun t143 => ((lienref11_Has.f kj2 (l0.take 300) a1).bind fun t144 => (if (t143 == t144) = true then ((bloom_Check.f (l0.take 300)).bind fun t145 => ((lienref11_Is.f (l0.take 300)).bind fun t146 => (if ((t145 == 0) == t146) = true then (if bt137.1 = bt140.1 then (if bt137.2.1 = bt140.2.1 then (if bt137.2.2 = bt140.2.2 then ((lienlaw11_awake.f).bind fun t147 => (some t147)) else (some false)) else (some false)) else (some false)) else (some false)))) else (some false)))))) else (none)) = some r := by rw [if_pos rfl] at H; exact H
        clear H
        have H := H1
        clear H1
        by_cases c6 : 300 ≤ (l0.length : Int)
        · rw [if_pos c6] at H
          have c6b0 := eq_true c6
          have c6b1 : decide (300 ≤ (l0.length : Int)) = true := decide_eq_true c6
          clear c6
          replace H := Option.bind_eq_some_iff.mp H
          obtain ⟨⟨t137, t138, t139⟩, A70, H⟩ := H
          replace H : ((lienref11_Count.f kj2 (l0.take 300)).bind fun bt140 => ((bloom_Has.f (l0.take 300) a1).bind fun t143 => ((lienref11_Has.f kj2 (l0.take 300) a1).bind fun t144 => (if (t143 == t144) = true then ((bloom_Check.f (l0.take 300)).bind fun t145 => ((lienref11_Is.f (l0.take 300)).bind fun t146 => (if ((t145 == 0) == t146) = true then (if t137 = bt140.1 then (if t138 = bt140.2.1 then (if t139 = bt140.2.2 then ((lienlaw11_awake.f).bind fun t147 => (some t147)) else (some false)) else (some false)) else (some false)) else (some false)))) else (some false))))) = some r := H
          have A7 := Aside0.mk A70
          clear A70
          replace H := Option.bind_eq_some_iff.mp H
          obtain ⟨⟨t140, t141, t142⟩, A80, H⟩ := H
          replace H : ((bloom_Has.f (l0.take 300) a1).bind fun t143 => ((lienref11_Has.f kj2 (l0.take 300) a1).bind fun t144 => (if (t143 == t144) = true then ((bloom_Check.f (l0.take 300)).bind fun t145 => ((lienref11_Is.f (l0.take 300)).bind fun t146 => (if ((t145 == 0) == t146) = true then (if t137 = t140 then (if t138 = t141 then (if t139 = t142 then ((lienlaw11_awake.f).bind fun t147 => (some t147)) else (some false)) else (some false)) else (some false)) else (some false)))) else (some false)))) = some r := H
          have A8 := Aside0.mk A80
          clear A80
          replace H := Option.bind_eq_some_iff.mp H
          obtain ⟨t143, A90, H⟩ := H
          replace H : ((lienref11_Has.f kj2 (l0.take 300) a1).bind fun t144 => (if (t143 == t144) = true then ((bloom_Check.f (l0.take 300)).bind fun t145 => ((lienref11_Is.f (l0.take 300)).bind fun t146 => (if ((t145 == 0) == t146) = true then (if t137 = t140 then (if t138 = t141 then (if t139 = t142 then ((lienlaw11_awake.f).bind fun t147 => (some t147)) else (some false)) else (some false)) else (some false)) else (some false)))) else (some false))) = some r := H
          have A9 := Aside0.mk A90
          clear A90
          replace H := Option.bind_eq_some_iff.mp H
          obtain ⟨t144, A100, H⟩ := H
          replace H : (if (t143 == t144) = true then ((bloom_Check.f (l0.take 300)).bind fun t145 => ((lienref11_Is.f (l0.take 300)).bind fun t146 => (if ((t145 == 0) == t146) = true then (if t137 = t140 then (if t138 = t141 then (if t139 = t142 then ((lienlaw11_awake.f).bind fun t147 => (some t147)) else (some false)) else (some false)) else (some false)) else (some false)))) else (some false)) = some r := H
          have A10 := Aside0.mk A100
          clear A100
          by_cases c11 : (t143 == t144) = true
          · rw [if_pos c11] at H
            have c11b0 : (t143 == t144) = true := c11
            (try (have c11b1 : decide (t143 = t144) = true := by simpa using c11))
            (try (have c11b2 : (t143 == t144) = true := by simpa using c11))
            clear c11
            replace H := Option.bind_eq_some_iff.mp H
            obtain ⟨t145, A120, H⟩ := H
            replace H : ((lienref11_Is.f (l0.take 300)).bind fun t146 => (if ((t145 == 0) == t146) = true then (if t137 = t140 then (if t138 = t141 then (if t139 = t142 then ((lienlaw11_awake.f).bind fun t147 => (some t147)) else (some false)) else (some false)) else (some false)) else (some false))) = some r := H
            have A12 := Aside0.mk A120
            clear A120
            replace H := Option.bind_eq_some_iff.mp H
            obtain ⟨t146, A130, H⟩ := H
            replace H : (if ((t145 == 0) == t146) = true then (if t137 = t140 then (if t138 = t141 then (if t139 = t142 then ((lienlaw11_awake.f).bind fun t147 => (some t147)) else (some false)) else (some false)) else (some false)) else (some false)) = some r := H
            have A13 := Aside0.mk A130
            clear A130
            by_cases c14 : ((t145 == 0) == t146) = true
            · rw [if_pos c14] at H
              have c14b0 : ((t145 == 0) == t146) = true := c14
              (try (have c14b1 : decide ((t145 == 0) = t146) = true := by simpa using c14))
              (try (have c14b2 : ((t145 == 0) == t146) = true := by simpa using c14))
              clear c14
              by_cases c15 : t137 = t140
              · rw [if_pos c15] at H
                have c15b0 : (t137 == t140) = true := beq_iff_eq.mpr c15
                have c15b1 : (t137 != t140) = false := bne_eq_false_iff_eq.mpr c15
                clear c15
                by_cases c16 : t138 = t141
                · rw [if_pos c16] at H
                  have c16b0 : (t138 == t141) = true := beq_iff_eq.mpr c16
                  have c16b1 : (t138 != t141) = false := bne_eq_false_iff_eq.mpr c16
                  clear c16
                  by_cases c17 : t139 = t142
                  · rw [if_pos c17] at H
                    have c17b0 : (t139 == t142) = true := beq_iff_eq.mpr c17
                    have c17b1 : (t139 != t142) = false := bne_eq_false_iff_eq.mpr c17
                    clear c17
                    replace H := Option.bind_eq_some_iff.mp H
                    obtain ⟨t147, A180, H⟩ := H
                    replace H : (some t147) = some r := H
                    have A18 := Aside0.mk A180
                    clear A180
                    obtain rfl := Option.some.inj H
                    obtain ⟨i019, hi019, _, hsz19, _⟩ := info_parts info5
                    obtain ⟨hcut19, hA19, hC19⟩ := print_take_of (P := Try.prog) (Value.int .u8) 0 32 5 .i64 Try.underlying32 hi019 hsz19 A0 c0 l0 300 (by omega) (of_decide_eq_true (by first | (with_reducible assumption) | assumption)) HC0.out
                    have HR136 := Aside0.mk (Kd.C_of_reads (h1 := fun _ => rfl) (hA19 _ (Kd.reads_of_C HR0.out)))
                    have HC136 := Aside0.mk hC19
                    clear hA19 hC19 hi019 hsz19
                    go_wp2_with (first | ((with_reducible refine gate_callee (f := 46) rfl ?_); refine goesL_ (some 23) rfl rfl Try.func46 (by kernel_rfl) rfl #[.slice A0 (l0.take 300).length c0] rfl (by (try simp only [List.map_toArray, List.map_cons, List.map_nil]); first | done | (rw [show (l0.take 300).length = 300 from (by rw [List.length_take]; have h_ : (300 : Int) ≤ (l0.length : Int) := of_decide_eq_true (by first | (with_reducible assumption) | assumption); omega)] <;> rfl) | rfl | (simp only [List.length_drop, List.length_take]; rfl)) ?_; (with_reducible refine (bloom_Count.calls _ _ (l0.take 300) t137 t138 t139 _ ?side1 ?side2 A7.out).mono ?_); (case side1 => repeat (first | exact (Kd.C_below HR136.out HB.out) | (with_reducible refine Kd.C_alloc ?_ _) | (with_reducible refine Kd.C_drewN ?_ _) | (with_reducible refine Kd.C_drew ?_))); (case side2 => exact HC136.out); rintro e w20 ⟨rfl, hb⟩; refine ⟨_, rfl, ?_⟩; have n0_ := Aside0.mk (below_step (by repeat (first | (with_reducible first | exact HB.out | apply below_alloc | apply pw_below_drewN | apply below_drew1) | exact HB.out)) hb); clear HB; have HB := n0_; clear n0_; (try clear hb); (try clear hb2); (try clear hk); (try clear hi)) | ((with_reducible refine gate_callee (f := 47) rfl ?_); refine goesL_ (some 29) rfl rfl Try.func47 (by kernel_rfl) rfl #[.slice A0 (l0.take 300).length c0] rfl (by (try simp only [List.map_toArray, List.map_cons, List.map_nil]); first | done | (rw [show (l0.take 300).length = 300 from (by rw [List.length_take]; have h_ : (300 : Int) ≤ (l0.length : Int) := of_decide_eq_true (by first | (with_reducible assumption) | assumption); omega)] <;> rfl) | rfl | (simp only [List.length_drop, List.length_take]; rfl)) ?_; (with_reducible refine (lienref11_Count.calls kj2 _ _ (l0.take 300) t140 t141 t142 _ ?side1 ?side2 A8.out).mono ?_); (case side1 => repeat (first | exact (Kd.C_below HR136.out HB.out) | (with_reducible refine Kd.C_alloc ?_ _) | (with_reducible refine Kd.C_drewN ?_ _) | (with_reducible refine Kd.C_drew ?_))); (case side2 => exact HC136.out); rintro e w' ⟨rfl, ⟨nd, rfl⟩⟩; refine ⟨_, rfl, ?_⟩) | ((with_reducible refine gate_callee (f := 48) rfl ?_); refine goesL_ (some 35) rfl rfl Try.func48 (by kernel_rfl) rfl #[.slice A0 (l0.take 300).length c0, .string a1] rfl (by (try simp only [List.map_toArray, List.map_cons, List.map_nil]); first | done | (rw [show (l0.take 300).length = 300 from (by rw [List.length_take]; have h_ : (300 : Int) ≤ (l0.length : Int) := of_decide_eq_true (by first | (with_reducible assumption) | assumption); omega)] <;> rfl) | rfl | (simp only [List.length_drop, List.length_take]; rfl)) ?_; (with_reducible refine (bloom_Has.calls _ _ (l0.take 300) a1 t143 _ ?side1 ?side2 A9.out).mono ?_); (case side1 => repeat (first | exact (Kd.C_below HR136.out (by repeat (first | (with_reducible first | exact HB.out | apply below_alloc | apply pw_below_drewN | apply below_drew1) | exact HB.out))) | (with_reducible refine Kd.C_alloc ?_ _) | (with_reducible refine Kd.C_drewN ?_ _) | (with_reducible refine Kd.C_drew ?_))); (case side2 => exact HC136.out); rintro e w21 ⟨rfl, hb⟩; refine ⟨_, rfl, ?_⟩; have n0_ := Aside0.mk (below_step (by repeat (first | (with_reducible first | exact HB.out | apply below_alloc | apply pw_below_drewN | apply below_drew1) | exact HB.out)) hb); clear HB; have HB := n0_; clear n0_; (try clear hb); (try clear hb2); (try clear hk); (try clear hi)) | ((with_reducible refine gate_callee (f := 49) rfl ?_); refine goesL_ (some 38) rfl rfl Try.func49 (by kernel_rfl) rfl #[.slice A0 (l0.take 300).length c0, .string a1] rfl (by (try simp only [List.map_toArray, List.map_cons, List.map_nil]); first | done | (rw [show (l0.take 300).length = 300 from (by rw [List.length_take]; have h_ : (300 : Int) ≤ (l0.length : Int) := of_decide_eq_true (by first | (with_reducible assumption) | assumption); omega)] <;> rfl) | rfl | (simp only [List.length_drop, List.length_take]; rfl)) ?_; (with_reducible refine (lienref11_Has.calls kj2 _ _ (l0.take 300) a1 t144 _ ?side1 ?side2 A10.out).mono ?_); (case side1 => repeat (first | exact (Kd.C_below HR136.out HB.out) | (with_reducible refine Kd.C_alloc ?_ _) | (with_reducible refine Kd.C_drewN ?_ _) | (with_reducible refine Kd.C_drew ?_))); (case side2 => exact HC136.out); rintro e w22 ⟨rfl, hb⟩; refine ⟨_, rfl, ?_⟩; have n0_ := Aside0.mk (below_step (by repeat (first | (with_reducible first | exact HB.out | apply below_alloc | apply pw_below_drewN | apply below_drew1) | exact HB.out)) hb); clear HB; have HB := n0_; clear n0_; (try clear hb); (try clear hb2); (try clear hk); (try clear hi)) | (go_at_call 50; (try rw [← List.length_take (i := 300) (l := l0)]); (with_reducible refine (bloom_Check.calls _ _ (l0.take 300) t145 _ ?side1 ?side2 A12.out).mono ?_); (case side1 => repeat (first | exact (Kd.C_below HR136.out HB.out) | (with_reducible refine Kd.C_alloc ?_ _) | (with_reducible refine Kd.C_drewN ?_ _) | (with_reducible refine Kd.C_drew ?_))); (case side2 => exact HC136.out); rintro e w23 ⟨rfl, hb⟩; have n0_ := Aside0.mk (below_step (by repeat (first | (with_reducible first | exact HB.out | apply below_alloc | apply pw_below_drewN | apply below_drew1) | exact HB.out)) hb); clear HB; have HB := n0_; clear n0_; (try clear hb); (try clear hb2); (try clear hk); (try clear hi)) | (go_at_call 51; (try rw [← List.length_take (i := 300) (l := l0)]); (with_reducible refine (lienref11_Is.calls _ _ (l0.take 300) t146 _ ?side1 ?side2 A13.out).mono ?_); (case side1 => repeat (first | exact (Kd.C_below HR136.out HB.out) | (with_reducible refine Kd.C_alloc ?_ _) | (with_reducible refine Kd.C_drewN ?_ _) | (with_reducible refine Kd.C_drew ?_))); (case side2 => exact HC136.out); rintro e w' ⟨rfl, ⟨nd, rfl⟩⟩) | (go_at_call 45; (with_reducible refine (lienlaw11_awake.calls  t147 _ A18.out).mono ?_); rintro e w24 ⟨rfl, hb⟩; have n0_ := Aside0.mk (below_step (by repeat (first | (with_reducible first | exact HB.out | apply below_alloc | apply pw_below_drewN | apply below_drew1) | exact HB.out)) hb); clear HB; have HB := n0_; clear n0_; (try clear hb); (try clear hb2); (try clear hk); (try clear hi)))
                    go_ret
                    exact ⟨by first | rfl | (simp [errW_none, errW_some] <;> rfl) | (simp [*, errW_none, errW_some] <;> rfl), by repeat (first | (with_reducible first | exact HB.out | apply below_alloc | apply pw_below_drewN | apply below_drew1) | exact HB.out)⟩
                  · rw [if_neg c17] at H
                    have c17b0 : (t139 == t142) = false := beq_eq_false_iff_ne.mpr c17
                    have c17b1 : (t139 != t142) = true := bne_iff_ne.mpr c17
                    exact absurd ((Option.some.inj H).trans hr_.out) (by decide)
                · rw [if_neg c16] at H
                  have c16b0 : (t138 == t141) = false := beq_eq_false_iff_ne.mpr c16
                  have c16b1 : (t138 != t141) = true := bne_iff_ne.mpr c16
                  exact absurd ((Option.some.inj H).trans hr_.out) (by decide)
              · rw [if_neg c15] at H
                have c15b0 : (t137 == t140) = false := beq_eq_false_iff_ne.mpr c15
                have c15b1 : (t137 != t140) = true := bne_iff_ne.mpr c15
                exact absurd ((Option.some.inj H).trans hr_.out) (by decide)
            · rw [if_neg c14] at H
              have c14b0 : ((t145 == 0) == t146) = false := by simpa using c14
              (try (have c14b1 : decide ((t145 == 0) = t146) = false := by simpa using c14))
              (try (have c14b2 : ((t145 == 0) == t146) = false := by simpa using c14))
              (try (have c14b3 : ¬ ((t145 == 0) = t146) := by simpa using c14))
              clear c14
              exact absurd ((Option.some.inj H).trans hr_.out) (by decide)
          · rw [if_neg c11] at H
            have c11b0 : (t143 == t144) = false := by simpa using c11
            (try (have c11b1 : decide (t143 = t144) = false := by simpa using c11))
            (try (have c11b2 : (t143 == t144) = false := by simpa using c11))
            (try (have c11b3 : ¬ (t143 = t144) := by simpa using c11))
            clear c11
            exact absurd ((Option.some.inj H).trans hr_.out) (by decide)
        · rw [if_neg c6] at H
          exact absurd H (by simp)
      · replace c5 := Bool.eq_false_iff.mpr c5
        subst c5
        have H1 : ((bloom_Count.f l0).bind fun bt148 => ((lienref11_Count.f kj2 l0).bind fun bt151 => ((bloom_Has.f l0 a1).bind fun t154 => ((lienref11_Has.f kj2 l0 a1).bind fun t155 => (if (t154 == t155) = true then ((bloom_Check.f l0).bind fun t156 => ((lienref11_Is.f l0).bind fun t157 => (if ((t156 == 0) == t157) = true then (if bt148.1 = bt151.1 then (if bt148.2.1 = bt151.2.1 then (if bt148.2.2 = bt151.2.2 then ((lienlaw11_awake.f).bind fun t158 => (some t158)) else (some false)) else (some false)) else (some false)) else (some false)))) else (some false)))))) = some r := by rw [if_neg (show ¬ (false = true) by decide)] at H; exact H
        clear H
        have H := H1
        clear H1
        replace H := Option.bind_eq_some_iff.mp H
        obtain ⟨⟨t148, t149, t150⟩, A250, H⟩ := H
        replace H : ((lienref11_Count.f kj2 l0).bind fun bt151 => ((bloom_Has.f l0 a1).bind fun t154 => ((lienref11_Has.f kj2 l0 a1).bind fun t155 => (if (t154 == t155) = true then ((bloom_Check.f l0).bind fun t156 => ((lienref11_Is.f l0).bind fun t157 => (if ((t156 == 0) == t157) = true then (if t148 = bt151.1 then (if t149 = bt151.2.1 then (if t150 = bt151.2.2 then ((lienlaw11_awake.f).bind fun t158 => (some t158)) else (some false)) else (some false)) else (some false)) else (some false)))) else (some false))))) = some r := H
        have A25 := Aside0.mk A250
        clear A250
        replace H := Option.bind_eq_some_iff.mp H
        obtain ⟨⟨t151, t152, t153⟩, A260, H⟩ := H
        replace H : ((bloom_Has.f l0 a1).bind fun t154 => ((lienref11_Has.f kj2 l0 a1).bind fun t155 => (if (t154 == t155) = true then ((bloom_Check.f l0).bind fun t156 => ((lienref11_Is.f l0).bind fun t157 => (if ((t156 == 0) == t157) = true then (if t148 = t151 then (if t149 = t152 then (if t150 = t153 then ((lienlaw11_awake.f).bind fun t158 => (some t158)) else (some false)) else (some false)) else (some false)) else (some false)))) else (some false)))) = some r := H
        have A26 := Aside0.mk A260
        clear A260
        replace H := Option.bind_eq_some_iff.mp H
        obtain ⟨t154, A270, H⟩ := H
        replace H : ((lienref11_Has.f kj2 l0 a1).bind fun t155 => (if (t154 == t155) = true then ((bloom_Check.f l0).bind fun t156 => ((lienref11_Is.f l0).bind fun t157 => (if ((t156 == 0) == t157) = true then (if t148 = t151 then (if t149 = t152 then (if t150 = t153 then ((lienlaw11_awake.f).bind fun t158 => (some t158)) else (some false)) else (some false)) else (some false)) else (some false)))) else (some false))) = some r := H
        have A27 := Aside0.mk A270
        clear A270
        replace H := Option.bind_eq_some_iff.mp H
        obtain ⟨t155, A280, H⟩ := H
        replace H : (if (t154 == t155) = true then ((bloom_Check.f l0).bind fun t156 => ((lienref11_Is.f l0).bind fun t157 => (if ((t156 == 0) == t157) = true then (if t148 = t151 then (if t149 = t152 then (if t150 = t153 then ((lienlaw11_awake.f).bind fun t158 => (some t158)) else (some false)) else (some false)) else (some false)) else (some false)))) else (some false)) = some r := H
        have A28 := Aside0.mk A280
        clear A280
        by_cases c29 : (t154 == t155) = true
        · rw [if_pos c29] at H
          have c29b0 : (t154 == t155) = true := c29
          (try (have c29b1 : decide (t154 = t155) = true := by simpa using c29))
          (try (have c29b2 : (t154 == t155) = true := by simpa using c29))
          clear c29
          replace H := Option.bind_eq_some_iff.mp H
          obtain ⟨t156, A300, H⟩ := H
          replace H : ((lienref11_Is.f l0).bind fun t157 => (if ((t156 == 0) == t157) = true then (if t148 = t151 then (if t149 = t152 then (if t150 = t153 then ((lienlaw11_awake.f).bind fun t158 => (some t158)) else (some false)) else (some false)) else (some false)) else (some false))) = some r := H
          have A30 := Aside0.mk A300
          clear A300
          replace H := Option.bind_eq_some_iff.mp H
          obtain ⟨t157, A310, H⟩ := H
          replace H : (if ((t156 == 0) == t157) = true then (if t148 = t151 then (if t149 = t152 then (if t150 = t153 then ((lienlaw11_awake.f).bind fun t158 => (some t158)) else (some false)) else (some false)) else (some false)) else (some false)) = some r := H
          have A31 := Aside0.mk A310
          clear A310
          by_cases c32 : ((t156 == 0) == t157) = true
          · rw [if_pos c32] at H
            have c32b0 : ((t156 == 0) == t157) = true := c32
            (try (have c32b1 : decide ((t156 == 0) = t157) = true := by simpa using c32))
            (try (have c32b2 : ((t156 == 0) == t157) = true := by simpa using c32))
            clear c32
            by_cases c33 : t148 = t151
            · rw [if_pos c33] at H
              have c33b0 : (t148 == t151) = true := beq_iff_eq.mpr c33
              have c33b1 : (t148 != t151) = false := bne_eq_false_iff_eq.mpr c33
              clear c33
              by_cases c34 : t149 = t152
              · rw [if_pos c34] at H
                have c34b0 : (t149 == t152) = true := beq_iff_eq.mpr c34
                have c34b1 : (t149 != t152) = false := bne_eq_false_iff_eq.mpr c34
                clear c34
                by_cases c35 : t150 = t153
                · rw [if_pos c35] at H
                  have c35b0 : (t150 == t153) = true := beq_iff_eq.mpr c35
                  have c35b1 : (t150 != t153) = false := bne_eq_false_iff_eq.mpr c35
                  clear c35
                  replace H := Option.bind_eq_some_iff.mp H
                  obtain ⟨t158, A360, H⟩ := H
                  replace H : (some t158) = some r := H
                  have A36 := Aside0.mk A360
                  clear A360
                  obtain rfl := Option.some.inj H
                  go_wp2_with (first | ((with_reducible refine gate_callee (f := 46) rfl ?_); refine goesL_ (some 23) rfl rfl Try.func46 (by kernel_rfl) rfl #[.slice A0 l0.length c0] rfl (by (try simp only [List.map_toArray, List.map_cons, List.map_nil]); first | done | rfl | (simp only [List.length_drop, List.length_take]; rfl)) ?_; (with_reducible refine (bloom_Count.calls _ _ l0 t148 t149 t150 _ ?side1 ?side2 A25.out).mono ?_); (case side1 => repeat (first | exact (Kd.C_below HR0.out HB.out) | (with_reducible refine Kd.C_alloc ?_ _) | (with_reducible refine Kd.C_drewN ?_ _) | (with_reducible refine Kd.C_drew ?_))); (case side2 => exact HC0.out); rintro e w37 ⟨rfl, hb⟩; refine ⟨_, rfl, ?_⟩; have n0_ := Aside0.mk (below_step (by repeat (first | (with_reducible first | exact HB.out | apply below_alloc | apply pw_below_drewN | apply below_drew1) | exact HB.out)) hb); clear HB; have HB := n0_; clear n0_; (try clear hb); (try clear hb2); (try clear hk); (try clear hi)) | ((with_reducible refine gate_callee (f := 47) rfl ?_); refine goesL_ (some 29) rfl rfl Try.func47 (by kernel_rfl) rfl #[.slice A0 l0.length c0] rfl (by (try simp only [List.map_toArray, List.map_cons, List.map_nil]); first | done | rfl | (simp only [List.length_drop, List.length_take]; rfl)) ?_; (with_reducible refine (lienref11_Count.calls kj2 _ _ l0 t151 t152 t153 _ ?side1 ?side2 A26.out).mono ?_); (case side1 => repeat (first | exact (Kd.C_below HR0.out HB.out) | (with_reducible refine Kd.C_alloc ?_ _) | (with_reducible refine Kd.C_drewN ?_ _) | (with_reducible refine Kd.C_drew ?_))); (case side2 => exact HC0.out); rintro e w' ⟨rfl, ⟨nd, rfl⟩⟩; refine ⟨_, rfl, ?_⟩) | ((with_reducible refine gate_callee (f := 48) rfl ?_); refine goesL_ (some 35) rfl rfl Try.func48 (by kernel_rfl) rfl #[.slice A0 l0.length c0, .string a1] rfl (by (try simp only [List.map_toArray, List.map_cons, List.map_nil]); first | done | rfl | (simp only [List.length_drop, List.length_take]; rfl)) ?_; (with_reducible refine (bloom_Has.calls _ _ l0 a1 t154 _ ?side1 ?side2 A27.out).mono ?_); (case side1 => repeat (first | exact (Kd.C_below HR0.out (by repeat (first | (with_reducible first | exact HB.out | apply below_alloc | apply pw_below_drewN | apply below_drew1) | exact HB.out))) | (with_reducible refine Kd.C_alloc ?_ _) | (with_reducible refine Kd.C_drewN ?_ _) | (with_reducible refine Kd.C_drew ?_))); (case side2 => exact HC0.out); rintro e w38 ⟨rfl, hb⟩; refine ⟨_, rfl, ?_⟩; have n0_ := Aside0.mk (below_step (by repeat (first | (with_reducible first | exact HB.out | apply below_alloc | apply pw_below_drewN | apply below_drew1) | exact HB.out)) hb); clear HB; have HB := n0_; clear n0_; (try clear hb); (try clear hb2); (try clear hk); (try clear hi)) | ((with_reducible refine gate_callee (f := 49) rfl ?_); refine goesL_ (some 38) rfl rfl Try.func49 (by kernel_rfl) rfl #[.slice A0 l0.length c0, .string a1] rfl (by (try simp only [List.map_toArray, List.map_cons, List.map_nil]); first | done | rfl | (simp only [List.length_drop, List.length_take]; rfl)) ?_; (with_reducible refine (lienref11_Has.calls kj2 _ _ l0 a1 t155 _ ?side1 ?side2 A28.out).mono ?_); (case side1 => repeat (first | exact (Kd.C_below HR0.out HB.out) | (with_reducible refine Kd.C_alloc ?_ _) | (with_reducible refine Kd.C_drewN ?_ _) | (with_reducible refine Kd.C_drew ?_))); (case side2 => exact HC0.out); rintro e w39 ⟨rfl, hb⟩; refine ⟨_, rfl, ?_⟩; have n0_ := Aside0.mk (below_step (by repeat (first | (with_reducible first | exact HB.out | apply below_alloc | apply pw_below_drewN | apply below_drew1) | exact HB.out)) hb); clear HB; have HB := n0_; clear n0_; (try clear hb); (try clear hb2); (try clear hk); (try clear hi)) | (go_at_call 50; (with_reducible refine (bloom_Check.calls _ _ l0 t156 _ ?side1 ?side2 A30.out).mono ?_); (case side1 => repeat (first | exact (Kd.C_below HR0.out HB.out) | (with_reducible refine Kd.C_alloc ?_ _) | (with_reducible refine Kd.C_drewN ?_ _) | (with_reducible refine Kd.C_drew ?_))); (case side2 => exact HC0.out); rintro e w40 ⟨rfl, hb⟩; have n0_ := Aside0.mk (below_step (by repeat (first | (with_reducible first | exact HB.out | apply below_alloc | apply pw_below_drewN | apply below_drew1) | exact HB.out)) hb); clear HB; have HB := n0_; clear n0_; (try clear hb); (try clear hb2); (try clear hk); (try clear hi)) | (go_at_call 51; (with_reducible refine (lienref11_Is.calls _ _ l0 t157 _ ?side1 ?side2 A31.out).mono ?_); (case side1 => repeat (first | exact (Kd.C_below HR0.out HB.out) | (with_reducible refine Kd.C_alloc ?_ _) | (with_reducible refine Kd.C_drewN ?_ _) | (with_reducible refine Kd.C_drew ?_))); (case side2 => exact HC0.out); rintro e w' ⟨rfl, ⟨nd, rfl⟩⟩) | (go_at_call 45; (with_reducible refine (lienlaw11_awake.calls  t158 _ A36.out).mono ?_); rintro e w41 ⟨rfl, hb⟩; have n0_ := Aside0.mk (below_step (by repeat (first | (with_reducible first | exact HB.out | apply below_alloc | apply pw_below_drewN | apply below_drew1) | exact HB.out)) hb); clear HB; have HB := n0_; clear n0_; (try clear hb); (try clear hb2); (try clear hk); (try clear hi)))
                  go_ret
                  exact ⟨by first | rfl | (simp [errW_none, errW_some] <;> rfl) | (simp [*, errW_none, errW_some] <;> rfl), by repeat (first | (with_reducible first | exact HB.out | apply below_alloc | apply pw_below_drewN | apply below_drew1) | exact HB.out)⟩
                · rw [if_neg c35] at H
                  have c35b0 : (t150 == t153) = false := beq_eq_false_iff_ne.mpr c35
                  have c35b1 : (t150 != t153) = true := bne_iff_ne.mpr c35
                  exact absurd ((Option.some.inj H).trans hr_.out) (by decide)
              · rw [if_neg c34] at H
                have c34b0 : (t149 == t152) = false := beq_eq_false_iff_ne.mpr c34
                have c34b1 : (t149 != t152) = true := bne_iff_ne.mpr c34
                exact absurd ((Option.some.inj H).trans hr_.out) (by decide)
            · rw [if_neg c33] at H
              have c33b0 : (t148 == t151) = false := beq_eq_false_iff_ne.mpr c33
              have c33b1 : (t148 != t151) = true := bne_iff_ne.mpr c33
              exact absurd ((Option.some.inj H).trans hr_.out) (by decide)
          · rw [if_neg c32] at H
            have c32b0 : ((t156 == 0) == t157) = false := by simpa using c32
            (try (have c32b1 : decide ((t156 == 0) = t157) = false := by simpa using c32))
            (try (have c32b2 : ((t156 == 0) == t157) = false := by simpa using c32))
            (try (have c32b3 : ¬ ((t156 == 0) = t157) := by simpa using c32))
            clear c32
            exact absurd ((Option.some.inj H).trans hr_.out) (by decide)
        · rw [if_neg c29] at H
          have c29b0 : (t154 == t155) = false := by simpa using c29
          (try (have c29b1 : decide (t154 = t155) = false := by simpa using c29))
          (try (have c29b2 : (t154 == t155) = false := by simpa using c29))
          (try (have c29b3 : ¬ (t154 = t155) := by simpa using c29))
          clear c29
          exact absurd ((Option.some.inj H).trans hr_.out) (by decide)

/-- THE ONE PURE STATEMENT of lienlaw11_BloomHas: yours. -/
def lienlaw11_BloomHas.Pure : Prop := ∀ (l0 : List Int) (a1 : ByteArray), l0.length ≤ maxLen → l0.length * 1 ≤ 140737488351232 → (∀ x ∈ l0, (Lit.int .u8 x).wf = true) → a1.size ≤ 140737488351232 → ∃ k, lienlaw11_BloomHas.f k l0 a1 = some true
theorem lienlaw11_BloomHas.walk (P : lienlaw11_BloomHas.Pure) (a0 : Option Addr) (len0 cap0 : Nat) (z0 : List Int) (a1 : ByteArray) (w : World) (w0 : (a0 = none ∧ len0 = 0 ∧ cap0 = 0 ∧ z0 = []) ∨ ∃ x, a0 = some x ∧ len0 ≤ cap0 ∧ cap0 ≤ maxLen ∧ z0.length = cap0 ∧ (∀ i, i < z0.length → w.cell? (x.add i) = some (.int .u8 (z0.getD i 0))) ∧ ∀ n ∈ z0, (Lit.int .u8 n).wf = true) (y0 : len0 * 1 ≤ 140737488351232) (w1 : a1.size ≤ 140737488351232) :
    Calls Try.prog 10 #[.slice a0 len0 cap0, .string a1] w fun e w' => e = .returned (.bool true) ∧ Below w.heap.size w w' := by
  obtain ⟨l0, rfl, hr0, hm0, hw0, hc0⟩ := ReadsInt.ofRowC w0
  obtain ⟨k, h⟩ := P l0 a1 hm0 y0 hw0 w1
  refine (lienlaw11_BloomHas.calls k _ _ l0 a1 true w (Kd.C_of_reads (d := (0 : Int)) (h1 := fun _ => rfl) hr0) hc0 h ⟨rfl⟩).mono ?_
  rintro e w' ⟨rfl, hd⟩
  exact ⟨rfl, hd⟩

end Go.Proofs.Ytlehgphnjpgjnaa.PBloomHas
