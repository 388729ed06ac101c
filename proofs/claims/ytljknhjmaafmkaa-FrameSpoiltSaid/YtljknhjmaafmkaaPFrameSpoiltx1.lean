-- Written by wip/xprint of this repo (our own program) out of the translation; what is marked BY HAND is ours. Not trusted: Lean checks it.
import Derived.Test.YtljknhjmaafmkaaPFrameSpoiltx0
namespace Go.Proofs.Ytljknhjmaafmkaa.PFrameSpoilt
open Go.RowKit Go.Proofs.YtljknhjmaafmkaaW.PrintWords Go.Proofs.YtljknhjmaafmkaaW.PrintLast Go.Proofs.YtljknhjmaafmkaaW.PrintMore
attribute [local go_sem] max2_int min2_int max_two min_two max_three min_three max_four min_four   -- for this text's walks alone
set_option linter.unusedVariables false
set_option linter.unusedSimpArgs false

/-! ### lienlaw04_cut: function 9 -/
def lienlaw04_cut.f (l0 : List Int) : Option (List Int) := if (l0.length : Int) > 300 then (if 300 ≤ (l0.length : Int) then (some (l0.take 300)) else (none)) else (some l0)
set_option maxHeartbeats 8000000 in
set_option maxRecDepth 100000 in
theorem lienlaw04_cut.calls (P0_ : Nat → Prop) (A0 : Option Addr) (c0 : Nat) (l0 : List Int) (r : List Int) (w : World) (hs0 : Kd.V (Kd.int .u8) 5 w w.heap.size (fun k_ => P0_ k_) (.slice A0 l0.length c0) l0) (h : lienlaw04_cut.f l0 = some r) :
    Calls Try.prog 9 #[.slice A0 l0.length c0] w fun e w' => ∃ v0_ : Value, e = .returned (v0_) ∧ Kd.V (Kd.int .u8) 5 w' w.heap.size (fun k_ => (P0_ k_ ∨ w.heap.size ≤ k_)) v0_ r ∧ Below w.heap.size w w' := by
  have HO0 := Aside0.mk (show Kd.V (Kd.int .u8) 5 w w.heap.size (fun k_ => (P0_ k_ ∨ w.heap.size ≤ k_)) (.slice A0 l0.length c0) l0 from Kd.V_mono hs0 (fun k_ hk => .inl hk))
  have HB := Aside0.mk (Below.refl w.heap.size w)
  have H : (if (l0.length : Int) > 300 then (if 300 ≤ (l0.length : Int) then (some (l0.take 300)) else (none)) else (some l0)) = some r := h
  clear h
  by_cases c2 : (l0.length : Int) > 300
  · rw [if_pos c2] at H
    have c2b0 : decide (300 < (l0.length : Int)) = true := decide_eq_true c2
    have c2b1 : decide (300 < l0.length) = true := decide_eq_true (by omega)
    clear c2
    by_cases c3 : 300 ≤ (l0.length : Int)
    · rw [if_pos c3] at H
      have c3b0 := eq_true c3
      have c3b1 : decide (300 ≤ (l0.length : Int)) = true := decide_eq_true c3
      clear c3
      obtain ⟨y101, hy101⟩ : ∃ y_ : List Int, y_ = (l0.take 300) := ⟨_, rfl⟩
      replace H : (some y101) = some r := by first | (rw [hy101]; with_reducible exact H) | (have H2_ := (Option.bind_some _ _).symm.trans H; rw [hy101]; with_reducible exact H2_) | (have H2_ := (Option.bind_some _ _).symm.trans H; with_reducible exact H2_) | with_reducible exact H | (rw [hy101]; exact H) | exact H
      have Ny101 := Aside0.mk hy101
      clear hy101
      obtain rfl := Option.some.inj H
      have q4 : (300 : Int) ≤ ((l0.length : Int) : Int) := of_decide_eq_true (by first | (with_reducible assumption) | assumption)
      obtain ⟨i04, hi04, _, hsz4, _⟩ := info_parts info5
      have hroom4 : l0.length ≤ c0 := (Kd.V_reads' HO0.out).2.1
      have hC4 : Kd.F (Kd.int .u8) _ _ A0 l0.length l0 := (Kd.V_at (base := w.heap.size) HO0.out).2.2
      have hcut4 := cut_to (P := Try.prog) 24 5 .i64 Try.underlying24 hi04 A0 l0.length c0 300 (by omega) q4 hroom4
      have hr4 := Kd.F_take (m := 300) hC4 (by omega)
      have hy4 : y101.length = (300 : Int).toNat := (by rw [Ny101.out, List.length_take]; omega)
      rw [← Ny101.out] at hr4
      rw [← hy4] at hcut4
      have HO105 := Aside0.mk (show Kd.V (Kd.int .u8) 5 _ w.heap.size _ (.slice A0 y101.length c0) y101 from Kd.V_mk (by omega) hr4)
      have HC105 := Aside0.mk (show y101.length ≤ c0 from by omega)
      clear hr4 hC4 hroom4 hi04 hsz4
      have KY4 := Aside0.mk hy4
      clear hy4
      replace q4 := eq_true q4
      go_enter Try.func9, Try.ntmps9
      go_wp2
      go_ret
      exact ⟨_, by first | rfl | (simp [errW_none, errW_some] <;> rfl) | (simp [*, errW_none, errW_some] <;> rfl), by (with_reducible repeat (first | apply Kd.V_alloc | apply Kd.V_drewN | apply Kd.V_drew)); exact HO105.out, by repeat (first | (with_reducible first | exact HB.out | apply below_alloc | apply pw_below_drewN | apply below_drew1) | exact HB.out)⟩
    · rw [if_neg c3] at H
      exact absurd H (by simp)
  · rw [if_neg c2] at H
    have c2b0 : decide (300 < (l0.length : Int)) = false := decide_eq_false c2
    have c2b1 : decide (300 < l0.length) = false := decide_eq_false (by omega)
    clear c2
    obtain rfl := Option.some.inj H
    go_enter Try.func9, Try.ntmps9
    go_wp2
    go_ret
    exact ⟨_, by first | rfl | (simp [errW_none, errW_some] <;> rfl) | (simp [*, errW_none, errW_some] <;> rfl), by (with_reducible repeat (first | apply Kd.V_alloc | apply Kd.V_drewN | apply Kd.V_drew)); exact HO0.out, by repeat (first | (with_reducible first | exact HB.out | apply below_alloc | apply pw_below_drewN | apply below_drew1) | exact HB.out)⟩

/-! ### frame_fits: function 24 -/
def frame_fits.f (a0 : Int) : Option (Bool) := if a0 ≥ 0 then (some (decide (a0 ≤ 2147483647))) else (some false)
set_option maxHeartbeats 8000000 in
set_option maxRecDepth 100000 in
theorem frame_fits.calls (a0 : Int) (r : Bool) (w : World) (h : frame_fits.f a0 = some r) :
    Calls Try.prog 24 #[.int .i64 a0] w fun e w' => e = .returned (.bool r) ∧ Drawn0 w w' := by
  have H : (if a0 ≥ 0 then (some (decide (a0 ≤ 2147483647))) else (some false)) = some r := h
  clear h
  by_cases c2 : a0 ≥ 0
  · rw [if_pos c2] at H
    have c2b0 : decide (0 ≤ a0) = true := decide_eq_true c2
    clear c2
    obtain rfl := Option.some.inj H
    go_enter Try.func24, Try.ntmps24
    go_wp2
    go_ret
    exact ⟨by first | rfl | (simp; done) | (simp [*]; done), by repeat (first | exact Drawn0.refl _ | apply Drawn0.step)⟩
  · rw [if_neg c2] at H
    have c2b0 : decide (0 ≤ a0) = false := decide_eq_false c2
    clear c2
    obtain rfl := Option.some.inj H
    go_enter Try.func24, Try.ntmps24
    go_wp2
    go_ret
    exact ⟨by first | rfl | (simp; done) | (simp [*]; done), by repeat (first | exact Drawn0.refl _ | apply Drawn0.step)⟩

/-! ### frame_Check: function 12 -/
def frame_Check.f (a0_0 : Int) (a0_1 : Int) (a0_2 : Int) : Option (Int) := (frame_fits.f a0_0).bind fun t107 => (if t107 = true then ((frame_fits.f a0_1).bind fun t108 => (if t108 = true then ((frame_fits.f a0_2).bind fun t109 => (if t109 = true then (some 0) else (some 1))) else (some 1))) else (some 1))
set_option maxHeartbeats 8000000 in
set_option maxRecDepth 100000 in
theorem frame_Check.calls (a0_0 : Int) (a0_1 : Int) (a0_2 : Int) (r : Int) (w : World) (h : frame_Check.f a0_0 a0_1 a0_2 = some r) :
    Calls Try.prog 12 #[.agg #[.int .i64 a0_0, .int .i64 a0_1, .int .i64 a0_2]] w fun e w' => e = .returned (.int .i64 r) ∧ Below w.heap.size w w' := by
  have hu23 := Try.underlying23
  have HB := Aside0.mk (Below.refl w.heap.size w)
  have H : ((frame_fits.f a0_0).bind fun t107 => (if t107 = true then ((frame_fits.f a0_1).bind fun t108 => (if t108 = true then ((frame_fits.f a0_2).bind fun t109 => (if t109 = true then (some 0) else (some 1))) else (some 1))) else (some 1))) = some r := h
  clear h
  replace H := Option.bind_eq_some_iff.mp H
  obtain ⟨t107, A20, H⟩ := H
  replace H : (if t107 = true then ((frame_fits.f a0_1).bind fun t108 => (if t108 = true then ((frame_fits.f a0_2).bind fun t109 => (if t109 = true then (some 0) else (some 1))) else (some 1))) else (some 1)) = some r := H
  have A2 := Aside0.mk A20
  clear A20
  by_cases c3 : t107 = true
  · subst c3
    have H1 : ((frame_fits.f a0_1).bind fun t108 => (if t108 = true then ((frame_fits.f a0_2).bind fun t109 => (if t109 = true then (some 0) else (some 1))) else (some 1))) = some r := by rw [if_pos rfl] at H; exact H
    clear H
    have H := H1
    clear H1
    replace H := Option.bind_eq_some_iff.mp H
    obtain ⟨t108, A40, H⟩ := H
    replace H : (if t108 = true then ((frame_fits.f a0_2).bind fun t109 => (if t109 = true then (some 0) else (some 1))) else (some 1)) = some r := H
    have A4 := Aside0.mk A40
    clear A40
    by_cases c5 : t108 = true
    · subst c5
      have H1 : ((frame_fits.f a0_2).bind fun t109 => (if t109 = true then (some 0) else (some 1))) = some r := by rw [if_pos rfl] at H; exact H
      clear H
      have H := H1
      clear H1
      replace H := Option.bind_eq_some_iff.mp H
      obtain ⟨t109, A60, H⟩ := H
      replace H : (if t109 = true then (some 0) else (some 1)) = some r := H
      have A6 := Aside0.mk A60
      clear A60
      by_cases c7 : t109 = true
      · subst c7
        have H1 : (some 0) = some r := by rw [if_pos rfl] at H; exact H
        clear H
        have H := H1
        clear H1
        obtain rfl := Option.some.inj H
        go_enter Try.func12, Try.ntmps12
        go_wp2_with (first | ((with_reducible refine gate_dst (N := 1) rfl ?_); refine box_event ?hg (N := 1) ?hd (cs := #[.int .i64 a0_0, .int .i64 a0_1, .int .i64 a0_2]) (t := 23) ?hr ?_; (case hd => rfl); (case hg => rfl); (case hr => first | (go_simp; done) | (go_simp; rfl)); intro gb106 hg w8 hbox hb; have n0_ := Aside0.mk (below_step (by repeat (first | (with_reducible first | exact HB.out | apply below_alloc | apply pw_below_drewN | apply below_drew1) | exact HB.out)) hb); have n1_ := Aside0.mk (hbox); have n2_ := Aside0.mk ((by rw [hg]; exact (below_size (by repeat (first | (with_reducible first | exact HB.out | apply below_alloc | apply pw_below_drewN | apply below_drew1) | exact HB.out))) : w.heap.size ≤ gb106)); have n3_ := Aside0.mk ((by rw [hg]; exact (below_size (by repeat (first | (with_reducible first | exact HB.out | apply below_alloc | apply pw_below_drewN | apply below_drew1) | exact HB.out))) : w.heap.size ≤ gb106)); clear HB; have HB := n0_; have BK106 := n1_; have GW106 := n2_; have GE106 := n3_; clear n0_ n1_ n2_ n3_; clear hb hbox hg; have hcz9_0 : w8.cell? ⟨gb106, 0, none⟩ = some (.int .i64 a0_0) := (blk_cell BK106.out 0).trans rfl; have hcz9_1 : w8.cell? ⟨gb106, 1, none⟩ = some (.int .i64 a0_1) := (blk_cell BK106.out 1).trans rfl; have hcz9_2 : w8.cell? ⟨gb106, 2, none⟩ = some (.int .i64 a0_2) := (blk_cell BK106.out 2).trans rfl; have hfz9_0 := blk_frozen BK106.out 0; have hfz9_1 := blk_frozen BK106.out 1; have hfz9_2 := blk_frozen BK106.out 2) | ((with_reducible refine gate_callee (f := 24) rfl ?_); refine goesL_ (some 5) rfl rfl Try.func24 (by kernel_rfl) rfl #[.int .i64 a0_0] rfl (by (try simp only [List.map_toArray, List.map_cons, List.map_nil]); first | done | rfl | (simp only [List.length_drop, List.length_take]; rfl)) ?_; (with_reducible refine (frame_fits.calls a0_0 true _ A2.out).mono ?_); rintro e w' ⟨rfl, ⟨nd, rfl⟩⟩; refine ⟨_, rfl, ?_⟩) | (go_at_call 24; (with_reducible refine (frame_fits.calls a0_1 true _ A4.out).mono ?_); rintro e w' ⟨rfl, ⟨nd, rfl⟩⟩) | (go_at_call 24; (with_reducible refine (frame_fits.calls a0_2 true _ A6.out).mono ?_); rintro e w' ⟨rfl, ⟨nd, rfl⟩⟩))
        go_ret
        exact ⟨by first | rfl | (simp [errW_none, errW_some] <;> rfl) | (simp [*, errW_none, errW_some] <;> rfl), by repeat (first | (with_reducible first | exact HB.out | apply below_alloc | apply pw_below_drewN | apply below_drew1 | refine below_set ?_ GE106.out) | exact HB.out)⟩
      · replace c7 := Bool.eq_false_iff.mpr c7
        subst c7
        have H1 : (some 1) = some r := by rw [if_neg (show ¬ (false = true) by decide)] at H; exact H
        clear H
        have H := H1
        clear H1
        obtain rfl := Option.some.inj H
        go_enter Try.func12, Try.ntmps12
        go_wp2_with (first | ((with_reducible refine gate_dst (N := 1) rfl ?_); refine box_event ?hg (N := 1) ?hd (cs := #[.int .i64 a0_0, .int .i64 a0_1, .int .i64 a0_2]) (t := 23) ?hr ?_; (case hd => rfl); (case hg => rfl); (case hr => first | (go_simp; done) | (go_simp; rfl)); intro gb106 hg w10 hbox hb; have n0_ := Aside0.mk (below_step (by repeat (first | (with_reducible first | exact HB.out | apply below_alloc | apply pw_below_drewN | apply below_drew1) | exact HB.out)) hb); have n1_ := Aside0.mk (hbox); have n2_ := Aside0.mk ((by rw [hg]; exact (below_size (by repeat (first | (with_reducible first | exact HB.out | apply below_alloc | apply pw_below_drewN | apply below_drew1) | exact HB.out))) : w.heap.size ≤ gb106)); have n3_ := Aside0.mk ((by rw [hg]; exact (below_size (by repeat (first | (with_reducible first | exact HB.out | apply below_alloc | apply pw_below_drewN | apply below_drew1) | exact HB.out))) : w.heap.size ≤ gb106)); clear HB; have HB := n0_; have BK106 := n1_; have GW106 := n2_; have GE106 := n3_; clear n0_ n1_ n2_ n3_; clear hb hbox hg; have hcz11_0 : w10.cell? ⟨gb106, 0, none⟩ = some (.int .i64 a0_0) := (blk_cell BK106.out 0).trans rfl; have hcz11_1 : w10.cell? ⟨gb106, 1, none⟩ = some (.int .i64 a0_1) := (blk_cell BK106.out 1).trans rfl; have hcz11_2 : w10.cell? ⟨gb106, 2, none⟩ = some (.int .i64 a0_2) := (blk_cell BK106.out 2).trans rfl; have hfz11_0 := blk_frozen BK106.out 0; have hfz11_1 := blk_frozen BK106.out 1; have hfz11_2 := blk_frozen BK106.out 2) | ((with_reducible refine gate_callee (f := 24) rfl ?_); refine goesL_ (some 5) rfl rfl Try.func24 (by kernel_rfl) rfl #[.int .i64 a0_0] rfl (by (try simp only [List.map_toArray, List.map_cons, List.map_nil]); first | done | rfl | (simp only [List.length_drop, List.length_take]; rfl)) ?_; (with_reducible refine (frame_fits.calls a0_0 true _ A2.out).mono ?_); rintro e w' ⟨rfl, ⟨nd, rfl⟩⟩; refine ⟨_, rfl, ?_⟩) | (go_at_call 24; (with_reducible refine (frame_fits.calls a0_1 true _ A4.out).mono ?_); rintro e w' ⟨rfl, ⟨nd, rfl⟩⟩) | (go_at_call 24; (with_reducible refine (frame_fits.calls a0_2 false _ A6.out).mono ?_); rintro e w' ⟨rfl, ⟨nd, rfl⟩⟩))
        go_ret
        exact ⟨by first | rfl | (simp [errW_none, errW_some] <;> rfl) | (simp [*, errW_none, errW_some] <;> rfl), by repeat (first | (with_reducible first | exact HB.out | apply below_alloc | apply pw_below_drewN | apply below_drew1 | refine below_set ?_ GE106.out) | exact HB.out)⟩
    · replace c5 := Bool.eq_false_iff.mpr c5
      subst c5
      have H1 : (some 1) = some r := by rw [if_neg (show ¬ (false = true) by decide)] at H; exact H
      clear H
      have H := H1
      clear H1
      obtain rfl := Option.some.inj H
      go_enter Try.func12, Try.ntmps12
      go_wp2_with (first | ((with_reducible refine gate_dst (N := 1) rfl ?_); refine box_event ?hg (N := 1) ?hd (cs := #[.int .i64 a0_0, .int .i64 a0_1, .int .i64 a0_2]) (t := 23) ?hr ?_; (case hd => rfl); (case hg => rfl); (case hr => first | (go_simp; done) | (go_simp; rfl)); intro gb106 hg w12 hbox hb; have n0_ := Aside0.mk (below_step (by repeat (first | (with_reducible first | exact HB.out | apply below_alloc | apply pw_below_drewN | apply below_drew1) | exact HB.out)) hb); have n1_ := Aside0.mk (hbox); have n2_ := Aside0.mk ((by rw [hg]; exact (below_size (by repeat (first | (with_reducible first | exact HB.out | apply below_alloc | apply pw_below_drewN | apply below_drew1) | exact HB.out))) : w.heap.size ≤ gb106)); have n3_ := Aside0.mk ((by rw [hg]; exact (below_size (by repeat (first | (with_reducible first | exact HB.out | apply below_alloc | apply pw_below_drewN | apply below_drew1) | exact HB.out))) : w.heap.size ≤ gb106)); clear HB; have HB := n0_; have BK106 := n1_; have GW106 := n2_; have GE106 := n3_; clear n0_ n1_ n2_ n3_; clear hb hbox hg; have hcz13_0 : w12.cell? ⟨gb106, 0, none⟩ = some (.int .i64 a0_0) := (blk_cell BK106.out 0).trans rfl; have hcz13_1 : w12.cell? ⟨gb106, 1, none⟩ = some (.int .i64 a0_1) := (blk_cell BK106.out 1).trans rfl; have hcz13_2 : w12.cell? ⟨gb106, 2, none⟩ = some (.int .i64 a0_2) := (blk_cell BK106.out 2).trans rfl; have hfz13_0 := blk_frozen BK106.out 0; have hfz13_1 := blk_frozen BK106.out 1; have hfz13_2 := blk_frozen BK106.out 2) | ((with_reducible refine gate_callee (f := 24) rfl ?_); refine goesL_ (some 5) rfl rfl Try.func24 (by kernel_rfl) rfl #[.int .i64 a0_0] rfl (by (try simp only [List.map_toArray, List.map_cons, List.map_nil]); first | done | rfl | (simp only [List.length_drop, List.length_take]; rfl)) ?_; (with_reducible refine (frame_fits.calls a0_0 true _ A2.out).mono ?_); rintro e w' ⟨rfl, ⟨nd, rfl⟩⟩; refine ⟨_, rfl, ?_⟩) | (go_at_call 24; (with_reducible refine (frame_fits.calls a0_1 false _ A4.out).mono ?_); rintro e w' ⟨rfl, ⟨nd, rfl⟩⟩))
      go_ret
      exact ⟨by first | rfl | (simp [errW_none, errW_some] <;> rfl) | (simp [*, errW_none, errW_some] <;> rfl), by repeat (first | (with_reducible first | exact HB.out | apply below_alloc | apply pw_below_drewN | apply below_drew1 | refine below_set ?_ GE106.out) | exact HB.out)⟩
  · replace c3 := Bool.eq_false_iff.mpr c3
    subst c3
    have H1 : (some 1) = some r := by rw [if_neg (show ¬ (false = true) by decide)] at H; exact H
    clear H
    have H := H1
    clear H1
    obtain rfl := Option.some.inj H
    go_enter Try.func12, Try.ntmps12
    go_wp2_with (first | ((with_reducible refine gate_dst (N := 1) rfl ?_); refine box_event ?hg (N := 1) ?hd (cs := #[.int .i64 a0_0, .int .i64 a0_1, .int .i64 a0_2]) (t := 23) ?hr ?_; (case hd => rfl); (case hg => rfl); (case hr => first | (go_simp; done) | (go_simp; rfl)); intro gb106 hg w14 hbox hb; have n0_ := Aside0.mk (below_step (by repeat (first | (with_reducible first | exact HB.out | apply below_alloc | apply pw_below_drewN | apply below_drew1) | exact HB.out)) hb); have n1_ := Aside0.mk (hbox); have n2_ := Aside0.mk ((by rw [hg]; exact (below_size (by repeat (first | (with_reducible first | exact HB.out | apply below_alloc | apply pw_below_drewN | apply below_drew1) | exact HB.out))) : w.heap.size ≤ gb106)); have n3_ := Aside0.mk ((by rw [hg]; exact (below_size (by repeat (first | (with_reducible first | exact HB.out | apply below_alloc | apply pw_below_drewN | apply below_drew1) | exact HB.out))) : w.heap.size ≤ gb106)); clear HB; have HB := n0_; have BK106 := n1_; have GW106 := n2_; have GE106 := n3_; clear n0_ n1_ n2_ n3_; clear hb hbox hg; have hcz15_0 : w14.cell? ⟨gb106, 0, none⟩ = some (.int .i64 a0_0) := (blk_cell BK106.out 0).trans rfl; have hcz15_1 : w14.cell? ⟨gb106, 1, none⟩ = some (.int .i64 a0_1) := (blk_cell BK106.out 1).trans rfl; have hcz15_2 : w14.cell? ⟨gb106, 2, none⟩ = some (.int .i64 a0_2) := (blk_cell BK106.out 2).trans rfl; have hfz15_0 := blk_frozen BK106.out 0; have hfz15_1 := blk_frozen BK106.out 1; have hfz15_2 := blk_frozen BK106.out 2) | ((with_reducible refine gate_callee (f := 24) rfl ?_); refine goesL_ (some 5) rfl rfl Try.func24 (by kernel_rfl) rfl #[.int .i64 a0_0] rfl (by (try simp only [List.map_toArray, List.map_cons, List.map_nil]); first | done | rfl | (simp only [List.length_drop, List.length_take]; rfl)) ?_; (with_reducible refine (frame_fits.calls a0_0 false _ A2.out).mono ?_); rintro e w' ⟨rfl, ⟨nd, rfl⟩⟩; refine ⟨_, rfl, ?_⟩))
    go_ret
    exact ⟨by first | rfl | (simp [errW_none, errW_some] <;> rfl) | (simp [*, errW_none, errW_some] <;> rfl), by repeat (first | (with_reducible first | exact HB.out | apply below_alloc | apply pw_below_drewN | apply below_drew1 | refine below_set ?_ GE106.out) | exact HB.out)⟩

/-! ### frame_known: function 19 -/
def frame_known.f (a0 : Int) : Option (Bool) := if a0 ≥ 1 then (some (decide (a0 ≤ 4))) else (some false)
set_option maxHeartbeats 8000000 in
set_option maxRecDepth 100000 in
theorem frame_known.calls (a0 : Int) (r : Bool) (w : World) (h : frame_known.f a0 = some r) :
    Calls Try.prog 19 #[.int .i64 a0] w fun e w' => e = .returned (.bool r) ∧ Drawn0 w w' := by
  have H : (if a0 ≥ 1 then (some (decide (a0 ≤ 4))) else (some false)) = some r := h
  clear h
  by_cases c2 : a0 ≥ 1
  · rw [if_pos c2] at H
    have c2b0 : decide (1 ≤ a0) = true := decide_eq_true c2
    clear c2
    obtain rfl := Option.some.inj H
    go_enter Try.func19, Try.ntmps19
    go_wp2
    go_ret
    exact ⟨by first | rfl | (simp; done) | (simp [*]; done), by repeat (first | exact Drawn0.refl _ | apply Drawn0.step)⟩
  · rw [if_neg c2] at H
    have c2b0 : decide (1 ≤ a0) = false := decide_eq_false c2
    clear c2
    obtain rfl := Option.some.inj H
    go_enter Try.func19, Try.ntmps19
    go_wp2
    go_ret
    exact ⟨by first | rfl | (simp; done) | (simp [*]; done), by repeat (first | exact Drawn0.refl _ | apply Drawn0.step)⟩

-- NOT PRINTED: function 29 (sum_nibbles)

/-! ### ours: crc -/
def crcP : Nat := 2197175160
def st (c : Nat) : Nat := if c % 2 = 1 then c / 2 ^^^ crcP else c / 2
theorem st_lin (a b : Nat) : st (a ^^^ b) = st a ^^^ st b := by
  have hd : (a ^^^ b) / 2 = a / 2 ^^^ b / 2 := by
    have := Nat.xor_div_two_pow (a := a) (b := b) (n := 1)
    simpa using this
  have hm : (a ^^^ b) % 2 = (a % 2) ^^^ (b % 2) := by
    have := Nat.xor_mod_two_pow (a := a) (b := b) (n := 1)
    simpa using this
  unfold st
  rw [hd, hm]
  have ha : a % 2 = 0 ∨ a % 2 = 1 := by omega
  have hb : b % 2 = 0 ∨ b % 2 = 1 := by omega
  rcases ha with ha | ha <;> rcases hb with hb | hb <;> rw [ha, hb]
  · simp
  · simp [Nat.xor_assoc]
  · simp only [show (1 ^^^ 0 : Nat) = 1 from rfl, if_true, show ¬ (0 : Nat) = 1 by decide, if_false]
    rw [Nat.xor_assoc, Nat.xor_comm (b / 2), ← Nat.xor_assoc]
  · simp only [show (1 ^^^ 1 : Nat) = 0 from rfl, if_true, show ¬ (0 : Nat) = 1 by decide, if_false]
    rw [Nat.xor_assoc (a / 2), ← Nat.xor_assoc crcP, Nat.xor_comm crcP, Nat.xor_assoc (b / 2), Nat.xor_self, Nat.xor_zero]
theorem st_lt {c : Nat} (h : c < 2 ^ 32) : st c < 2 ^ 32 := by
  unfold st
  split
  · exact Nat.xor_lt_two_pow (by omega) (by decide)
  · omega
theorem st_inj0 {c : Nat} (h : c < 2 ^ 32) (hs : st c = 0) : c = 0 := by
  unfold st at hs
  split at hs
  · have e : c / 2 = crcP := by
      have q := congrArg (fun z => z ^^^ crcP) hs
      simpa [Nat.xor_assoc, Nat.xor_self] using q
    unfold crcP at e
    omega
  · omega
def stn : Nat → Nat → Nat
  | 0, c => c
  | n + 1, c => stn n (st c)
theorem stn_lin : ∀ (n a b : Nat), stn n (a ^^^ b) = stn n a ^^^ stn n b
  | 0, _, _ => rfl
  | n + 1, a, b => by rw [stn, stn, stn, st_lin, stn_lin n]
theorem stn_lt : ∀ (n : Nat) {c : Nat}, c < 2 ^ 32 → stn n c < 2 ^ 32
  | 0, _, h => h
  | n + 1, _, h => stn_lt n (st_lt h)
theorem stn_inj0 : ∀ (n : Nat) {c : Nat}, c < 2 ^ 32 → stn n c = 0 → c = 0
  | 0, _, _, h => h
  | n + 1, _, h, hs => st_inj0 h (stn_inj0 n (st_lt h) hs)
theorem stn_add : ∀ (m n c : Nat), stn (m + n) c = stn n (stn m c)
  | 0, n, c => by rw [Nat.zero_add]; rfl
  | m + 1, n, c => by rw [show m + 1 + n = (m + n) + 1 by omega, stn, stn_add m n]; rfl
theorem stn_zero : ∀ n : Nat, stn n 0 = 0
  | 0 => rfl
  | n + 1 => by
    show stn n (st 0) = 0
    rw [show st 0 = 0 from rfl, stn_zero n]
theorem st_even (q : Nat) : st (2 * q) = q := by
  unfold st
  rw [if_neg (by omega)]
  omega
theorem stn_pow : ∀ (n q : Nat), stn n (2 ^ n * q) = q
  | 0, q => by rw [stn, Nat.pow_zero, Nat.one_mul]
  | n + 1, q => by rw [stn, show 2 ^ (n + 1) * q = 2 * (2 ^ n * q) by rw [Nat.pow_succ, Nat.mul_comm (2 ^ n) 2, Nat.mul_assoc], st_even, stn_pow n]
theorem split_xor (n r : Nat) : r = (2 ^ n * (r / 2 ^ n)) ^^^ (r % 2 ^ n) := by
  refine Nat.eq_of_testBit_eq fun i => ?_
  rw [Nat.testBit_xor, Nat.testBit_two_pow_mul, Nat.testBit_mod_two_pow, Nat.testBit_div_two_pow]
  by_cases h : n ≤ i
  · simp [h, Nat.not_lt.2 h]
  · simp [h, Nat.lt_of_not_le h]
/-- Four steps at once: what half a byte makes of a register. -/
theorem stn_nib (r : Nat) : stn 4 r = r / 16 ^^^ stn 4 (r % 16) := by
  conv => lhs; rw [split_xor 4 r]
  rw [stn_lin, stn_pow]
def inb (c x : Nat) : Nat := stn 8 (c ^^^ x)
theorem inb_lt {c x : Nat} (hc : c < 2 ^ 32) (hx : x < 256) : inb c x < 2 ^ 32 := stn_lt 8 (Nat.xor_lt_two_pow hc (by omega))
theorem inb_nib (c x : Nat) : inb c x = ((c ^^^ x) / 16 ^^^ stn 4 ((c ^^^ x) % 16)) / 16 ^^^ stn 4 (((c ^^^ x) / 16 ^^^ stn 4 ((c ^^^ x) % 16)) % 16) := by
  unfold inb
  rw [show (8 : Nat) = 4 + 4 from rfl, stn_add, stn_nib (c ^^^ x), stn_nib]
def feedN (c : Nat) : List Int → Nat
  | [] => c
  | x :: xs => feedN (inb c x.toNat) xs
/-- What a grid makes of a register: the exclusive or of its rows where there are bits. -/
def comb (g : Nat → Nat) (r : Nat) : Nat → Nat
  | 0 => 0
  | n + 1 => if r / 2 ^ n % 2 = 1 then comb g r n ^^^ g n else comb g r n
theorem comb_lin {L : Nat → Nat} (h0 : L 0 = 0) (hl : ∀ a b, L (a ^^^ b) = L a ^^^ L b) (r : Nat) : ∀ n, comb (fun i => L (2 ^ i)) r n = L (r % 2 ^ n)
  | 0 => by rw [Nat.pow_zero, Nat.mod_one, h0]; rfl
  | n + 1 => by
    rw [comb, comb_lin h0 hl r n]
    have e : r % 2 ^ (n + 1) = (2 ^ n * (r / 2 ^ n % 2)) ^^^ (r % 2 ^ n) := by
      have := split_xor n (r % 2 ^ (n + 1))
      rw [Nat.mod_mod_of_dvd _ ⟨2, by rw [Nat.pow_succ]⟩, Nat.pow_succ, Nat.mod_mul_right_div_self] at this
      rw [Nat.pow_succ]
      exact this
    rw [e]
    split
    · rename_i h
      rw [h, Nat.mul_one, hl, Nat.xor_comm]
    · rename_i h
      rw [show r / 2 ^ n % 2 = 0 by omega, Nat.mul_zero, Nat.zero_xor]
theorem comb_stn (m r : Nat) (h : r < 2 ^ 32) : comb (fun i => stn m (2 ^ i)) r 32 = stn m r := by
  rw [comb_lin (stn_zero m) (stn_lin m), Nat.mod_eq_of_lt h]
theorem u32_wrap {n : Nat} (h : n < 2 ^ 32) : IntKind.u32.wrap (n : Int) = (n : Int) := by
  have : IntKind.u32.wrap (n : Int) = (n : Int) % 4294967296 := by simp [IntKind.wrap, IntKind.bits, IntKind.signed]
  rw [this]; omega
theorem u32_ofInt {n : Nat} (h : n < 2 ^ 32) : (BitVec.ofInt 32 (n : Int)).toNat = n := by
  rw [BitVec.toNat_ofInt, show ((n : Int) % ((2 ^ 32 : Nat) : Int)).toNat = n by omega]
theorem u32_xor {a b : Nat} (ha : a < 2 ^ 32) (hb : b < 2 ^ 32) : Go.bits .xor .u32 (a : Int) (b : Int) = ((a ^^^ b : Nat) : Int) := by
  have e : (BitVec.ofInt 32 (a : Int) ^^^ BitVec.ofInt 32 (b : Int)).toNat = a ^^^ b := by rw [BitVec.toNat_xor, u32_ofInt ha, u32_ofInt hb]
  show IntKind.u32.wrap ((BitVec.ofInt 32 (a : Int) ^^^ BitVec.ofInt 32 (b : Int)).toNat : Int) = _
  rw [e, u32_wrap (Nat.xor_lt_two_pow ha hb)]
theorem u32_and {a b : Nat} (ha : a < 2 ^ 32) (hb : b < 2 ^ 32) : Go.bits .and .u32 (a : Int) (b : Int) = ((a &&& b : Nat) : Int) := by
  have e : (BitVec.ofInt 32 (a : Int) &&& BitVec.ofInt 32 (b : Int)).toNat = a &&& b := by rw [BitVec.toNat_and, u32_ofInt ha, u32_ofInt hb]
  show IntKind.u32.wrap ((BitVec.ofInt 32 (a : Int) &&& BitVec.ofInt 32 (b : Int)).toNat : Int) = _
  rw [e, u32_wrap (Nat.lt_of_le_of_lt Nat.and_le_left ha)]
theorem u32_and1 {a : Nat} (ha : a < 2 ^ 32) : Go.bits .and .u32 (a : Int) 1 = ((a % 2 : Nat) : Int) := by
  have q := u32_and ha (show 1 < 2 ^ 32 by decide)
  rw [Nat.and_one_is_mod] at q
  exact q
theorem u32_and15 {a : Nat} (ha : a < 2 ^ 32) : Go.bits .and .u32 (a : Int) 15 = ((a % 16 : Nat) : Int) := by
  have q := u32_and ha (show 15 < 2 ^ 32 by decide)
  rw [show (15 : Nat) = 2 ^ 4 - 1 from rfl, Nat.and_two_pow_sub_one_eq_mod] at q
  exact q
/-- What half bytes make of zeros, up to j. -/
def nibTab (j : Nat) : Array Value := ((List.range 16).map fun i => if i < j then Value.int .u32 ((stn 4 i : Nat) : Int) else .int .u32 0).toArray
theorem nibTab_size (j : Nat) : (nibTab j).size = 16 := by simp [nibTab]
theorem nibTab_at (j i : Nat) (h : i < 16) : (nibTab j)[i]? = some (if i < j then Value.int .u32 ((stn 4 i : Nat) : Int) else .int .u32 0) := by
  simp [nibTab, h]
theorem nibTab_put (j : Nat) (h : j < 16) : (nibTab j).setIfInBounds j (.int .u32 ((stn 4 j : Nat) : Int)) = nibTab (j + 1) := by
  apply Array.ext_getElem?
  intro i
  rw [Array.getElem?_setIfInBounds]
  by_cases hi : i < 16
  · rw [nibTab_at (j + 1) i hi, nibTab_at j i hi, nibTab_size]
    by_cases c : j = i
    · subst c
      simp [h]
    · rw [if_neg c]
      by_cases c2 : i < j
      · rw [if_pos c2, if_pos (by omega)]
      · rw [if_neg c2, if_neg (by omega)]
  · have z : ∀ k, (nibTab k)[i]? = none := fun k => Array.getElem?_eq_none (by rw [nibTab_size]; omega)
    rw [z, z, nibTab_size]
    by_cases c : j = i
    · omega
    · rw [if_neg c]
/-- A grid: what m steps make of each bit, up to j. -/
def gridTab (m j : Nat) : Array Value := ((List.range 32).map fun i => if i < j then Value.int .u32 ((stn m (2 ^ i) : Nat) : Int) else .int .u32 0).toArray
theorem gridTab_size (m j : Nat) : (gridTab m j).size = 32 := by simp [gridTab]
theorem gridTab_at (m j i : Nat) (h : i < 32) : (gridTab m j)[i]? = some (if i < j then Value.int .u32 ((stn m (2 ^ i) : Nat) : Int) else .int .u32 0) := by
  simp [gridTab, h]
theorem gridTab_put (m j : Nat) (h : j < 32) : (gridTab m j).setIfInBounds j (.int .u32 ((stn m (2 ^ j) : Nat) : Int)) = gridTab m (j + 1) := by
  apply Array.ext_getElem?
  intro i
  rw [Array.getElem?_setIfInBounds]
  by_cases hi : i < 32
  · rw [gridTab_at m (j + 1) i hi, gridTab_at m j i hi, gridTab_size]
    by_cases c : j = i
    · subst c
      simp [h]
    · rw [if_neg c]
      by_cases c2 : i < j
      · rw [if_pos c2, if_pos (by omega)]
      · rw [if_neg c2, if_neg (by omega)]
  · have z : ∀ k, (gridTab m k)[i]? = none := fun k => Array.getElem?_eq_none (by rw [gridTab_size]; omega)
    rw [z, z, gridTab_size]
    by_cases c : j = i
    · omega
    · rw [if_neg c]
theorem nibTab_one (j : Nat) : (nibTab j).all (·.oneCell') = true := by
  rw [Array.all_eq_true_iff_forall_mem]
  intro v hv
  simp only [nibTab, List.mem_toArray, List.mem_map] at hv
  obtain ⟨i, _, rfl⟩ := hv
  split <;> rfl
theorem gridTab_one (m j : Nat) : (gridTab m j).all (·.oneCell') = true := by
  rw [Array.all_eq_true_iff_forall_mem]
  intro v hv
  simp only [gridTab, List.mem_toArray, List.mem_map] at hv
  obtain ⟨i, _, rfl⟩ := hv
  split <;> rfl
theorem sm_below_setRow {w W : World} {g : Nat} (h : Below w.heap.size w W) (hg : w.heap.size ≤ g) (cs : Array Value) : Below w.heap.size w (W.setRow g cs) :=
  ⟨h.os, h.tape, h.output, by rw [setRow_size]; exact h.size, fun k hk => (setRow_other W g k cs (by omega)).trans (h.block k hk)⟩
theorem comb_lt (m r : Nat) (n : Nat) : comb (fun i => stn m (2 ^ i)) r n < 2 ^ 32 ∨ 32 < n := by
  induction n with
  | zero => exact .inl (show 0 < 2 ^ 32 by decide)
  | succ n ih =>
    by_cases h : 32 < n + 1
    · exact .inr h
    · refine .inl ?_
      have ih' : comb (fun i => stn m (2 ^ i)) r n < 2 ^ 32 := by rcases ih with h1 | h1 <;> omega
      rw [comb]
      split
      · exact Nat.xor_lt_two_pow ih' (stn_lt m (Nat.pow_lt_pow_right (by decide) (by omega)))
      · exact ih'
def u32ok (r : Int) : Bool := decide (0 ≤ r) && decide (r < 4294967296)
def bytesOk (l : List Int) : Bool := l.all fun x => decide (0 ≤ x) && decide (x < 256)
theorem u32ok_nat {r : Int} (h : u32ok r = true) : ∃ n : Nat, r = (n : Int) ∧ n < 2 ^ 32 := by
  simp only [u32ok, Bool.and_eq_true, decide_eq_true_eq] at h
  exact ⟨r.toNat, by omega, by omega⟩
theorem bytesOk_at {l : List Int} (h : bytesOk l = true) {x : Int} (hx : x ∈ l) : ∃ n : Nat, x = (n : Int) ∧ n < 256 := by
  have q := List.all_eq_true.1 h x hx
  simp only [Bool.and_eq_true, decide_eq_true_eq] at q
  exact ⟨x.toNat, by omega, by omega⟩
theorem stn_one_pow (i : Nat) (h : 1 ≤ i) : stn 1 (2 ^ i) = 2 ^ (i - 1) := by
  obtain ⟨j, rfl⟩ : ∃ j, i = j + 1 := ⟨i - 1, by omega⟩
  show st (2 ^ (j + 1)) = 2 ^ (j + 1 - 1)
  rw [Nat.pow_succ, Nat.mul_comm, st_even]
  rfl
theorem i64_and1 {a : Nat} (h : a < 2 ^ 62) : Go.bits .and .i64 (a : Int) 1 = ((a % 2 : Nat) : Int) := by
  have e : (BitVec.ofInt 64 (a : Int) &&& BitVec.ofInt 64 (1 : Int)).toNat = a % 2 := by
    rw [BitVec.toNat_and, BitVec.toNat_ofInt, BitVec.toNat_ofInt, show ((a : Int) % ((2 ^ 64 : Nat) : Int)).toNat = a by omega, show ((1 : Int) % ((2 ^ 64 : Nat) : Int)).toNat = 1 by decide, Nat.and_one_is_mod]
  show IntKind.i64.wrap ((BitVec.ofInt 64 (a : Int) &&& BitVec.ofInt 64 (1 : Int)).toNat : Int) = _
  rw [e, IntKind.wrap_i64]
  have : a % 2 < 2 := Nat.mod_lt _ (by decide)
  omega
theorem odd_mul (m d : Nat) (h : d % 2 = 1) : m * d = m + (m + m) * (d / 2) := by
  have e : d = 2 * (d / 2) + 1 := by omega
  conv => lhs; rw [e, Nat.mul_add, Nat.mul_one, ← Nat.mul_assoc, Nat.mul_two, Nat.add_comm]
theorem even_mul (m d : Nat) (h : d % 2 = 0) : m * d = (m + m) * (d / 2) := by
  have e : d = 2 * (d / 2) := by omega
  conv => lhs; rw [e, ← Nat.mul_assoc, Nat.mul_two]

/-! ### ours: sm_nib_any -/

set_option maxHeartbeats 8000000 in
set_option maxRecDepth 100000 in
theorem sm_nibbles (w : World) :
    Calls Try.prog 29 #[] w fun e w' => e = .returned (.agg (nibTab 16)) ∧ Below w.heap.size w w' := by
  have hu52 := Try.underlying52
  have HB := Aside0.mk (Below.refl w.heap.size w)
  go_enter Try.func29, Try.ntmps29
  go_wp2_with (first | ((with_reducible refine gate_dst (N := 0) rfl ?_); (try (refine gate_guard (by rfl) ?_; dsimp only)); refine box_event ?hg (N := 0) ?hd (cs := nibTab 0) (t := 52) ?hr ?_; (case hd => rfl); (case hg => rfl); (case hr => first | (go_simp; done) | (go_simp; rfl)); intro g0 hg w1 hbox hb; have m0 := Aside0.mk (below_step (by repeat (first | (with_reducible first | exact HB.out | apply below_alloc | apply pw_below_drewN | apply below_drew1) | exact HB.out)) hb); have m1 := Aside0.mk hbox; have m2 := Aside0.mk ((by rw [hg]; exact (below_size (by repeat (first | (with_reducible first | exact HB.out | apply below_alloc | apply pw_below_drewN | apply below_drew1) | exact HB.out))) : w.heap.size ≤ g0)); clear HB ; have HB := m0; have B0 := m1; have G0 := m2; clear m0 m1 m2; clear hb hbox hg) | ((with_reducible refine gate_dst (N := 1) rfl ?_); (try (refine gate_guard (by rfl) ?_; dsimp only)); refine box_event ?hg (N := 1) ?hd (cs := nibTab 0) (t := 52) ?hr ?_; (case hd => rfl); (case hg => rfl); (case hr => first | (go_simp; done) | (go_simp; rfl)); intro g1 hg w2 hbox hb; have m0 := Aside0.mk (below_step (by repeat (first | (with_reducible first | exact HB.out | apply below_alloc | apply pw_below_drewN | apply below_drew1) | exact HB.out)) hb); have m1 := Aside0.mk hbox; have m2 := Aside0.mk ((by rw [hg]; exact (below_size (by repeat (first | (with_reducible first | exact HB.out | apply below_alloc | apply pw_below_drewN | apply below_drew1) | exact HB.out))) : w.heap.size ≤ g1)); have m3 := Aside0.mk (blk_below (g := g0) (o := .cells (nibTab 0) 52 (0, 0)) (by (with_reducible repeat (first | refine blk_drewN ?_ _ | refine blk_drew ?_ | refine blk_alloc ?_ _)); exact B0.out) hb); have m4 := Aside0.mk ((by rw [hg]; exact Nat.ne_of_lt (blk_lt (g := g0) (o := .cells (nibTab 0) 52 (0, 0)) (by (with_reducible repeat (first | refine blk_drewN ?_ _ | refine blk_drew ?_ | refine blk_alloc ?_ _)); exact B0.out)) : g0 ≠ g1)); clear HB B0; have HB := m0; have B1 := m1; have G1 := m2; have B0 := m3; have Ng0g1 := m4; clear m0 m1 m2 m3 m4; clear hb hbox hg))
  go_loopg [4] 16 (fun kq v4 w' => ∃ (j : Nat), v4 = .int .i64 (j : Int) ∧ Aside0 (kq + j = 16) ∧ Aside0 (w'.heap[g1]? = some (.cells (nibTab j) 52 (0, 0))) ∧ Aside0 (w'.heap[g0]? = some (.cells (nibTab 0) 52 (0, 0))) ∧ Aside0 (Below w.heap.size w w'))
  case atStart => exact ⟨0, rfl, ⟨rfl⟩, B1, B0, HB⟩
  case round =>
    clear B1 B0 HB
    obtain ⟨j, rfl, HK, B1, B0, HB⟩ := hrel
    cases gk with
    | zero =>
      have ej : j = 16 := by have := HK.out; omega
      subst ej
      go_wp2_with (first | ((with_reducible refine gate_dst (N := 24) rfl ?_); refine wpList_load_row rfl 52 _ rfl g1 rfl 52 (nibTab 16) (0, 0) _ B1.out hu52 rfl (by rw [nibTab_size]; rfl) ?_) | ((with_reducible refine gate_store (t := 52) (p := 0) rfl ?_); refine wpList_store_row rfl 52 _ _ rfl g0 (nibTab 16) rfl rfl 52 (nibTab 0) B0.out (by rw [nibTab_size]; rfl) (by rw [nibTab_size, nibTab_size]) (nibTab_one 16) ?_))
      refine bodyPost_ret (results_cell_row rfl _ _ g0 52 (nibTab 16) (0, 0) _ rfl (setRow_heap _ g0 _ _ _ _ B0.out) hu52 rfl (by rw [nibTab_size]; rfl)) rfl ?_
      exact ⟨rfl, sm_below_setRow HB.out G0.out _⟩
    | succ d =>
      have hj : j < 16 := by have := HK.out; omega
      have hjb : decide ((j : Int) < 16) = true := decide_eq_true (by omega)
      have hjb' : decide (j < 16) = true := decide_eq_true hj
      have hw : IntKind.u32.wrap (j : Int) = (j : Int) := u32_wrap (by omega)
      go_wp2
      go_loopg [3, 9] 4 (fun kq v3 v9 w' => ∃ (r i : Nat), v3 = .int .u32 (r : Int) ∧ v9 = .int .i64 (i : Int) ∧ Aside0 (kq + i = 4) ∧ Aside0 (r < 2 ^ 32) ∧ Aside0 (stn kq r = stn 4 j) ∧ w' = wr)
      case atStart => exact ⟨j, 0, rfl, rfl, ⟨rfl⟩, ⟨by omega⟩, ⟨rfl⟩, rfl⟩
      case round =>
        obtain ⟨r, i, rfl, rfl, HI, HR, HS, rfl⟩ := hrel
        cases gk with
        | zero =>
          have ei : i = 4 := by have := HI.out; omega
          subst ei
          have hs : r = stn 4 j := HS.out
          have hc := blk_cell B1.out j
          rw [nibTab_at j j hj, if_neg (Nat.lt_irrefl j)] at hc
          have hf := blk_frozen B1.out j
          go_wp2
          go_roundg d
          case measure => omega
          case rel => exact ⟨j + 1, by first | rfl | (rw [show wrap64 ((j : Int) + 1) = ((j + 1 : Nat) : Int) from by unfold wrap64; omega]), ⟨by have := HK.out; omega⟩, ⟨by rw [← nibTab_put j hj]; exact blk_set B1.out j _⟩, ⟨blk_far B0.out Ng0g1.out _⟩, ⟨below_set HB.out G1.out⟩⟩
        | succ m =>
          have hib : decide ((i : Int) < 4) = true := decide_eq_true (by have := HI.out; omega)
          have hib' : decide (i < 4) = true := decide_eq_true (by have := HI.out; omega)
          have hi4 : i < 4 := by have := HI.out; omega
          have ha := u32_and1 HR.out
          have hn : stn m (st r) = stn 4 j := HS.out
          rcases (show r % 2 = 1 ∨ r % 2 = 0 by omega) with h2 | h2
          · rw [h2] at ha
            have ha' : Go.bits .and .u32 (r : Int) 1 = 1 := ha
            clear ha
            have hx : Go.bits .xor .u32 ((r : Int) / 2) 2197175160 = ((st r : Nat) : Int) := by
              rw [show (r : Int) / 2 = ((r / 2 : Nat) : Int) by omega, show (2197175160 : Int) = ((crcP : Nat) : Int) from rfl, u32_xor (by have := HR.out; omega) (by decide)]
              unfold st
              rw [if_pos h2]
            go_wp2
            go_roundg m
            case measure => omega
            case rel => exact ⟨st r, i + 1, rfl, by first | rfl | (rw [show wrap64 ((i : Int) + 1) = ((i + 1 : Nat) : Int) from by unfold wrap64; omega]), ⟨by have := HI.out; omega⟩, ⟨st_lt HR.out⟩, ⟨hn⟩, rfl⟩
          · rw [h2] at ha
            have ha' : Go.bits .and .u32 (r : Int) 1 = 0 := ha
            clear ha
            go_wp2
            go_roundg m
            case measure => omega
            case rel => exact ⟨st r, i + 1, by rw [show ((st r : Nat) : Int) = (r : Int) / 2 by unfold st; rw [if_neg (by omega)]; omega], by first | rfl | (rw [show wrap64 ((i : Int) + 1) = ((i + 1 : Nat) : Int) from by unfold wrap64; omega]), ⟨by have := HI.out; omega⟩, ⟨st_lt HR.out⟩, ⟨hn⟩, rfl⟩

/-! ### sum_feed: function 27 -/
-- BY HAND

def sum_feed.f (a0 : Int) (l1 : List Int) : Option Int := if (u32ok a0 && bytesOk l1) = true then some ((feedN a0.toNat l1 : Nat) : Int) else none
set_option maxHeartbeats 8000000 in
set_option maxRecDepth 100000 in
theorem sum_feed.calls (a0 : Int) (A1 : Option Addr) (c1 : Nat) (l1 : List Int) (r : Int) (w : World) (hr1 : Kd.C (Kd.int .u8) w A1 l1.length l1) (hc1 : l1.length ≤ c1) (h : sum_feed.f a0 l1 = some r) :
    Calls Try.prog 27 #[.int .u32 a0, .slice A1 l1.length c1] w fun e w' => e = .returned (.int .u32 r) ∧ Below w.heap.size w w' := by
  have hu52 := Try.underlying52
  unfold sum_feed.f at h
  by_cases hk : (u32ok a0 && bytesOk l1) = true
  case neg => rw [if_neg hk] at h; cases h
  rw [if_pos hk] at h
  obtain rfl := Option.some.inj h
  clear h
  rw [Bool.and_eq_true] at hk
  obtain ⟨hk1, hk2⟩ := hk
  obtain ⟨n0, rfl, hn0⟩ := u32ok_nat hk1
  rw [Int.toNat_natCast]
  obtain ⟨R, hR⟩ : ∃ R, feedN n0 l1 = R := ⟨_, rfl⟩
  rw [hR]
  have HR0 := Aside0.mk hR
  have HK2 := Aside0.mk hk2
  clear hR hk2 hk1
  have HC := Aside0.mk hr1
  clear hr1
  have HB := Aside0.mk (Below.refl w.heap.size w)
  go_enter Try.func27, Try.ntmps27
  go_wp2_with (first | ((with_reducible refine gate_callee (f := 29) rfl ?_); refine goesL_ (some 8) rfl rfl Try.func29 (by kernel_rfl) rfl #[] rfl (by (try simp only [List.map_toArray, List.map_cons, List.map_nil]); first | done | rfl) ?_; (with_reducible refine (sm_nibbles _).mono ?_); rintro e w2 ⟨rfl, hb⟩; refine ⟨_, rfl, ?_⟩; have m0 := Aside0.mk (below_step (by repeat (first | (with_reducible first | exact HB.out | apply below_alloc | apply pw_below_drewN | apply below_drew1) | exact HB.out)) hb); have m1 := Aside0.mk (Kd.C_below (by (with_reducible repeat (first | apply Kd.C_alloc | apply Kd.C_drewN | apply Kd.C_drew)); exact HC.out) hb); clear HB HC hb; have HB := m0; have HC := m1; clear m0 m1) | ((with_reducible refine gate_dst (N := 5) rfl ?_); (try (refine gate_guard (by rfl) ?_; dsimp only)); refine box_event ?hg (N := 5) ?hd (cs := nibTab 0) (t := 52) ?hr ?_; (case hd => rfl); (case hg => rfl); (case hr => first | (go_simp; done) | (go_simp; rfl)); intro g5 hg w3 hbox hb; have m0 := Aside0.mk (below_step (by repeat (first | (with_reducible first | exact HB.out | apply below_alloc | apply pw_below_drewN | apply below_drew1) | exact HB.out)) hb); have m1 := Aside0.mk hbox; have m2 := Aside0.mk ((by rw [hg]; exact (below_size (by repeat (first | (with_reducible first | exact HB.out | apply below_alloc | apply pw_below_drewN | apply below_drew1) | exact HB.out))) : w.heap.size ≤ g5)); have m3 := Aside0.mk (Kd.C_below (by (with_reducible repeat (first | apply Kd.C_alloc | apply Kd.C_drewN | apply Kd.C_drew)); exact HC.out) hb); have m4 := Aside0.mk (show ∀ cs, Kd.C (Kd.int .u8) (w3.setRow g5 cs) A1 l1.length l1 from fun cs => Kd.C_below (by (with_reducible repeat (first | apply Kd.C_alloc | apply Kd.C_drewN | apply Kd.C_drew)); exact HC.out) (sm_below_setRow hb (Nat.le_of_eq hg.symm) cs)); clear HB HC; have HB := m0; have B5 := m1; have G5 := m2; have HC := m3; have HCS := m4; clear m0 m1 m2 m3 m4; clear hb hbox hg) | ((with_reducible refine gate_store (t := 52) (p := 5) rfl ?_); refine wpList_store_row rfl 52 _ _ rfl g5 (nibTab 16) rfl rfl 52 (nibTab 0) B5.out (by rw [nibTab_size]; rfl) (by rw [nibTab_size, nibTab_size]) (nibTab_one 16) ?_))
  have B6 := Aside0.mk (setRow_heap w3 g5 (nibTab 0) (nibTab 16) 52 (0, 0) B5.out)
  have HB6 := Aside0.mk (sm_below_setRow HB.out G5.out (nibTab 16))
  have HC6 := Aside0.mk (HCS.out (nibTab 16))
  clear HB HC HCS B5
  generalize w3.setRow g5 (nibTab 16) = w6 at B6 HB6 HC6 ⊢
  go_loopg [0, 11] l1.length (fun kq v0 v11 w' => ∃ (a j : Nat), v0 = .int .u32 (a : Int) ∧ v11 = .int .i64 (j : Int) ∧ Aside0 (kq + j = l1.length) ∧ Aside0 (a < 2 ^ 32) ∧ Aside0 (feedN a (l1.drop j) = R) ∧ w' = w6)
  case atStart => exact ⟨n0, 0, rfl, rfl, ⟨rfl⟩, ⟨hn0⟩, HR0, rfl⟩
  case round =>
    clear HR0
    obtain ⟨a, j, rfl, rfl, HK, HA, HS, rfl⟩ := hrel
    cases gk with
    | zero =>
      have ej : j = l1.length := by have := HK.out; omega
      have hs := HS.out
      rw [List.drop_eq_nil_of_le (by omega)] at hs
      have hs' : a = R := hs
      subst hs'
      subst ej
      clear hs HS
      go_wp2
      go_ret
      exact ⟨rfl, HB6.out⟩
    | succ d =>
      have hj : j < l1.length := by have := HK.out; omega
      have hmx := Kd.C_max HC6.out
      have hjb : decide ((j : Int) < (l1.length : Int)) = true := decide_eq_true (by omega)
      have hjb' : decide (j < l1.length) = true := decide_eq_true hj
      have hs := HS.out
      rw [List.drop_eq_getElem_cons hj] at hs
      clear HS
      obtain ⟨ad_, ea_, hcell⟩ := (Kd.reads_of_C (d := 0) HC6.out).at_ (j : Int) (by omega) (by omega)
      subst ea_
      rw [Int.toNat_natCast, show rdOf 0 l1 (j : Int) = l1[j] by simp [rdOf, List.getD_eq_getElem?_getD, hj]] at hcell
      obtain ⟨b, hb, hb2⟩ := bytesOk_at HK2.out (List.getElem_mem hj)
      rw [hb] at hcell hs
      have hcell' : _ = some (Value.int .u8 (b : Int)) := hcell
      clear hcell hb
      have hs' : feedN (inb a b) (l1.drop (j + 1)) = R := hs
      clear hs
      have HS := Aside0.mk hs'
      clear hs'
      have ha := HA.out
      have hw : IntKind.u32.wrap (b : Int) = (b : Int) := u32_wrap (by omega)
      obtain ⟨y, hy⟩ : ∃ y, a ^^^ b = y := ⟨_, rfl⟩
      have hyl : y < 2 ^ 32 := by rw [← hy]; exact Nat.xor_lt_two_pow ha (by omega)
      have hx1 : Go.bits .xor .u32 (a : Int) (b : Int) = (y : Int) := by rw [u32_xor ha (by omega), hy]
      obtain ⟨i1, hi1⟩ : ∃ i1, y % 16 = i1 := ⟨_, rfl⟩
      have hi1l : i1 < 16 := by omega
      have hx2 : Go.bits .and .u32 (y : Int) 15 = (i1 : Int) := by rw [u32_and15 hyl, hi1]
      obtain ⟨z, hz⟩ : ∃ z, stn 4 y = z := ⟨_, rfl⟩
      have hzl : z < 2 ^ 32 := by rw [← hz]; exact stn_lt 4 hyl
      have hx3 : Go.bits .xor .u32 ((y : Int) / 16) ((stn 4 i1 : Nat) : Int) = (z : Int) := by
        rw [show (y : Int) / 16 = ((y / 16 : Nat) : Int) by omega, u32_xor (by omega) (stn_lt 4 (by omega)), ← hz, stn_nib y, hi1]
      obtain ⟨i2, hi2⟩ : ∃ i2, z % 16 = i2 := ⟨_, rfl⟩
      have hi2l : i2 < 16 := by omega
      have hx4 : Go.bits .and .u32 (z : Int) 15 = (i2 : Int) := by rw [u32_and15 hzl, hi2]
      obtain ⟨v, hv⟩ : ∃ v, stn 4 z = v := ⟨_, rfl⟩
      have hvl : v < 2 ^ 32 := by rw [← hv]; exact stn_lt 4 hzl
      have hx5 : Go.bits .xor .u32 ((z : Int) / 16) ((stn 4 i2 : Nat) : Int) = (v : Int) := by
        rw [show (z : Int) / 16 = ((z / 16 : Nat) : Int) by omega, u32_xor (by omega) (stn_lt 4 (by omega)), ← hv, stn_nib z, hi2]
      have hin : inb a b = v := by unfold inb; rw [hy, show (8 : Nat) = 4 + 4 from rfl, stn_add, hz, hv]
      have HV := Aside0.mk hin
      clear hy hi1 hz hi2 hv hin
      have hn1 := blk_cell B6.out i1
      rw [nibTab_at 16 i1 hi1l, if_pos hi1l] at hn1
      have hn2 := blk_cell B6.out i2
      rw [nibTab_at 16 i2 hi2l, if_pos hi2l] at hn2
      go_wp2
      go_roundg d
      case measure => omega
      case rel => exact ⟨v, j + 1, rfl, by first | rfl | (rw [show wrap64 ((j : Int) + 1) = ((j + 1 : Nat) : Int) from by unfold wrap64; omega]), ⟨by have := HK.out; omega⟩, ⟨hvl⟩, ⟨by rw [← HV.out]; exact HS.out⟩, rfl⟩

/-! ### sum_Of: function 21 -/
def sum_Of.f (l0 : List Int) : Option (Int) := (sum_feed.f 4294967295 l0).bind fun t110 => (some (Go.bits .xor .u32 4294967295 t110))
set_option maxHeartbeats 8000000 in
set_option maxRecDepth 100000 in
theorem sum_Of.calls (A0 : Option Addr) (c0 : Nat) (l0 : List Int) (r : Int) (w : World) (hr0 : Kd.C (Kd.int .u8) w A0 l0.length l0) (hc0 : l0.length ≤ c0) (h : sum_Of.f l0 = some r) :
    Calls Try.prog 21 #[.slice A0 l0.length c0] w fun e w' => e = .returned (.int .u32 r) ∧ Below w.heap.size w w' := by
  have HR0 := Aside0.mk hr0
  have HC0 := Aside0.mk hc0
  clear hr0 hc0
  have HB := Aside0.mk (Below.refl w.heap.size w)
  have H : ((sum_feed.f 4294967295 l0).bind fun t110 => (some (Go.bits .xor .u32 4294967295 t110))) = some r := h
  clear h
  replace H := Option.bind_eq_some_iff.mp H
  obtain ⟨t110, A20, H⟩ := H
  replace H : (some (Go.bits .xor .u32 4294967295 t110)) = some r := H
  have A2 := Aside0.mk A20
  clear A20
  obtain rfl := Option.some.inj H
  go_enter Try.func21, Try.ntmps21
  go_wp2_with (first | ((with_reducible refine gate_callee (f := 27) rfl ?_); refine goesL_ (some 4) rfl rfl Try.func27 (by kernel_rfl) rfl #[.int .u32 4294967295, .slice A0 l0.length c0] rfl (by (try simp only [List.map_toArray, List.map_cons, List.map_nil]); first | done | rfl | (simp only [List.length_drop, List.length_take]; rfl)) ?_; (with_reducible refine (sum_feed.calls 4294967295 _ _ l0 t110 _ ?side1 ?side2 A2.out).mono ?_); (case side1 => repeat (first | exact HR0.out | (with_reducible refine Kd.C_alloc ?_ _) | (with_reducible refine Kd.C_drewN ?_ _) | (with_reducible refine Kd.C_drew ?_))); (case side2 => exact HC0.out); rintro e w3 ⟨rfl, hb⟩; refine ⟨_, rfl, ?_⟩; have n0_ := Aside0.mk (below_step (by repeat (first | (with_reducible first | exact HB.out | apply below_alloc | apply pw_below_drewN | apply below_drew1) | exact HB.out)) hb); clear HB; have HB := n0_; clear n0_; (try clear hb); (try clear hb2); (try clear hk); (try clear hi)))
  go_ret
  exact ⟨by first | rfl | (simp [errW_none, errW_some] <;> rfl) | (simp [*, errW_none, errW_some] <;> rfl), by repeat (first | (with_reducible first | exact HB.out | apply below_alloc | apply pw_below_drewN | apply below_drew1) | exact HB.out)⟩

end Go.Proofs.Ytljknhjmaafmkaa.PFrameSpoilt
