-- Written by wip/xprint of this repo (our own program) out of the translation; what is marked BY HAND is ours. Not trusted: Lean checks it.
import Derived.Test.YtklnnmgfoebbhaaPWireOnlyx0
import Derived.Test.YtklnnmgfoebbhaaPWireOnlyx3
import Derived.Test.YtklnnmgfoebbhaaPWireOnlyx4
namespace Go.Proofs.Ytklnnmgfoebbhaa.PWireOnly
open Go.RowKit Go.Proofs.YtklnnmgfoebbhaaW.PrintWords Go.Proofs.YtklnnmgfoebbhaaW.PrintLast Go.Proofs.YtklnnmgfoebbhaaW.PrintMore
attribute [local go_sem] max2_int min2_int max_two min_two max_three min_three max_four min_four   -- for this text's walks alone
set_option linter.unusedVariables false
set_option linter.unusedSimpArgs false

/-! ### code_TakeText: function 51 -/
def code_TakeText.f (k : Nat) (l0 : List Int) (a1 : Int) : Option (ByteArray × List Int × Bool) := (code_TakeNum.f k l0).bind fun bt137 => (if bt137.2.2 = true then (if a1 < 0 then (some ((⟨#[]⟩ : ByteArray), ([] : List Int), false)) else (if bt137.1 > (IntKind.u64.wrap (a1)) then (some ((⟨#[]⟩ : ByteArray), ([] : List Int), false)) else (if bt137.1 > (IntKind.u64.wrap ((bt137.2.1.length : Int))) then (some ((⟨#[]⟩ : ByteArray), ([] : List Int), false)) else (if 0 ≤ bt137.1 then (if bt137.1 ≤ (bt137.2.1.length : Int) then ((code_behind.f bt137.2.1 (wrap64 (bt137.1))).bind fun t146 => (some (strOfNums (bt137.2.1.take (bt137.1 : Int).toNat), t146, true))) else (none)) else (none))))) else (some ((⟨#[]⟩ : ByteArray), ([] : List Int), false)))
theorem code_TakeText.mono : ∀ a0 a1 k, LeO (code_TakeText.f k a0 a1) (code_TakeText.f (k + 1) a0 a1) := by
  intro a0 a1 k
  unfold code_TakeText.f
  repeat' first
      | (with_reducible exact code_TakeNum.mono _ _)
      | (with_reducible exact LeO.refl _)
      | (with_reducible exact LeO.none _)
      | (with_reducible refine LeO.ite ?_ ?_)
      | (with_reducible refine LeO.bind ?_ (fun _ => ?_))
      | exact code_TakeNum.mono _ _
      | exact LeO.none _
      | refine LeO.ite ?_ ?_
      | refine LeO.bind ?_ (fun _ => ?_)
def code_TakeText.T4 : Bool × List (List Nat × List Nat) := (true, [([], []), ([], []), ([0, 1], [0, 1]), ([2], [2]), ([], []), ([], []), ([5], [5]), ([4, 6], [4, 6]), ([3, 7, 0, 1, 2, 3], [3]), ([7, 8, 0, 1, 2, 3, 4, 5, 6, 7, 8], [7]), ([9, 0, 1, 2, 3, 4, 5, 6, 7, 8, 9], [])])
def code_TakeText.B4 : List Nat := [0, 0, 3, 7, 0, 0, 32, 112, 255, 511, 1023]
theorem code_TakeText.tab4 : rtab .any (opsOf Try.f51 4) = code_TakeText.T4 := by kernel_rfl
theorem code_TakeText.bits4 : waitsOk code_TakeText.T4.2 code_TakeText.B4 = true := by kernel_rfl
set_option maxHeartbeats 8000000 in
set_option maxRecDepth 100000 in
theorem code_TakeText.calls (k : Nat) (A0 : Option Addr) (c0 : Nat) (l0 : List Int) (a1 : Int) (r1 : ByteArray) (r2 : List Int) (r3 : Bool) (w : World) (hr0 : Kd.C (Kd.int .u8) w A0 l0.length l0) (hc0 : l0.length ≤ c0) (h : code_TakeText.f k l0 a1 = some (r1, r2, r3)) :
    Calls Try.prog 51 #[.slice A0 l0.length c0, .int .i64 a1] w fun e w' => ∃ v1_ : Value, e = .returned (.tuple #[.string r1, v1_, .bool r3]) ∧ Kd.R (Kd.int .u8) 5 w' w.heap.size (fun _ => True) v1_ r2 ∧ Below w.heap.size w w' := by
  have HR0 := Aside0.mk hr0
  have HC0 := Aside0.mk hc0
  clear hr0 hc0
  have HB := Aside0.mk (Below.refl w.heap.size w)
  have H : ((code_TakeNum.f k l0).bind fun bt137 => (if bt137.2.2 = true then (if a1 < 0 then (some ((⟨#[]⟩ : ByteArray), ([] : List Int), false)) else (if bt137.1 > (IntKind.u64.wrap (a1)) then (some ((⟨#[]⟩ : ByteArray), ([] : List Int), false)) else (if bt137.1 > (IntKind.u64.wrap ((bt137.2.1.length : Int))) then (some ((⟨#[]⟩ : ByteArray), ([] : List Int), false)) else (if 0 ≤ bt137.1 then (if bt137.1 ≤ (bt137.2.1.length : Int) then ((code_behind.f bt137.2.1 (wrap64 (bt137.1))).bind fun t146 => (some (strOfNums (bt137.2.1.take (bt137.1 : Int).toNat), t146, true))) else (none)) else (none))))) else (some ((⟨#[]⟩ : ByteArray), ([] : List Int), false)))) = some (r1, r2, r3) := h
  clear h
  replace H := Option.bind_eq_some_iff.mp H
  obtain ⟨⟨t137, t138, t139⟩, A30, H⟩ := H
  replace H : (if t139 = true then (if a1 < 0 then (some ((⟨#[]⟩ : ByteArray), ([] : List Int), false)) else (if t137 > (IntKind.u64.wrap (a1)) then (some ((⟨#[]⟩ : ByteArray), ([] : List Int), false)) else (if t137 > (IntKind.u64.wrap ((t138.length : Int))) then (some ((⟨#[]⟩ : ByteArray), ([] : List Int), false)) else (if 0 ≤ t137 then (if t137 ≤ (t138.length : Int) then ((code_behind.f t138 (wrap64 (t137))).bind fun t146 => (some (strOfNums (t138.take (t137 : Int).toNat), t146, true))) else (none)) else (none))))) else (some ((⟨#[]⟩ : ByteArray), ([] : List Int), false))) = some (r1, r2, r3) := H
  have A3 := Aside0.mk A30
  clear A30
  by_cases c4 : t139 = true
  · subst c4
    have H1 : (if a1 < 0 then (some ((⟨#[]⟩ : ByteArray), ([] : List Int), false)) else (if t137 > (IntKind.u64.wrap (a1)) then (some ((⟨#[]⟩ : ByteArray), ([] : List Int), false)) else (if t137 > (IntKind.u64.wrap ((t138.length : Int))) then (some ((⟨#[]⟩ : ByteArray), ([] : List Int), false)) else (if 0 ≤ t137 then (if t137 ≤ (t138.length : Int) then ((code_behind.f t138 (wrap64 (t137))).bind fun t146 => (some (strOfNums (t138.take (t137 : Int).toNat), t146, true))) else (none)) else (none))))) = some (r1, r2, r3) := by rw [if_pos rfl] at H; exact H
    clear H
    have H := H1
    clear H1
    by_cases c5 : a1 < 0
    · rw [if_pos c5] at H
      have c5b0 : decide (a1 < 0) = true := decide_eq_true c5
      clear c5
      simp only [Option.some.injEq, Prod.mk.injEq] at H
      obtain ⟨rfl, rfl, rfl⟩ := H
      go_enter Try.func51, Try.ntmps51
      go_wp2_with (first | ((with_reducible refine gate_callee (f := 50) rfl ?_); refine goesL_ (some 12) rfl rfl Try.func50 (by kernel_rfl) rfl #[.slice A0 l0.length c0] rfl (by (try simp only [List.map_toArray, List.map_cons, List.map_nil]); first | done | rfl | (simp only [List.length_drop, List.length_take]; rfl)) ?_; (with_reducible refine (code_TakeNum.calls k _ _ l0 t137 t138 true _ ?side1 ?side2 A3.out).mono ?_); (case side1 => repeat (first | exact HR0.out | (with_reducible refine Kd.C_alloc ?_ _) | (with_reducible refine Kd.C_drewN ?_ _) | (with_reducible refine Kd.C_drew ?_))); (case side2 => exact HC0.out); rintro e w6 ⟨v140, rfl, ho0, hb⟩; refine ⟨_, rfl, ?_⟩; have n0_ := Aside0.mk (Kd.R_lower ho0 (below_size (by repeat (first | (with_reducible first | exact HB.out | apply below_alloc | apply pw_below_drewN | apply below_drew1) | exact HB.out)))); have n1_ := Aside0.mk (below_step (by repeat (first | (with_reducible first | exact HB.out | apply below_alloc | apply pw_below_drewN | apply below_drew1) | exact HB.out)) hb); clear HB; have HO141 := n0_; have HB := n1_; clear n0_ n1_; (try clear hb); (try clear hb2); (try clear hk); (try clear hi); (try clear ho0)))
      go_ret3
      exact ⟨_, by first | rfl | (simp [errW_none, errW_some] <;> rfl) | (simp [*, errW_none, errW_some] <;> rfl), by first | exact Kd.R_nil _ _ _ _ _ | exact Kd.N_nil _ _ _ _ _ | exact Kd.V_nil _ _ _ _ _ | exact Kd.Q_nil _ _ _ _ _ | exact Kd.S_nil _ _ _ _ _, by repeat (first | (with_reducible first | exact HB.out | apply below_alloc | apply pw_below_drewN | apply below_drew1) | exact HB.out)⟩
    · rw [if_neg c5] at H
      have c5b0 : decide (a1 < 0) = false := decide_eq_false c5
      clear c5
      by_cases c7 : t137 > (IntKind.u64.wrap (a1))
      · rw [if_pos c7] at H
        have c7b0 : decide ((IntKind.u64.wrap (a1)) < t137) = true := decide_eq_true c7
        clear c7
        simp only [Option.some.injEq, Prod.mk.injEq] at H
        obtain ⟨rfl, rfl, rfl⟩ := H
        go_enter Try.func51, Try.ntmps51
        go_wp2_with (first | ((with_reducible refine gate_callee (f := 50) rfl ?_); refine goesL_ (some 12) rfl rfl Try.func50 (by kernel_rfl) rfl #[.slice A0 l0.length c0] rfl (by (try simp only [List.map_toArray, List.map_cons, List.map_nil]); first | done | rfl | (simp only [List.length_drop, List.length_take]; rfl)) ?_; (with_reducible refine (code_TakeNum.calls k _ _ l0 t137 t138 true _ ?side1 ?side2 A3.out).mono ?_); (case side1 => repeat (first | exact HR0.out | (with_reducible refine Kd.C_alloc ?_ _) | (with_reducible refine Kd.C_drewN ?_ _) | (with_reducible refine Kd.C_drew ?_))); (case side2 => exact HC0.out); rintro e w8 ⟨v140, rfl, ho0, hb⟩; refine ⟨_, rfl, ?_⟩; have n0_ := Aside0.mk (Kd.R_lower ho0 (below_size (by repeat (first | (with_reducible first | exact HB.out | apply below_alloc | apply pw_below_drewN | apply below_drew1) | exact HB.out)))); have n1_ := Aside0.mk (below_step (by repeat (first | (with_reducible first | exact HB.out | apply below_alloc | apply pw_below_drewN | apply below_drew1) | exact HB.out)) hb); clear HB; have HO141 := n0_; have HB := n1_; clear n0_ n1_; (try clear hb); (try clear hb2); (try clear hk); (try clear hi); (try clear ho0)))
        go_ret3
        exact ⟨_, by first | rfl | (simp [errW_none, errW_some] <;> rfl) | (simp [*, errW_none, errW_some] <;> rfl), by first | exact Kd.R_nil _ _ _ _ _ | exact Kd.N_nil _ _ _ _ _ | exact Kd.V_nil _ _ _ _ _ | exact Kd.Q_nil _ _ _ _ _ | exact Kd.S_nil _ _ _ _ _, by repeat (first | (with_reducible first | exact HB.out | apply below_alloc | apply pw_below_drewN | apply below_drew1) | exact HB.out)⟩
      · rw [if_neg c7] at H
        have c7b0 : decide ((IntKind.u64.wrap (a1)) < t137) = false := decide_eq_false c7
        clear c7
        by_cases c9 : t137 > (IntKind.u64.wrap ((t138.length : Int)))
        · rw [if_pos c9] at H
          have c9b0 : decide ((IntKind.u64.wrap ((t138.length : Int))) < t137) = true := decide_eq_true c9
          clear c9
          simp only [Option.some.injEq, Prod.mk.injEq] at H
          obtain ⟨rfl, rfl, rfl⟩ := H
          go_enter Try.func51, Try.ntmps51
          go_wp2_with (first | ((with_reducible refine gate_callee (f := 50) rfl ?_); refine goesL_ (some 12) rfl rfl Try.func50 (by kernel_rfl) rfl #[.slice A0 l0.length c0] rfl (by (try simp only [List.map_toArray, List.map_cons, List.map_nil]); first | done | rfl | (simp only [List.length_drop, List.length_take]; rfl)) ?_; (with_reducible refine (code_TakeNum.calls k _ _ l0 t137 t138 true _ ?side1 ?side2 A3.out).mono ?_); (case side1 => repeat (first | exact HR0.out | (with_reducible refine Kd.C_alloc ?_ _) | (with_reducible refine Kd.C_drewN ?_ _) | (with_reducible refine Kd.C_drew ?_))); (case side2 => exact HC0.out); rintro e w10 ⟨v140, rfl, ho0, hb⟩; refine ⟨_, rfl, ?_⟩; have n0_ := Aside0.mk (Kd.R_lower ho0 (below_size (by repeat (first | (with_reducible first | exact HB.out | apply below_alloc | apply pw_below_drewN | apply below_drew1) | exact HB.out)))); have n1_ := Aside0.mk (below_step (by repeat (first | (with_reducible first | exact HB.out | apply below_alloc | apply pw_below_drewN | apply below_drew1) | exact HB.out)) hb); clear HB; have HO141 := n0_; have HB := n1_; clear n0_ n1_; (try clear hb); (try clear hb2); (try clear hk); (try clear hi); (try clear ho0); obtain ⟨Ao11, co11, eo11⟩ := Kd.R_slice HO141.out; subst eo11))
          go_ret3
          exact ⟨_, by first | rfl | (simp [errW_none, errW_some] <;> rfl) | (simp [*, errW_none, errW_some] <;> rfl), by first | exact Kd.R_nil _ _ _ _ _ | exact Kd.N_nil _ _ _ _ _ | exact Kd.V_nil _ _ _ _ _ | exact Kd.Q_nil _ _ _ _ _ | exact Kd.S_nil _ _ _ _ _, by repeat (first | (with_reducible first | exact HB.out | apply below_alloc | apply pw_below_drewN | apply below_drew1) | exact HB.out)⟩
        · rw [if_neg c9] at H
          have c9b0 : decide ((IntKind.u64.wrap ((t138.length : Int))) < t137) = false := decide_eq_false c9
          clear c9
          by_cases c12 : 0 ≤ t137
          · rw [if_pos c12] at H
            have c12b0 := eq_true c12
            have c12b1 : decide (0 ≤ t137) = true := decide_eq_true c12
            clear c12
            by_cases c13 : t137 ≤ (t138.length : Int)
            · rw [if_pos c13] at H
              have c13b0 := eq_true c13
              have c13b1 : decide (t137 ≤ (t138.length : Int)) = true := decide_eq_true c13
              clear c13
              obtain ⟨y142, hy142⟩ : ∃ y_ : List Int, y_ = (t138.take (t137 : Int).toNat) := ⟨_, rfl⟩
              replace H : ((code_behind.f t138 (wrap64 (t137))).bind fun t146 => (some (strOfNums y142, t146, true))) = some (r1, r2, r3) := by first | (rw [hy142]; with_reducible exact H) | (have H2_ := (Option.bind_some _ _).symm.trans H; rw [hy142]; with_reducible exact H2_) | (have H2_ := (Option.bind_some _ _).symm.trans H; with_reducible exact H2_) | with_reducible exact H | (rw [hy142]; exact H) | exact H
              have Ny142 := Aside0.mk hy142
              clear hy142
              replace H := Option.bind_eq_some_iff.mp H
              obtain ⟨t146, A140, H⟩ := H
              replace H : (some (strOfNums y142, t146, true)) = some (r1, r2, r3) := H
              have A14 := Aside0.mk A140
              clear A140
              simp only [Option.some.injEq, Prod.mk.injEq] at H
              obtain ⟨rfl, rfl, rfl⟩ := H
              go_enter Try.func51, Try.ntmps51
              try go_wp2_with (first | ((with_reducible refine gate_callee (f := 50) rfl ?_); refine goesL_ (some 12) rfl rfl Try.func50 (by kernel_rfl) rfl #[.slice A0 l0.length c0] rfl (by (try simp only [List.map_toArray, List.map_cons, List.map_nil]); first | done | rfl | (simp only [List.length_drop, List.length_take]; rfl)) ?_; (with_reducible refine (code_TakeNum.calls k _ _ l0 t137 t138 true _ ?side1 ?side2 A3.out).mono ?_); (case side1 => repeat (first | exact HR0.out | (with_reducible refine Kd.C_alloc ?_ _) | (with_reducible refine Kd.C_drewN ?_ _) | (with_reducible refine Kd.C_drew ?_))); (case side2 => exact HC0.out); rintro e w15 ⟨v140, rfl, ho0, hb⟩; refine ⟨_, rfl, ?_⟩; have n0_ := Aside0.mk (Kd.R_lower ho0 (below_size (by repeat (first | (with_reducible first | exact HB.out | apply below_alloc | apply pw_below_drewN | apply below_drew1) | exact HB.out)))); have n1_ := Aside0.mk (below_step (by repeat (first | (with_reducible first | exact HB.out | apply below_alloc | apply pw_below_drewN | apply below_drew1) | exact HB.out)) hb); clear HB; have HO141 := n0_; have HB := n1_; clear n0_ n1_; (try clear hb); (try clear hb2); (try clear hk); (try clear hi); (try clear ho0); obtain ⟨Ao16, co16, eo16⟩ := Kd.R_slice HO141.out; subst eo16))
              have n0_ := Aside0.mk (Kd.R_drew HO141.out)
              have n1_ := Aside0.mk (below_drew1 HB.out)
              clear HO141
              clear HB
              have HO141 := n0_
              have HB := n1_
              clear n0_ n1_
              have q18 : (t137 : Int) ≤ ((t138.length : Int) : Int) := of_decide_eq_true (by first | (with_reducible assumption) | assumption)
              obtain ⟨i018, hi018, _, hsz18, _⟩ := info_parts info5
              have hroom18 : t138.length ≤ co16 := (Kd.R_reads' HO141.out).2.1
              have hC18 : Kd.C (Kd.int .u8) _ Ao16 t138.length t138 := (Kd.R_reads' HO141.out).2.2
              have hcut18 := cut_to (P := Try.prog) 25 5 .u64 Try.underlying25 hi018 Ao16 t138.length co16 t137 (of_decide_eq_true (by first | (with_reducible assumption) | assumption)) q18 hroom18
              have hr18 := Kd.C_take (m := (t137 : Int).toNat) hC18 (by omega)
              have hy18 : y142.length = (t137 : Int).toNat := (by rw [Ny142.out, List.length_take]; omega)
              rw [← Ny142.out] at hr18
              rw [← hy18] at hcut18
              have HR145 := Aside0.mk hr18
              have HC145 := Aside0.mk (show y142.length ≤ co16 from by omega)
              clear hr18 hC18 hroom18 hi018 hsz18
              have KY18 := Aside0.mk hy18
              clear hy18
              have KL18 := Aside0.mk (show (t137 : Int).toNat ≤ t138.length from by omega)
              replace q18 := eq_true q18
              refine start_ (n := 11) (S := fun w' => True) (ds := []) #[false, false, false, false, false, false, false, false, false, false, false] (by kernel_rfl) rfl rfl trivial (fun hHeld => ?_); refine with_tabW code_TakeText.tab4 code_TakeText.bits4 (fun HT_ HW_ => ?_)
              generalize w15.drew = w17 at HO141 HB HR145 hHeld ⊢
              refine pure_ (i := 0) (N := some 35) (v := ?_) (a' := ?_) #[true, false, false, false, false, false, false, false, false, false, false] rfl rfl (any_of HT_.out (by kernel_rfl)) (fun _ _ _ h => h) (Or.inl ⟨by rfl, ?_⟩) ?_ ?_
              rotate_left
              · intro w'
                go_simp
                with_reducible rfl
              rotate_left
              · simp only [Act.put, List.setIfInBounds_toArray, List.set_cons_zero, List.set_cons_succ, i64_w, i32_w]
                rfl
              refine pure_ (i := 1) (N := some 36) (v := ?_) (a' := ?_) #[true, true, false, false, false, false, false, false, false, false, false] rfl rfl (any_of HT_.out (by kernel_rfl)) (fun _ _ _ h => h) (Or.inl ⟨by rfl, ?_⟩) ?_ ?_
              rotate_left
              · intro w'
                go_simp
                with_reducible rfl
              rotate_left
              · simp only [Act.put, List.setIfInBounds_toArray, List.set_cons_zero, List.set_cons_succ, i64_w, i32_w]
                rfl
              refine pure_ (i := 2) (N := some 37) (v := ?_) (a' := ?_) #[true, true, true, false, false, false, false, false, false, false, false] rfl rfl (any_of HT_.out (by kernel_rfl)) (fun _ _ _ h => h) (Or.inl ⟨by rfl, ?_⟩) ?_ ?_
              rotate_left
              · intro w'
                go_simp
                with_reducible rfl
              rotate_left
              · simp only [Act.put, List.setIfInBounds_toArray, List.set_cons_zero, List.set_cons_succ, i64_w, i32_w]
                rfl
              refine pure_ (i := 4) (N := some 39) (v := ?_) (a' := ?_) #[true, true, true, false, true, false, false, false, false, false, false] rfl rfl (any_of HT_.out (by kernel_rfl)) (fun _ _ _ h => h) (Or.inl ⟨by rfl, ?_⟩) ?_ ?_
              rotate_left
              · intro w'
                go_simp
                with_reducible rfl
              rotate_left
              · simp only [Act.put, List.setIfInBounds_toArray, List.set_cons_zero, List.set_cons_succ, i64_w, i32_w]
                rfl
              refine pure_ (i := 5) (N := some 40) (v := ?_) (a' := ?_) #[true, true, true, false, true, true, false, false, false, false, false] rfl rfl (any_of HT_.out (by kernel_rfl)) (fun _ _ _ h => h) (Or.inl ⟨by rfl, ?_⟩) ?_ ?_
              rotate_left
              · intro w'
                go_simp
                with_reducible rfl
              rotate_left
              · simp only [Act.put, List.setIfInBounds_toArray, List.set_cons_zero, List.set_cons_succ, i64_w, i32_w]
                rfl
              refine pure_ (i := 6) (N := some 41) (v := ?_) (a' := ?_) #[true, true, true, false, true, true, true, false, false, false, false] rfl rfl (any_of HT_.out (by kernel_rfl)) (fun _ _ _ h => h) (Or.inl ⟨by rfl, ?_⟩) ?_ ?_
              rotate_left
              · intro w'
                go_simp
                with_reducible rfl
              rotate_left
              · simp only [Act.put, List.setIfInBounds_toArray, List.set_cons_zero, List.set_cons_succ, i64_w, i32_w]
                rfl
              refine join_ (σ := Value) 3 #[true, true, true, true, true, true, true, true, false, false, false] (fun s_ => [(38, .string (strOfNums y142)), (42, s_)]) (fun s_ w' => (Kd.R (Kd.int .u8) 5 w' w.heap.size (fun k_ => some k_ ≠ (s_ : Value).ownBlock) (.slice Ao16 t138.length co16) t138) ∧ (Kd.R (Kd.int .u8) 5 w' w.heap.size (fun k_ => some k_ ≠ (.slice Ao16 t138.length co16 : Value).ownBlock) s_ t146) ∧ (Below w.heap.size w w')) ?_ ?_
              rotate_left
              · intro hCont
                refine two_ (i := 3) (j := 7) (Ni := some 38) (Nj := some 42) #[true, true, true, true, true, true, true, false, false, false, false] #[true, true, true, false, true, true, true, true, false, false, false] rfl rfl rfl rfl (two_of HT_.out (by kernel_rfl)) (by decide) (by decide) (fun K hK => ?_) (fun K hK => ?_)
                · skip
                  have hcv19 := Kd.C_string (P := Try.prog) (A := Ao16) (c := co16) Try.underlying25 Try.underlying5 Try.underlying9 (by repeat (first | (with_reducible exact HR145.out) | (with_reducible refine Kd.C_alloc ?_ _) | (with_reducible refine Kd.C_drewN ?_ _) | (with_reducible refine Kd.C_drew ?_) | exact HR145.out))
                  refine value_ (w1 := ?_) (v := ?_) (by rfl) rfl ?_ ?_
                  rotate_left 2
                  · go_simp
                    constructor
                    · rfl
                    · rfl
                  clear hcv19
                  refine hK.out _ _ trivial (fun hHeld => ?_)
                  clear hK K
                  refine norm_ (a' := ?_) ?_ ?_
                  rotate_left
                  · show Act.put _ (some 38) _ = _
                    simp only [Act.put, List.setIfInBounds_toArray, List.set_cons_zero, List.set_cons_succ, i64_w, i32_w]
                    rfl
                  refine one_ (i := 7) (N := some 42) #[true, true, true, true, true, true, true, true, false, false, false] rfl rfl (one_of HT_.out (by kernel_rfl)) (by decide) (fun K hK => ?_)
                  refine goes_ Try.func53 (by kernel_rfl) rfl #[.slice Ao16 t138.length co16, .int .i64 (wrap64 (t137))] (by rfl) rfl rfl (by (try simp only [List.map_toArray, List.map_cons, List.map_nil]); first | done | rfl | (simp only [List.length_drop, List.length_take]; rfl)) ?_
                  with_reducible refine (code_behind.calls _ _ t138 (wrap64 (t137)) t146 _ ?side1 ?side2 A14.out).mono ?_
                  (case side1 => repeat (first | exact (Kd.R_reads' HO141.out).2.2 | (with_reducible refine Kd.C_alloc ?_ _) | (with_reducible refine Kd.C_drewN ?_ _) | (with_reducible refine Kd.C_drew ?_)))
                  (case side2 => exact (Kd.R_reads' HO141.out).2.1)
                  rintro e w20 ⟨v147, rfl, ho0, hb⟩
                  refine ⟨_, rfl, ?_⟩
                  have n0_ := Aside0.mk (Kd.R_elder' (by (with_reducible repeat (first | apply Kd.R_alloc | apply Kd.R_drewN | apply Kd.R_drew)); exact HO141.out) (Kd.R_base ho0) hb)
                  have n1_ := Aside0.mk (Kd.R_lower (Kd.R_new' ho0 (Kd.R_lt (by (with_reducible repeat (first | apply Kd.R_alloc | apply Kd.R_drewN | apply Kd.R_drew)); exact HO141.out))) (below_size (by repeat (first | (with_reducible first | exact HB.out | apply below_alloc | apply pw_below_drewN | apply below_drew1) | exact HB.out))))
                  have n2_ := Aside0.mk (Kd.C_below (by repeat (first | (with_reducible exact HR145.out) | (with_reducible refine Kd.C_alloc ?_ _) | (with_reducible refine Kd.C_drewN ?_ _) | (with_reducible refine Kd.C_drew ?_) | exact HR145.out)) hb)
                  have n3_ := Aside0.mk (below_step (by repeat (first | (with_reducible first | exact HB.out | apply below_alloc | apply pw_below_drewN | apply below_drew1) | exact HB.out)) hb)
                  clear HO141
                  clear HR145
                  clear HB
                  have HO141 := n0_
                  have HO148 := n1_
                  have HR145 := n2_
                  have HB := n3_
                  clear n0_ n1_ n2_ n3_
                  (try clear hb)
                  (try clear hb2)
                  (try clear hk)
                  (try clear hi)
                  (try clear ho0)
                  refine hK.out _ _ trivial (fun hHeld => ?_)
                  clear hK K
                  refine norm_ (a' := ?_) ?_ ?_
                  rotate_left
                  · show Act.put _ (some 42) _ = _
                    simp only [Act.put, List.setIfInBounds_toArray, List.set_cons_zero, List.set_cons_succ, i64_w, i32_w]
                    rfl
                  exact norm_ (by first | (simp only [putAll, Act.put, List.setIfInBounds_toArray, List.set_cons_zero, List.set_cons_succ]; done) | (simp only [putAll, Act.put, List.setIfInBounds_toArray, List.set_cons_zero, List.set_cons_succ, *]; done) | (simp only [putAll, Act.put, List.setIfInBounds_toArray, List.set_cons_zero, List.set_cons_succ, *]; rfl) | (simp only [putAll, Act.put, List.setIfInBounds_toArray, List.set_cons_zero, List.set_cons_succ]; rfl)) (hCont (v147) _ ⟨(by (with_reducible repeat (first | apply Kd.R_alloc | apply Kd.R_drewN | apply Kd.R_drew)); exact Kd.R_mono HO141.out (fun _ hk => hk.2)), (by (with_reducible repeat (first | apply Kd.R_alloc | apply Kd.R_drewN | apply Kd.R_drew)); exact Kd.R_mono HO148.out (fun _ hk => hk.2)), (by repeat (first | (with_reducible first | exact HB.out | apply below_alloc | apply pw_below_drewN | apply below_drew1) | exact HB.out))⟩)
                · skip
                  refine goes_ Try.func53 (by kernel_rfl) rfl #[.slice Ao16 t138.length co16, .int .i64 (wrap64 (t137))] (by rfl) rfl rfl (by (try simp only [List.map_toArray, List.map_cons, List.map_nil]); first | done | rfl | (simp only [List.length_drop, List.length_take]; rfl)) ?_
                  with_reducible refine (code_behind.calls _ _ t138 (wrap64 (t137)) t146 _ ?side1 ?side2 A14.out).mono ?_
                  (case side1 => repeat (first | exact (Kd.R_reads' HO141.out).2.2 | (with_reducible refine Kd.C_alloc ?_ _) | (with_reducible refine Kd.C_drewN ?_ _) | (with_reducible refine Kd.C_drew ?_)))
                  (case side2 => exact (Kd.R_reads' HO141.out).2.1)
                  rintro e w19 ⟨v147, rfl, ho0, hb⟩
                  refine ⟨_, rfl, ?_⟩
                  have n0_ := Aside0.mk (Kd.R_elder' (by (with_reducible repeat (first | apply Kd.R_alloc | apply Kd.R_drewN | apply Kd.R_drew)); exact HO141.out) (Kd.R_base ho0) hb)
                  have n1_ := Aside0.mk (Kd.R_lower (Kd.R_new' ho0 (Kd.R_lt (by (with_reducible repeat (first | apply Kd.R_alloc | apply Kd.R_drewN | apply Kd.R_drew)); exact HO141.out))) (below_size (by repeat (first | (with_reducible first | exact HB.out | apply below_alloc | apply pw_below_drewN | apply below_drew1) | exact HB.out))))
                  have n2_ := Aside0.mk (Kd.C_below (by repeat (first | (with_reducible exact HR145.out) | (with_reducible refine Kd.C_alloc ?_ _) | (with_reducible refine Kd.C_drewN ?_ _) | (with_reducible refine Kd.C_drew ?_) | exact HR145.out)) hb)
                  have n3_ := Aside0.mk (below_step (by repeat (first | (with_reducible first | exact HB.out | apply below_alloc | apply pw_below_drewN | apply below_drew1) | exact HB.out)) hb)
                  clear HO141
                  clear HR145
                  clear HB
                  have HO141 := n0_
                  have HO148 := n1_
                  have HR145 := n2_
                  have HB := n3_
                  clear n0_ n1_ n2_ n3_
                  (try clear hb)
                  (try clear hb2)
                  (try clear hk)
                  (try clear hi)
                  (try clear ho0)
                  refine hK.out _ _ trivial (fun hHeld => ?_)
                  clear hK K
                  refine norm_ (a' := ?_) ?_ ?_
                  rotate_left
                  · show Act.put _ (some 42) _ = _
                    simp only [Act.put, List.setIfInBounds_toArray, List.set_cons_zero, List.set_cons_succ, i64_w, i32_w]
                    rfl
                  refine one_ (i := 3) (N := some 38) #[true, true, true, true, true, true, true, true, false, false, false] rfl rfl (one_of HT_.out (by kernel_rfl)) (by decide) (fun K hK => ?_)
                  have hcv20 := Kd.C_string (P := Try.prog) (A := Ao16) (c := co16) Try.underlying25 Try.underlying5 Try.underlying9 (by repeat (first | (with_reducible exact HR145.out) | (with_reducible refine Kd.C_alloc ?_ _) | (with_reducible refine Kd.C_drewN ?_ _) | (with_reducible refine Kd.C_drew ?_) | exact HR145.out))
                  refine value_ (w1 := ?_) (v := ?_) (by rfl) rfl ?_ ?_
                  rotate_left 2
                  · go_simp
                    constructor
                    · rfl
                    · rfl
                  clear hcv20
                  refine hK.out _ _ trivial (fun hHeld => ?_)
                  clear hK K
                  refine norm_ (a' := ?_) ?_ ?_
                  rotate_left
                  · show Act.put _ (some 38) _ = _
                    simp only [Act.put, List.setIfInBounds_toArray, List.set_cons_zero, List.set_cons_succ, i64_w, i32_w]
                    rfl
                  exact norm_ (by first | (simp only [putAll, Act.put, List.setIfInBounds_toArray, List.set_cons_zero, List.set_cons_succ]; done) | (simp only [putAll, Act.put, List.setIfInBounds_toArray, List.set_cons_zero, List.set_cons_succ, *]; done) | (simp only [putAll, Act.put, List.setIfInBounds_toArray, List.set_cons_zero, List.set_cons_succ, *]; rfl) | (simp only [putAll, Act.put, List.setIfInBounds_toArray, List.set_cons_zero, List.set_cons_succ]; rfl)) (hCont (v147) _ ⟨(by (with_reducible repeat (first | apply Kd.R_alloc | apply Kd.R_drewN | apply Kd.R_drew)); exact Kd.R_mono HO141.out (fun _ hk => hk.2)), (by (with_reducible repeat (first | apply Kd.R_alloc | apply Kd.R_drewN | apply Kd.R_drew)); exact Kd.R_mono HO148.out (fun _ hk => hk.2)), (by repeat (first | (with_reducible first | exact HB.out | apply below_alloc | apply pw_below_drewN | apply below_drew1) | exact HB.out))⟩)
              rintro v147 w21 ⟨h0_, h1_, h2_⟩
              have n0_ : Aside0 (Kd.R (Kd.int .u8) 5 w21 w.heap.size (fun k_ => some k_ ≠ (v147 : Value).ownBlock) (.slice Ao16 t138.length co16) t138) := ⟨h0_⟩
              have n1_ : Aside0 (Kd.R (Kd.int .u8) 5 w21 w.heap.size (fun k_ => some k_ ≠ (.slice Ao16 t138.length co16 : Value).ownBlock) v147 t146) := ⟨h1_⟩
              have n2_ : Aside0 (Below w.heap.size w w21) := ⟨h2_⟩
              clear HO141
              clear HB
              clear h0_ h1_ h2_
              have HO141 := n0_
              have HO148 := n1_
              have HB := n2_
              clear n0_ n1_ n2_
              have hHeld := trivial
              refine norm_ (a' := ?_) ?_ ?_
              rotate_left
              · simp only [putAll, Act.put, List.setIfInBounds_toArray, List.set_cons_zero, List.set_cons_succ]
                rfl
              refine pure_ (i := 8) (N := some 4) (v := ?_) (a' := ?_) #[true, true, true, true, true, true, true, true, true, false, false] rfl rfl (any_of HT_.out (by kernel_rfl)) (fun _ _ _ h => h) (Or.inl ⟨by rfl, ?_⟩) ?_ ?_
              rotate_left
              · intro w'
                go_simp
                with_reducible rfl
              rotate_left
              · simp only [Act.put, List.setIfInBounds_toArray, List.set_cons_zero, List.set_cons_succ, i64_w, i32_w]
                rfl
              refine pure_ (i := 9) (N := some 5) (v := ?_) (a' := ?_) #[true, true, true, true, true, true, true, true, true, true, false] rfl rfl (any_of HT_.out (by kernel_rfl)) (fun _ _ _ h => h) (Or.inl ⟨by rfl, ?_⟩) ?_ ?_
              rotate_left
              · intro w'
                go_simp
                with_reducible rfl
              rotate_left
              · simp only [Act.put, List.setIfInBounds_toArray, List.set_cons_zero, List.set_cons_succ, i64_w, i32_w]
                rfl
              refine pure_ (i := 10) (N := some 6) (v := ?_) (a' := ?_) #[true, true, true, true, true, true, true, true, true, true, true] rfl rfl (any_of HT_.out (by kernel_rfl)) (fun _ _ _ h => h) (Or.inl ⟨by rfl, ?_⟩) ?_ ?_
              rotate_left
              · intro w'
                go_simp
                with_reducible rfl
              rotate_left
              · simp only [Act.put, List.setIfInBounds_toArray, List.set_cons_zero, List.set_cons_succ, i64_w, i32_w]
                rfl
              refine done_ (done_of HT_.out (by kernel_rfl)) ?_
              try go_wp2
              go_ret3
              exact ⟨_, by first | rfl | (simp [errW_none, errW_some] <;> rfl) | (simp [*, errW_none, errW_some] <;> rfl), by (with_reducible repeat (first | apply Kd.R_alloc | apply Kd.R_drewN | apply Kd.R_drew)); exact Kd.R_mono HO148.out (fun _ hk => trivial), by repeat (first | (with_reducible first | exact HB.out | apply below_alloc | apply pw_below_drewN | apply below_drew1) | exact HB.out)⟩
            · rw [if_neg c13] at H
              exact absurd H (by simp)
          · rw [if_neg c12] at H
            exact absurd H (by simp)
  · replace c4 := Bool.eq_false_iff.mpr c4
    subst c4
    have H1 : (some ((⟨#[]⟩ : ByteArray), ([] : List Int), false)) = some (r1, r2, r3) := by rw [if_neg (show ¬ (false = true) by decide)] at H; exact H
    clear H
    have H := H1
    clear H1
    simp only [Option.some.injEq, Prod.mk.injEq] at H
    obtain ⟨rfl, rfl, rfl⟩ := H
    go_enter Try.func51, Try.ntmps51
    go_wp2_with (first | ((with_reducible refine gate_callee (f := 50) rfl ?_); refine goesL_ (some 12) rfl rfl Try.func50 (by kernel_rfl) rfl #[.slice A0 l0.length c0] rfl (by (try simp only [List.map_toArray, List.map_cons, List.map_nil]); first | done | rfl | (simp only [List.length_drop, List.length_take]; rfl)) ?_; (with_reducible refine (code_TakeNum.calls k _ _ l0 t137 t138 false _ ?side1 ?side2 A3.out).mono ?_); (case side1 => repeat (first | exact HR0.out | (with_reducible refine Kd.C_alloc ?_ _) | (with_reducible refine Kd.C_drewN ?_ _) | (with_reducible refine Kd.C_drew ?_))); (case side2 => exact HC0.out); rintro e w22 ⟨v140, rfl, ho0, hb⟩; refine ⟨_, rfl, ?_⟩; have n0_ := Aside0.mk (Kd.R_lower ho0 (below_size (by repeat (first | (with_reducible first | exact HB.out | apply below_alloc | apply pw_below_drewN | apply below_drew1) | exact HB.out)))); have n1_ := Aside0.mk (below_step (by repeat (first | (with_reducible first | exact HB.out | apply below_alloc | apply pw_below_drewN | apply below_drew1) | exact HB.out)) hb); clear HB; have HO141 := n0_; have HB := n1_; clear n0_ n1_; (try clear hb); (try clear hb2); (try clear hk); (try clear hi); (try clear ho0)))
    go_ret3
    exact ⟨_, by first | rfl | (simp [errW_none, errW_some] <;> rfl) | (simp [*, errW_none, errW_some] <;> rfl), by first | exact Kd.R_nil _ _ _ _ _ | exact Kd.N_nil _ _ _ _ _ | exact Kd.V_nil _ _ _ _ _ | exact Kd.Q_nil _ _ _ _ _ | exact Kd.S_nil _ _ _ _ _, by repeat (first | (with_reducible first | exact HB.out | apply below_alloc | apply pw_below_drewN | apply below_drew1) | exact HB.out)⟩

-- NOT PRINTED: function 35 (wire_read)

/-! ### ours: wireR -/

def wput : List (Addr × Value) → World → World
  | [], w => w
  | x :: l, w => wput l (w.setCell x.1 x.2)
theorem wput_snoc (l : List (Addr × Value)) (x : Addr × Value) (w : World) : wput (l ++ [x]) w = (wput l w).setCell x.1 x.2 := by
  induction l generalizing w with
  | nil => rfl
  | cons y l ih => exact ih _
theorem wput_far (l : List (Addr × Value)) (w : World) (k : Nat) (h : ∀ x ∈ l, k ≠ x.1.block) : (wput l w).heap[k]? = w.heap[k]? := by
  induction l generalizing w with
  | nil => rfl
  | cons y l ih => exact (ih _ (fun x hx => h x (List.mem_cons_of_mem _ hx))).trans (Below.heap_setCell _ _ _ _ (h y List.mem_cons_self))
theorem wput_size (l : List (Addr × Value)) (w : World) : (wput l w).heap.size = w.heap.size := by
  induction l generalizing w with
  | nil => rfl
  | cons y l ih => exact (ih _).trans (by simp [World.setCell])
theorem put_blk {w : World} {g : Nat} {cs : Array Value} {T : TypeId} (h : w.heap[g]? = some (.cells cs T (0, 0))) (a : Addr) (ha : a = ⟨a.block, a.off, none⟩) (v : Value) : ∃ cs', (w.setCell a v).heap[g]? = some (.cells cs' T (0, 0)) ∧ cs'.size = cs.size := by
  by_cases hg : g = a.block
  · rw [ha, ← hg]
    exact ⟨_, blk_set h a.off v, by simp⟩
  · exact ⟨cs, blk_far h hg v, rfl⟩
theorem wput_blk (l : List (Addr × Value)) {w : World} {g : Nat} {cs : Array Value} {T : TypeId} (h : w.heap[g]? = some (.cells cs T (0, 0))) (hl : ∀ x ∈ l, x.1 = ⟨x.1.block, x.1.off, none⟩) : ∃ cs', (wput l w).heap[g]? = some (.cells cs' T (0, 0)) ∧ cs'.size = cs.size := by
  induction l generalizing w cs with
  | nil => exact ⟨cs, h, rfl⟩
  | cons y l ih =>
    obtain ⟨cs1, h1, e1⟩ := put_blk h y.1 (hl y List.mem_cons_self) y.2
    obtain ⟨cs2, h2, e2⟩ := ih h1 (fun x hx => hl x (List.mem_cons_of_mem _ hx))
    exact ⟨cs2, h2, e2.trans e1⟩
theorem below_both {B : Nat} {x y : World} (h : Below B x y) (a : Addr) (v : Value) : Below B (x.setCell a v) (y.setCell a v) := by
  refine ⟨h.os, h.tape, h.output, by simpa [World.setCell] using h.size, fun k hk => ?_⟩
  have e := h.block k hk
  simp only [World.setCell, Array.getElem?_modify]
  split
  · rw [e]
  · exact e
theorem zip_snoc {α β : Type} (zs : List α) (vs : List β) (v : β) (h : vs.length < zs.length) : List.zip zs (vs ++ [v]) = List.zip zs vs ++ [(zs[vs.length], v)] := by
  induction zs generalizing vs with
  | nil => simp at h
  | cons a zs ih =>
    cases vs with
    | nil => simp
    | cons u vs =>
      simp only [List.length_cons, Nat.add_lt_add_iff_right] at h
      simp [ih vs h]
/-- What fields are written where. -/
def puts (fs : List (Bool × Addr)) (vs : List (Int ⊕ ByteArray)) : List (Addr × Value) := List.zip (fs.map (·.2)) (vs.map fval)
theorem puts_snoc (fs : List (Bool × Addr)) (vs : List (Int ⊕ ByteArray)) (v : Int ⊕ ByteArray) (h : vs.length < fs.length) : puts fs (vs ++ [v]) = puts fs vs ++ [((fs[vs.length]).2, fval v)] := by
  unfold puts
  rw [List.map_append, List.map_singleton, zip_snoc _ _ _ (by simpa using h)]
  simp
theorem puts_mem {fs : List (Bool × Addr)} {vs : List (Int ⊕ ByteArray)} {x : Addr × Value} (h : x ∈ puts fs vs) : ∃ f ∈ fs, f.2 = x.1 := by
  have := (List.of_mem_zip (show (x.1, x.2) ∈ List.zip _ _ from h)).1
  simpa using this
def wireRd (k : Nat) : List Bool → List Int → List (Int ⊕ ByteArray) → Option (Option (List (Int ⊕ ByteArray)))
  | [], b, acc => some (if b.length = 0 then some acc else none)
  | false :: l, b, acc => (code_TakeNum.f k b).bind fun r => if r.2.2 = true then (if r.1 ≤ 9223372036854775807 then wireRd k l r.2.1 (acc ++ [.inl (wrap64 r.1)]) else some none) else some none
  | true :: l, b, acc => (code_TakeText.f k b 4096).bind fun r => if r.2.2 = true then wireRd k l r.2.1 (acc ++ [.inr r.1]) else some none
theorem row_ne {w w' : World} {A : Option Addr} {n c : Nat} {xs : List Int} (h : Kd.R (Kd.int .u8) 5 w' w.heap.size (fun _ => True) (.slice A n c) xs) (g : Nat) (hg : g < w.heap.size) : ∀ ad, A = some ad → ad.block ≠ g := by
  rintro ad rfl
  obtain ⟨b, rfl⟩ := Kd.R_head h
  have := Kd.R_base h b (by simp [Value.ownBlock])
  intro e
  have e' : b = g := e
  omega

set_option maxHeartbeats 8000000 in
set_option maxRecDepth 100000 in
theorem wread (k L c : Nat) (A : Option Addr) (fs : List (Bool × Addr)) (b0 : List Int) (RES : Option (List (Int ⊕ ByteArray))) (w : World) (hL : w.heap[L]? = some (lob fs))
    (hfs : ∀ f ∈ fs, (∃ cs T, w.heap[f.2.block]? = some (.cells cs T (0, 0)) ∧ T ≠ 20 ∧ f.2.off < cs.size) ∧ f.2 = ⟨f.2.block, f.2.off, none⟩)
    (hC : Kd.C (Kd.int .u8) w A b0.length b0) (hc : b0.length ≤ c) (hA : ∀ ad, A = some ad → 0 < b0.length → ∀ f ∈ fs, ad.block ≠ f.2.block) (hn : fs.length ≤ 8) (h : wireRd k (fs.map (·.1)) b0 [] = some RES) :
    Calls Try.prog 35 #[.slice A b0.length c, .slice (some ⟨L, 0, none⟩) fs.length fs.length] w fun e w' => ∃ vs, ((RES = some vs ∧ e = .returned (.tuple #[]) ∧ vs.length = fs.length) ∨ (RES = none ∧ e = .panicked wbad)) ∧ Below w.heap.size (wput (puts fs vs) w) w' := by
  have HL := Aside0.mk hL
  have HF := Aside0.mk hfs
  have HC0 := Aside0.mk hC
  have HCL0 := Aside0.mk hc
  have HA0 := Aside0.mk hA
  have HRES := Aside0.mk h
  clear hL hfs hC hA h hc
  obtain ⟨n, hln⟩ : ∃ n, fs.length = n := ⟨_, rfl⟩
  have HVN := Aside0.mk hln
  rw [hln] at hn ⊢
  clear hln
  go_enter Try.func35, Try.ntmps35
  go_wp2
  go_loopg [0, 16] n (fun kq v0 v16 w' => ∃ (j : Nat) (A : Option Addr) (c : Nat) (b : List Int) (acc : List (Int ⊕ ByteArray)), v0 = .slice A b.length c ∧ v16 = .int .i64 (j : Int) ∧ Aside0 (kq + j = n) ∧ Aside0 (Kd.C (Kd.int .u8) w' A b.length b) ∧ Aside0 (b.length ≤ c) ∧ Aside0 (∀ ad, A = some ad → 0 < b.length → ∀ f ∈ fs, ad.block ≠ f.2.block) ∧ Aside0 (wireRd k ((fs.map (·.1)).drop j) b acc = some RES) ∧ Aside0 (acc.length = j) ∧ Aside0 (Below w.heap.size (wput (puts fs acc) w) w') ∧ Aside0 (w.heap.size ≤ w'.heap.size))
  case atStart => exact ⟨0, A, c, b0, [], rfl, rfl, ⟨rfl⟩, HC0, HCL0, HA0, HRES, ⟨rfl⟩, ⟨by simp [puts]; exact Below.refl _ _⟩, ⟨Nat.le_refl _⟩⟩
  case round =>
    clear HRES HC0 HA0 HCL0
    obtain ⟨j, A, c, b, acc, rfl, rfl, HK, HC, HCB, HA, HRES, HAC, HPB, HSZ⟩ := hrel
    cases gk with
    | zero =>
      have ej : j = n := by have := HK.out; omega
      subst ej
      have h := HRES.out
      rw [List.drop_of_length_le (by have := HVN.out; simp; omega), wireRd] at h
      have h := Option.some.inj h
      by_cases hb0 : b.length = 0
      · rw [if_pos hb0] at h
        have hb1 : ((b.length : Int) == 0) = true := by rw [hb0]; rfl
        have hb2 : (b.length == 0) = true := by rw [hb0]; rfl
        rw [hb0]
        go_wp2_with (first | ((go_at_call 27); (with_reducible refine (must_ok _).mono ?_); rintro e wm ⟨rfl, rfl⟩))
        go_end0
        exact ⟨acc, .inl ⟨h.symm, rfl, HAC.out⟩, HPB.out⟩
      · rw [if_neg hb0] at h
        have hb1 : ((b.length : Int) == 0) = false := beq_eq_false_iff_ne.2 (by omega)
        have hb2 : (b.length == 0) = false := beq_eq_false_iff_ne.2 hb0
        go_wp2_with (first | ((go_at_call 27); (with_reducible refine (must_bad _).mono ?_); rintro e wm ⟨rfl, rfl⟩))
        exact ⟨rfl, acc, .inr ⟨h.symm, rfl⟩, HPB.out⟩
    | succ d =>
      have hj : j < n := by have := HK.out; omega
      have hjb : decide ((j : Int) < (n : Int)) = true := decide_eq_true (by omega)
      have hjb' : decide (j < n) = true := decide_eq_true hj
      have hjf : j < fs.length := by have := HVN.out; omega
      have HJF := Aside0.mk hjf
      have hfm := HF.out fs[j] (List.getElem_mem hjf)
      have hcL := lob_cell2 (w := wr) (L := L) (fs := fs) (by
        have hLl := blk_lt HL.out
        rw [HPB.out.block L hLl, wput_far]
        · exact HL.out
        · intro x hx
          obtain ⟨f, hf, e⟩ := puts_mem hx
          obtain ⟨⟨cs, T, h1, h2, _⟩, _⟩ := HF.out f hf
          rw [← e]
          exact blk_ne HL.out h1 (Ne.symm h2)) hjf
      have h := HRES.out
      rw [List.drop_eq_getElem_cons (by simpa using hjf)] at h
      obtain ⟨⟨tx, a⟩, hfa⟩ : ∃ f, fs[j] = f := ⟨_, rfl⟩
      simp only [List.getElem_map] at h
      rw [hfa] at hcL hfm h
      have HFA := Aside0.mk hfa
      dsimp only at hfm h
      clear hfa
      obtain ⟨⟨cs, T, hk1, hk2, hk3⟩, hae⟩ := hfm
      have HAE := Aside0.mk hae
      have hal : a.block < wr.heap.size := Nat.lt_of_lt_of_le (blk_lt hk1) HSZ.out
      have HAL := Aside0.mk hal
      obtain ⟨cs2, hk4, hk5⟩ := wput_blk (puts fs acc) hk1 (fun x hx => by
        obtain ⟨f, hf, e⟩ := puts_mem hx
        rw [← e]
        exact (HF.out f hf).2)
      have hk6 : wr.heap[a.block]? = some (.cells cs2 T (0, 0)) := (HPB.out.block a.block (blk_lt hk1)).trans hk4
      have hcx := blk_cell hk6 a.off
      have hfx := blk_frozen hk6 a.off
      rw [Array.getElem?_eq_getElem (by omega), ← hae] at hcx
      rw [← hae] at hfx
      obtain ⟨y, hy⟩ : ∃ y, cs2[a.off]'(by omega) = y := ⟨_, rfl⟩
      rw [hy] at hcx
      clear hy hk1 hk2 hk3 hk4 hk5 hk6 hae hal
      cases tx with
      | false =>
        unfold fpv at hcL
        rw [if_neg (by simp)] at hcL
        dsimp only at hcL
        rw [wireRd] at h
        obtain ⟨⟨r1, r2, r3⟩, ht, h⟩ := Option.bind_eq_some_iff.mp h
        dsimp only at h
        have HT := Aside0.mk ht
        clear ht
        cases r3 with
        | false =>
          rw [if_neg (by decide)] at h
          go_wp2_with (first | ((with_reducible refine gate_callee (f := 50) rfl ?_); refine goesL_ (some 26) rfl rfl Try.func50 (by kernel_rfl) rfl #[.slice A b.length c] rfl (by (try simp only [List.map_toArray, List.map_cons, List.map_nil]); first | done | rfl) ?_; (with_reducible refine (code_TakeNum.calls k A c b r1 r2 false _ HC.out HCB.out HT.out).mono ?_); rintro e w4 ⟨v4, rfl, ho, hb⟩; refine ⟨_, rfl, ?_⟩; obtain ⟨A4, c4, rfl, hcl, hC4⟩ := Kd.R_reads ho; have HO := Aside0.mk ho; have HB4 := Aside0.mk hb; have HC4 := Aside0.mk hC4; have HCL := Aside0.mk hcl; have hcx4 := (hb.cell HAL.out).trans hcx; have hfx4 := (hb.frozen HAL.out).trans hfx; clear ho hb hC4 hcl hcx hfx hcL) | ((go_at_call 27); (with_reducible refine (must_bad _).mono ?_); rintro e wm ⟨rfl, rfl⟩))
          exact ⟨rfl, acc, .inr ⟨(Option.some.inj h).symm, rfl⟩, HPB.out.trans (HB4.out.mono HSZ.out)⟩
        | true =>
          rw [if_pos rfl] at h
          by_cases hle : r1 ≤ 9223372036854775807
          · rw [if_pos hle] at h
            have hres := h
            have hle1 : decide (r1 ≤ 9223372036854775807) = true := decide_eq_true hle
            clear h hle
            go_wp2_with (first | ((with_reducible refine gate_callee (f := 50) rfl ?_); refine goesL_ (some 26) rfl rfl Try.func50 (by kernel_rfl) rfl #[.slice A b.length c] rfl (by (try simp only [List.map_toArray, List.map_cons, List.map_nil]); first | done | rfl) ?_; (with_reducible refine (code_TakeNum.calls k A c b r1 r2 true _ HC.out HCB.out HT.out).mono ?_); rintro e w4 ⟨v4, rfl, ho, hb⟩; refine ⟨_, rfl, ?_⟩; obtain ⟨A4, c4, rfl, hcl, hC4⟩ := Kd.R_reads ho; have HO := Aside0.mk ho; have HB4 := Aside0.mk hb; have HC4 := Aside0.mk hC4; have HCL := Aside0.mk hcl; have hcx4 := (hb.cell HAL.out).trans hcx; have hfx4 := (hb.frozen HAL.out).trans hfx; clear ho hb hC4 hcl hcx hfx hcL) | ((go_at_call 27); (with_reducible refine (must_ok _).mono ?_); rintro e wm ⟨rfl, rfl⟩))
            have hsz4 := HB4.out.size
            go_wp2
            go_roundg d
            case measure => omega
            case rel =>
              refine ⟨j + 1, A4, c4, r2, acc ++ [.inl (wrap64 r1)], by first | rfl, by first | rfl | (rw [show wrap64 ((j : Int) + 1) = ((j + 1 : Nat) : Int) from by unfold wrap64; omega]), ⟨by have := HK.out; omega⟩, ⟨?_⟩, HCL, ⟨?_⟩, ⟨hres⟩, ⟨?_⟩, ⟨?_⟩, ⟨?_⟩⟩
              · exact Kd.C_keep 0 HC4.out ((KeepBut.refl _ a.block none).set_ a.off _ |> fun h => by rw [← HAE.out] at h; exact h) (fun ad e _ => row_ne HO.out a.block HAL.out ad e)
              · intro ad e _ f hf
                exact row_ne HO.out f.2.block (Nat.lt_of_lt_of_le (blk_lt (HF.out f hf).1.choose_spec.choose_spec.1) HSZ.out) ad e
              · simp; exact HAC.out
              · rw [puts_snoc _ _ _ (by rw [HAC.out]; exact HJF.out), wput_snoc, show fs[acc.length]'(by rw [HAC.out]; exact HJF.out) = (false, a) from by rw [← HFA.out]; congr 1; exact HAC.out]
                exact below_both (HPB.out.trans (HB4.out.mono HSZ.out)) _ _
              · exact Nat.le_trans HSZ.out (by simpa [World.setCell] using hsz4)
          · rw [if_neg hle] at h
            have hle1 : decide (r1 ≤ 9223372036854775807) = false := decide_eq_false hle
            clear hle
            go_wp2_with (first | ((with_reducible refine gate_callee (f := 50) rfl ?_); refine goesL_ (some 26) rfl rfl Try.func50 (by kernel_rfl) rfl #[.slice A b.length c] rfl (by (try simp only [List.map_toArray, List.map_cons, List.map_nil]); first | done | rfl) ?_; (with_reducible refine (code_TakeNum.calls k A c b r1 r2 true _ HC.out HCB.out HT.out).mono ?_); rintro e w4 ⟨v4, rfl, ho, hb⟩; refine ⟨_, rfl, ?_⟩; obtain ⟨A4, c4, rfl, hcl, hC4⟩ := Kd.R_reads ho; have HO := Aside0.mk ho; have HB4 := Aside0.mk hb; have HC4 := Aside0.mk hC4; have HCL := Aside0.mk hcl; have hcx4 := (hb.cell HAL.out).trans hcx; have hfx4 := (hb.frozen HAL.out).trans hfx; clear ho hb hC4 hcl hcx hfx hcL) | ((go_at_call 27); (with_reducible refine (must_bad _).mono ?_); rintro e wm ⟨rfl, rfl⟩))
            exact ⟨rfl, acc, .inr ⟨(Option.some.inj h).symm, rfl⟩, HPB.out.trans (HB4.out.mono HSZ.out)⟩
      | true =>
        unfold fpv at hcL
        rw [if_pos (by simp)] at hcL
        dsimp only at hcL
        rw [wireRd] at h
        obtain ⟨⟨r1, r2, r3⟩, ht, h⟩ := Option.bind_eq_some_iff.mp h
        dsimp only at h
        have HT := Aside0.mk ht
        clear ht
        cases r3 with
        | false =>
          rw [if_neg (by decide)] at h
          go_wp2_with (first | ((with_reducible refine gate_callee (f := 51) rfl ?_); refine goesL_ (some 46) rfl rfl Try.func51 (by kernel_rfl) rfl #[.slice A b.length c, .int .i64 4096] rfl (by (try simp only [List.map_toArray, List.map_cons, List.map_nil]); first | done | rfl) ?_; (with_reducible refine (code_TakeText.calls k A c b 4096 r1 r2 false _ HC.out HCB.out HT.out).mono ?_); rintro e w4 ⟨v4, rfl, ho, hb⟩; refine ⟨_, rfl, ?_⟩; obtain ⟨A4, c4, rfl, hcl, hC4⟩ := Kd.R_reads ho; have HO := Aside0.mk ho; have HB4 := Aside0.mk hb; have HC4 := Aside0.mk hC4; have HCL := Aside0.mk hcl; have hcx4 := (hb.cell HAL.out).trans hcx; have hfx4 := (hb.frozen HAL.out).trans hfx; clear ho hb hC4 hcl hcx hfx hcL) | ((go_at_call 27); (with_reducible refine (must_bad _).mono ?_); rintro e wm ⟨rfl, rfl⟩))
          exact ⟨rfl, acc, .inr ⟨(Option.some.inj h).symm, rfl⟩, HPB.out.trans (HB4.out.mono HSZ.out)⟩
        | true =>
          rw [if_pos rfl] at h
          have hres := h
          clear h
          go_wp2_with (first | ((with_reducible refine gate_callee (f := 51) rfl ?_); refine goesL_ (some 46) rfl rfl Try.func51 (by kernel_rfl) rfl #[.slice A b.length c, .int .i64 4096] rfl (by (try simp only [List.map_toArray, List.map_cons, List.map_nil]); first | done | rfl) ?_; (with_reducible refine (code_TakeText.calls k A c b 4096 r1 r2 true _ HC.out HCB.out HT.out).mono ?_); rintro e w4 ⟨v4, rfl, ho, hb⟩; refine ⟨_, rfl, ?_⟩; obtain ⟨A4, c4, rfl, hcl, hC4⟩ := Kd.R_reads ho; have HO := Aside0.mk ho; have HB4 := Aside0.mk hb; have HC4 := Aside0.mk hC4; have HCL := Aside0.mk hcl; have hcx4 := (hb.cell HAL.out).trans hcx; have hfx4 := (hb.frozen HAL.out).trans hfx; clear ho hb hC4 hcl hcx hfx hcL) | ((go_at_call 27); (with_reducible refine (must_ok _).mono ?_); rintro e wm ⟨rfl, rfl⟩))
          have hsz4 := HB4.out.size
          go_wp2
          go_roundg d
          case measure => omega
          case rel =>
            refine ⟨j + 1, A4, c4, r2, acc ++ [.inr r1], by first | rfl, by first | rfl | (rw [show wrap64 ((j : Int) + 1) = ((j + 1 : Nat) : Int) from by unfold wrap64; omega]), ⟨by have := HK.out; omega⟩, ⟨?_⟩, HCL, ⟨?_⟩, ⟨hres⟩, ⟨?_⟩, ⟨?_⟩, ⟨?_⟩⟩
            · exact Kd.C_keep 0 HC4.out ((KeepBut.refl _ a.block none).set_ a.off _ |> fun h => by rw [← HAE.out] at h; exact h) (fun ad e _ => row_ne HO.out a.block HAL.out ad e)
            · intro ad e _ f hf
              exact row_ne HO.out f.2.block (Nat.lt_of_lt_of_le (blk_lt (HF.out f hf).1.choose_spec.choose_spec.1) HSZ.out) ad e
            · simp; exact HAC.out
            · rw [puts_snoc _ _ _ (by rw [HAC.out]; exact HJF.out), wput_snoc, show fs[acc.length]'(by rw [HAC.out]; exact HJF.out) = (true, a) from by rw [← HFA.out]; congr 1; exact HAC.out]
              exact below_both (HPB.out.trans (HB4.out.mono HSZ.out)) _ _
            · exact Nat.le_trans HSZ.out (by simpa [World.setCell] using hsz4)

theorem wput_below {B : Nat} {a : World} (l : List (Addr × Value)) (w : World) (hB : Below B a w) (hl : ∀ x ∈ l, B ≤ x.1.block) : Below B a (wput l w) := by
  induction l generalizing w with
  | nil => exact hB
  | cons y l ih => exact ih _ (hB.setCell (hl y List.mem_cons_self) _) (fun x hx => hl x (List.mem_cons_of_mem _ hx))
theorem read_after {fs : List (Bool × Addr)} {vs : List (Int ⊕ ByteArray)} {w0 w w8 : World} {B : Nat} (hB : Below B w0 w) (hBs : B ≤ w.heap.size) (hb : Below w.heap.size (wput (puts fs vs) w) w8) (hfs : ∀ f ∈ fs, B ≤ f.2.block ∧ f.2 = ⟨f.2.block, f.2.off, none⟩) :
    Below B w0 w8 ∧ (∀ g o, w.heap[g]? = some o → (∀ f ∈ fs, f.2.block ≠ g) → w8.heap[g]? = some o) ∧ (∀ (g : Nat) (cs : Array Value) (T : TypeId), w.heap[g]? = some (.cells cs T (0, 0)) → ∃ cs', w8.heap[g]? = some (.cells cs' T (0, 0)) ∧ cs'.size = cs.size) := by
  refine ⟨(wput_below _ w hB (fun x hx => ?_)).trans (hb.mono hBs), fun g o hg hf => ?_, fun g cs T hg => ?_⟩
  · obtain ⟨f, hf, e⟩ := puts_mem hx
    rw [← e]
    exact (hfs f hf).1
  · rw [hb.block g (blk_lt hg), wput_far]
    · exact hg
    · intro x hx
      obtain ⟨f, hf', e⟩ := puts_mem hx
      rw [← e]
      exact Ne.symm (hf f hf')
  · rw [hb.block g (blk_lt hg)]
    refine wput_blk _ hg (fun x hx => ?_)
    obtain ⟨f, hf', e⟩ := puts_mem hx
    rw [← e]
    exact (hfs f hf').2
theorem wireRd_kinds (k : Nat) : ∀ (ts : List Bool) (b : List Int) (acc vs : List (Int ⊕ ByteArray)), wireRd k ts b acc = some (some vs) → ∃ us, vs = acc ++ us ∧ us.map isTx = ts
  | [], b, acc, vs, h => by
    rw [wireRd] at h
    split at h
    · simp at h; exact ⟨[], by simp [h], rfl⟩
    · simp at h
  | false :: ts, b, acc, vs, h => by
    rw [wireRd] at h
    obtain ⟨r, hr, h⟩ := Option.bind_eq_some_iff.mp h
    split at h
    · split at h
      · obtain ⟨us, rfl, hu⟩ := wireRd_kinds k ts _ _ _ h
        exact ⟨.inl (wrap64 r.1) :: us, by simp, by simp [hu, isTx]⟩
      · simp at h
    · simp at h
  | true :: ts, b, acc, vs, h => by
    rw [wireRd] at h
    obtain ⟨r, hr, h⟩ := Option.bind_eq_some_iff.mp h
    split at h
    · obtain ⟨us, rfl, hu⟩ := wireRd_kinds k ts _ _ _ h
      exact ⟨.inr r.1 :: us, by simp, by simp [hu, isTx]⟩
    · simp at h

theorem wireRd_mono : ∀ (l : List Bool) (b : List Int) (acc : List (Int ⊕ ByteArray)) (k : Nat), LeO (wireRd k l b acc) (wireRd (k + 1) l b acc)
  | [], b, acc, k => LeO.refl _
  | false :: l, b, acc, k => by
    rw [wireRd, wireRd]
    exact LeO.bind (code_TakeNum.mono _ k) (fun t => LeO.ite (LeO.ite (wireRd_mono l _ _ k) (LeO.refl _)) (LeO.refl _))
  | true :: l, b, acc, k => by
    rw [wireRd, wireRd]
    exact LeO.bind (code_TakeText.mono _ _ k) (fun t => LeO.ite (wireRd_mono l _ _ k) (LeO.refl _))

/-! ### ours: wireG -/

set_option maxHeartbeats 4000000 in
set_option maxRecDepth 100000 in
theorem wkind_ok (k : Nat) (A0 : Option Addr) (c0 : Nat) (l0 : List Int) (r1 : Int) (r2 : List Int) (w : World) (hr0 : Kd.C (Kd.int .u8) w A0 l0.length l0) (hc0 : l0.length ≤ c0) (h : code_TakeNum.f k l0 = some (r1, r2, true)) (hle : r1 ≤ 1000) :
    Calls Try.prog 34 #[.slice A0 l0.length c0] w fun e w' => ∃ A c, e = .returned (.tuple #[.int .i64 (wrap64 r1), .slice A r2.length c]) ∧ Kd.R (Kd.int .u8) 5 w' w.heap.size (fun _ => True) (.slice A r2.length c) r2 ∧ r2.length ≤ c ∧ Kd.C (Kd.int .u8) w' A r2.length r2 ∧ Below w.heap.size w w' := by
  have HC := Aside0.mk hr0
  have HT := Aside0.mk h
  have HCL := Aside0.mk hc0
  have hle1 : decide (r1 ≤ 1000) = true := decide_eq_true hle
  clear hr0 h hc0 hle
  go_enter Try.func34, Try.ntmps34
  go_wp2_with (first | ((with_reducible refine gate_callee (f := 50) rfl ?_); refine goesL_ (some 9) rfl rfl Try.func50 (by kernel_rfl) rfl #[.slice A0 l0.length c0] rfl (by (try simp only [List.map_toArray, List.map_cons, List.map_nil]); first | done | rfl) ?_; (with_reducible refine (code_TakeNum.calls k A0 c0 l0 r1 r2 true _ HC.out HCL.out HT.out).mono ?_); rintro e w4 ⟨v4, rfl, ho, hb⟩; refine ⟨_, rfl, ?_⟩; obtain ⟨A4, c4, rfl, hcl, hC4⟩ := Kd.R_reads ho; have HO := Aside0.mk ho; have HB4 := Aside0.mk hb; have HC4 := Aside0.mk hC4; have HCL4 := Aside0.mk hcl; clear ho hb hC4 hcl) | ((go_at_call 27); (with_reducible refine (must_ok _).mono ?_); rintro e wm ⟨rfl, rfl⟩))
  go_ret2
  exact ⟨_, _, rfl, HO.out, HCL4.out, HC4.out, HB4.out⟩
set_option maxHeartbeats 4000000 in
set_option maxRecDepth 100000 in
theorem wkind_bad (k : Nat) (A0 : Option Addr) (c0 : Nat) (l0 : List Int) (r1 : Int) (r2 : List Int) (r3 : Bool) (w : World) (hr0 : Kd.C (Kd.int .u8) w A0 l0.length l0) (hc0 : l0.length ≤ c0) (h : code_TakeNum.f k l0 = some (r1, r2, r3)) (hle : ¬ (r3 = true ∧ r1 ≤ 1000)) :
    Calls Try.prog 34 #[.slice A0 l0.length c0] w fun e w' => e = .panicked wbad ∧ Below w.heap.size w w' := by
  have HC := Aside0.mk hr0
  have HT := Aside0.mk h
  have HCL := Aside0.mk hc0
  clear hr0 h hc0
  go_enter Try.func34, Try.ntmps34
  cases r3 with
  | false =>
    go_wp2_with (first | ((with_reducible refine gate_callee (f := 50) rfl ?_); refine goesL_ (some 9) rfl rfl Try.func50 (by kernel_rfl) rfl #[.slice A0 l0.length c0] rfl (by (try simp only [List.map_toArray, List.map_cons, List.map_nil]); first | done | rfl) ?_; (with_reducible refine (code_TakeNum.calls k A0 c0 l0 r1 r2 false _ HC.out HCL.out HT.out).mono ?_); rintro e w4 ⟨v4, rfl, ho, hb⟩; refine ⟨_, rfl, ?_⟩; obtain ⟨A4, c4, rfl, hcl, hC4⟩ := Kd.R_reads ho; have HO := Aside0.mk ho; have HB4 := Aside0.mk hb; have HC4 := Aside0.mk hC4; have HCL4 := Aside0.mk hcl; clear ho hb hC4 hcl) | ((go_at_call 27); (with_reducible refine (must_bad _).mono ?_); rintro e wm ⟨rfl, rfl⟩))
    exact ⟨rfl, rfl, HB4.out⟩
  | true =>
    have hle1 : decide (r1 ≤ 1000) = false := decide_eq_false (fun h => hle ⟨rfl, h⟩)
    clear hle
    go_wp2_with (first | ((with_reducible refine gate_callee (f := 50) rfl ?_); refine goesL_ (some 9) rfl rfl Try.func50 (by kernel_rfl) rfl #[.slice A0 l0.length c0] rfl (by (try simp only [List.map_toArray, List.map_cons, List.map_nil]); first | done | rfl) ?_; (with_reducible refine (code_TakeNum.calls k A0 c0 l0 r1 r2 true _ HC.out HCL.out HT.out).mono ?_); rintro e w4 ⟨v4, rfl, ho, hb⟩; refine ⟨_, rfl, ?_⟩; obtain ⟨A4, c4, rfl, hcl, hC4⟩ := Kd.R_reads ho; have HO := Aside0.mk ho; have HB4 := Aside0.mk hb; have HC4 := Aside0.mk hC4; have HCL4 := Aside0.mk hcl; clear ho hb hC4 hcl) | ((go_at_call 27); (with_reducible refine (must_bad _).mono ?_); rintro e wm ⟨rfl, rfl⟩))
    exact ⟨rfl, rfl, HB4.out⟩

theorem len1 {α : Type} {l : List α} (h : l.length = 1) : ∃ a, l = [a] := by match l, h with | [a], _ => exact ⟨a, rfl⟩
theorem len2 {α : Type} {l : List α} (h : l.length = 2) : ∃ a b, l = [a, b] := by match l, h with | [a, b], _ => exact ⟨a, b, rfl⟩
theorem len3 {α : Type} {l : List α} (h : l.length = 3) : ∃ a b c, l = [a, b, c] := by match l, h with | [a, b, c], _ => exact ⟨a, b, c, rfl⟩
theorem len4 {α : Type} {l : List α} (h : l.length = 4) : ∃ a b c d, l = [a, b, c, d] := by match l, h with | [a, b, c, d], _ => exact ⟨a, b, c, d, rfl⟩
def getN : List Nat → List (Int ⊕ ByteArray) → Nat → Int
  | o' :: os, v :: vs, o => if o' = o then (match v with | .inl n => n | .inr _ => 0) else getN os vs o
  | _, _, _ => 0
def getS : List Nat → List (Int ⊕ ByteArray) → Nat → ByteArray
  | o' :: os, v :: vs, o => if o' = o then (match v with | .inl _ => ⟨#[]⟩ | .inr s => s) else getS os vs o
  | _, _, _ => ⟨#[]⟩
theorem wput_cells (l : List (Nat × Value)) {w : World} {g : Nat} {cs : Array Value} {T : TypeId} (h : w.heap[g]? = some (.cells cs T (0, 0))) : (wput (l.map fun x => (⟨g, x.1, none⟩, x.2)) w).heap[g]? = some (.cells (l.foldl (fun c x => c.setIfInBounds x.1 x.2) cs) T (0, 0)) := by
  induction l generalizing w cs with
  | nil => exact h
  | cons y l ih => exact ih (blk_set h y.1 y.2)
theorem puts_fps (t g : Nat) (os : List Nat) (vs : List (Int ⊕ ByteArray)) : puts (fps t g os) vs = (List.zip os (vs.map fval)).map fun x => (⟨g, x.1, none⟩, x.2) := by
  unfold puts fps
  rw [List.map_map, show ((fun x : Bool × Addr => x.2) ∘ fun o => (o == t, (⟨g, o, none⟩ : Addr))) = (fun o => (⟨g, o, none⟩ : Addr)) from rfl, List.zip_map_left]
  rfl
theorem fps_fst (t g : Nat) (os : List Nat) : (fps t g os).map (·.1) = os.map (· == t) := by simp [fps, Function.comp_def]
theorem kinds_cons {v : Int ⊕ ByteArray} {b : Bool} (h : isTx v = b) : if b = true then ∃ s, v = .inr s else ∃ n, v = .inl n := by
  subst h
  cases v with
  | inl n => rw [if_neg (by simp [isTx])]; exact ⟨n, rfl⟩
  | inr s => rw [if_pos (by simp [isTx])]; exact ⟨s, rfl⟩

end Go.Proofs.Ytklnnmgfoebbhaa.PWireOnly
