-- Written by wip/xprint of this repo (our own program) out of the translation; what is marked BY HAND is ours. Not trusted: Lean checks it.
import Derived.Test.YtklnnmgfoebbhaaPWireMsgsx0
namespace Go.Proofs.Ytklnnmgfoebbhaa.PWireMsgs
open Go.RowKit Go.Proofs.YtklnnmgfoebbhaaW.PrintWords Go.Proofs.YtklnnmgfoebbhaaW.PrintLast Go.Proofs.YtklnnmgfoebbhaaW.PrintMore
attribute [local go_sem] max2_int min2_int max_two min_two max_three min_three max_four min_four   -- for this text's walks alone
set_option linter.unusedVariables false
set_option linter.unusedSimpArgs false

/-! ### lienlaw22_short: function 8 -/
def lienlaw22_short.f (a0 : ByteArray) : Option (ByteArray) := if (a0.size : Int) > 5000 then (if 0 ≤ 5000 then (if 5000 ≤ (a0.size : Int) then (some (a0.extract 0 5000)) else (none)) else (none)) else (some a0)
set_option maxHeartbeats 8000000 in
set_option maxRecDepth 100000 in
theorem lienlaw22_short.calls (a0 : ByteArray) (r : ByteArray) (w : World) (h : lienlaw22_short.f a0 = some r) :
    Calls Try.prog 8 #[.string a0] w fun e w' => e = .returned (.string r) ∧ Drawn0 w w' := by
  have H : (if (a0.size : Int) > 5000 then (if 0 ≤ 5000 then (if 5000 ≤ (a0.size : Int) then (some (a0.extract 0 5000)) else (none)) else (none)) else (some a0)) = some r := h
  clear h
  by_cases c2 : (a0.size : Int) > 5000
  · rw [if_pos c2] at H
    have c2b0 : decide (5000 < (a0.size : Int)) = true := decide_eq_true c2
    have c2b1 : decide (5000 < a0.size) = true := decide_eq_true (by omega)
    clear c2
    by_cases c3 : 0 ≤ 5000
    · rw [if_pos c3] at H
      have c3b0 := eq_true c3
      have c3b1 : decide (0 ≤ 5000) = true := decide_eq_true c3
      clear c3
      by_cases c4 : 5000 ≤ (a0.size : Int)
      · rw [if_pos c4] at H
        have c4b0 := eq_true c4
        have c4b1 : decide (5000 ≤ (a0.size : Int)) = true := decide_eq_true c4
        clear c4
        obtain rfl := Option.some.inj H
        go_enter Try.func8, Try.ntmps8
        go_wp2
        go_ret
        exact ⟨by first | rfl | (simp; done) | (simp [*]; done), by repeat (first | exact Drawn0.refl _ | apply Drawn0.step)⟩
      · rw [if_neg c4] at H
        exact absurd H (by simp)
    · rw [if_neg c3] at H
      exact absurd H (by simp)
  · rw [if_neg c2] at H
    have c2b0 : decide (5000 < (a0.size : Int)) = false := decide_eq_false c2
    have c2b1 : decide (5000 < a0.size) = false := decide_eq_false (by omega)
    clear c2
    obtain rfl := Option.some.inj H
    go_enter Try.func8, Try.ntmps8
    go_wp2
    go_ret
    exact ⟨by first | rfl | (simp; done) | (simp [*]; done), by repeat (first | exact Drawn0.refl _ | apply Drawn0.step)⟩

/-! ### lienlaw22_cut: function 9 -/
def lienlaw22_cut.f (l0 : List Int) : Option (List Int) := if (l0.length : Int) > 5000 then (if 5000 ≤ (l0.length : Int) then (some (l0.take 5000)) else (none)) else (some l0)
set_option maxHeartbeats 8000000 in
set_option maxRecDepth 100000 in
theorem lienlaw22_cut.calls (P0_ : Nat → Prop) (A0 : Option Addr) (c0 : Nat) (l0 : List Int) (r : List Int) (w : World) (hs0 : Kd.V (Kd.int .u8) 5 w w.heap.size (fun k_ => P0_ k_) (.slice A0 l0.length c0) l0) (h : lienlaw22_cut.f l0 = some r) :
    Calls Try.prog 9 #[.slice A0 l0.length c0] w fun e w' => ∃ v0_ : Value, e = .returned (v0_) ∧ Kd.V (Kd.int .u8) 5 w' w.heap.size (fun k_ => (P0_ k_ ∨ w.heap.size ≤ k_)) v0_ r ∧ Below w.heap.size w w' := by
  have HO0 := Aside0.mk (show Kd.V (Kd.int .u8) 5 w w.heap.size (fun k_ => (P0_ k_ ∨ w.heap.size ≤ k_)) (.slice A0 l0.length c0) l0 from Kd.V_mono hs0 (fun k_ hk => .inl hk))
  have HB := Aside0.mk (Below.refl w.heap.size w)
  have H : (if (l0.length : Int) > 5000 then (if 5000 ≤ (l0.length : Int) then (some (l0.take 5000)) else (none)) else (some l0)) = some r := h
  clear h
  by_cases c2 : (l0.length : Int) > 5000
  · rw [if_pos c2] at H
    have c2b0 : decide (5000 < (l0.length : Int)) = true := decide_eq_true c2
    have c2b1 : decide (5000 < l0.length) = true := decide_eq_true (by omega)
    clear c2
    by_cases c3 : 5000 ≤ (l0.length : Int)
    · rw [if_pos c3] at H
      have c3b0 := eq_true c3
      have c3b1 : decide (5000 ≤ (l0.length : Int)) = true := decide_eq_true c3
      clear c3
      obtain ⟨y101, hy101⟩ : ∃ y_ : List Int, y_ = (l0.take 5000) := ⟨_, rfl⟩
      replace H : (some y101) = some r := by first | (rw [hy101]; with_reducible exact H) | (have H2_ := (Option.bind_some _ _).symm.trans H; rw [hy101]; with_reducible exact H2_) | (have H2_ := (Option.bind_some _ _).symm.trans H; with_reducible exact H2_) | with_reducible exact H | (rw [hy101]; exact H) | exact H
      have Ny101 := Aside0.mk hy101
      clear hy101
      obtain rfl := Option.some.inj H
      have q4 : (5000 : Int) ≤ ((l0.length : Int) : Int) := of_decide_eq_true (by first | (with_reducible assumption) | assumption)
      obtain ⟨i04, hi04, _, hsz4, _⟩ := info_parts info5
      have hroom4 : l0.length ≤ c0 := (Kd.V_reads' HO0.out).2.1
      have hC4 : Kd.F (Kd.int .u8) _ _ A0 l0.length l0 := (Kd.V_at (base := w.heap.size) HO0.out).2.2
      have hcut4 := cut_to (P := Try.prog) 25 5 .i64 Try.underlying25 hi04 A0 l0.length c0 5000 (by omega) q4 hroom4
      have hr4 := Kd.F_take (m := 5000) hC4 (by omega)
      have hy4 : y101.length = (5000 : Int).toNat := (by rw [Ny101.out, List.length_take]; omega)
      rw [← Ny101.out] at hr4
      rw [← hy4] at hcut4
      have HO105 := Aside0.mk (show Kd.V (Kd.int .u8) 5 _ w.heap.size _ (.slice A0 y101.length c0) y101 from Kd.V_mk (by omega) hr4)
      have HC105 := Aside0.mk (show y101.length ≤ c0 from by omega)
      clear hr4 hC4 hroom4 hi04 hsz4
      have KY4 := Aside0.mk hy4
      clear hy4
      replace q4 := eq_true q4
      go_enter Try.func9, Try.ntmps9
      go_wp2
      go_ret
      exact ⟨_, by first | rfl | (simp [errW_none, errW_some] <;> rfl) | (simp [*, errW_none, errW_some] <;> rfl), by (with_reducible repeat (first | apply Kd.V_alloc | apply Kd.V_drewN | apply Kd.V_drew)); exact HO105.out, by repeat (first | (with_reducible first | exact HB.out | apply below_alloc | apply pw_below_drewN | apply below_drew1) | exact HB.out)⟩
    · rw [if_neg c3] at H
      exact absurd H (by simp)
  · rw [if_neg c2] at H
    have c2b0 : decide (5000 < (l0.length : Int)) = false := decide_eq_false c2
    have c2b1 : decide (5000 < l0.length) = false := decide_eq_false (by omega)
    clear c2
    obtain rfl := Option.some.inj H
    go_enter Try.func9, Try.ntmps9
    go_wp2
    go_ret
    exact ⟨_, by first | rfl | (simp [errW_none, errW_some] <;> rfl) | (simp [*, errW_none, errW_some] <;> rfl), by (with_reducible repeat (first | apply Kd.V_alloc | apply Kd.V_drewN | apply Kd.V_drew)); exact HO0.out, by repeat (first | (with_reducible first | exact HB.out | apply below_alloc | apply pw_below_drewN | apply below_drew1) | exact HB.out)⟩

-- NOT PRINTED: function 24 (wire_caught)

-- NOT PRINTED: function 25 (wire_parts)

-- NOT PRINTED: function 26 (wire_copied)

-- NOT PRINTED: function 27 (wire_must)

/-! ### code_Num: function 29 -/
def code_Num.l0 : Nat → Int → List Int → Option (List Int)
  | 0, _, _ => none
  | k + 1, x0, x3 => if x0 ≥ 128 then (if x3.length < 140737488355328 then (code_Num.l0 k (x0 / 128) (x3 ++ [Go.bits .or .u8 ((Go.bits .and .u64 x0 127) % 256) 128])) else (none)) else (if x3.length < 140737488355328 then (some (x3 ++ [(x0) % 256])) else (none))
def code_Num.f (k : Nat) (a0 : Int) : Option (List Int) := code_Num.l0 k a0 ([] : List Int)
theorem code_Num.mono_l : ∀ k, (∀ y0 y1, LeO (code_Num.l0 k y0 y1) (code_Num.l0 (k + 1) y0 y1))
  | 0 => fun _ _ r h => by simp [code_Num.l0] at h
  | k + 1 => by
    have ih0 := code_Num.mono_l k
    · intro y0 y1
      unfold code_Num.l0
      repeat' first
      | (with_reducible exact ih0 _ _)
      | (with_reducible exact LeO.refl _)
      | (with_reducible exact LeO.none _)
      | (with_reducible refine LeO.ite ?_ ?_)
      | (with_reducible refine LeO.bind ?_ (fun _ => ?_))
      | exact ih0 _ _
      | exact LeO.none _
      | refine LeO.ite ?_ ?_
      | refine LeO.bind ?_ (fun _ => ?_)
theorem code_Num.mono : ∀ a0 k, LeO (code_Num.f k a0) (code_Num.f (k + 1) a0) := by
  intro a0 k
  have ih0 := code_Num.mono_l k
  unfold code_Num.f
  repeat' first
      | (with_reducible exact ih0 _ _)
      | (with_reducible exact LeO.refl _)
      | (with_reducible exact LeO.none _)
      | (with_reducible refine LeO.ite ?_ ?_)
      | (with_reducible refine LeO.bind ?_ (fun _ => ?_))
      | exact ih0 _ _
      | exact LeO.none _
      | refine LeO.ite ?_ ?_
      | refine LeO.bind ?_ (fun _ => ?_)
set_option maxHeartbeats 8000000 in
set_option maxRecDepth 100000 in
theorem code_Num.calls (k : Nat) (a0 : Int) (r : List Int) (w : World) (h : code_Num.f k a0 = some r) :
    Calls Try.prog 29 #[.int .u64 a0] w fun e w' => ∃ v0_ : Value, e = .returned (v0_) ∧ Kd.R (Kd.int .u8) 5 w' w.heap.size (fun _ => True) v0_ r ∧ Below w.heap.size w w' := by
  have HB := Aside0.mk (Below.refl w.heap.size w)
  have H : (code_Num.l0 k a0 ([] : List Int)) = some r := h
  clear h
  have H' := Aside0.mk H
  clear H
  go_enter Try.func29, Try.ntmps29
  go_wp2
  go_loopg [0, 3] k (fun kq v0 v3 w' => ∃ (x0_1 : Int) (x3_1 : List Int), v0 = .int .u64 x0_1 ∧ Aside0 (code_Num.l0 kq x0_1 x3_1 = some r) ∧ Aside0 (kq ≤ k) ∧ Aside0 (Kd.R (Kd.int .u8) 5 w' w.heap.size (fun _ => True) v3 x3_1) ∧ Aside0 (Below w.heap.size w w'))
  case atStart => exact ⟨(a0), (([] : List Int)), (by first | rfl | (simp; done) | (simp [*]; done)), H', ⟨Nat.le_refl _⟩, ⟨by first | exact Kd.R_nil _ _ _ _ _ | exact Kd.N_nil _ _ _ _ _ | exact Kd.V_nil _ _ _ _ _ | exact Kd.Q_nil _ _ _ _ _ | exact Kd.S_nil _ _ _ _ _⟩, ⟨by repeat (first | (with_reducible first | exact HB.out | apply below_alloc | apply pw_below_drewN | apply below_drew1) | exact HB.out)⟩⟩
  case round =>
    clear H'
    obtain ⟨x0_1, x3_1, rfl, HA, HK1, HO_3, HB⟩ := hrel
    cases gk with
    | zero => exact absurd HA.out (by simp [code_Num.l0])
    | succ k1 =>
      have H := HA.out
      clear HA
      simp only [code_Num.l0] at H
      by_cases c2 : x0_1 ≥ 128
      · rw [if_pos c2] at H
        have c2b0 : decide (128 ≤ x0_1) = true := decide_eq_true c2
        clear c2
        by_cases c3 : x3_1.length < 140737488355328
        · rw [if_pos c3] at H
          have LMc3 := Aside0.mk c3
          clear c3
          obtain ⟨y106, hy106⟩ : ∃ y_ : List Int, y_ = (x3_1 ++ [Go.bits .or .u8 ((Go.bits .and .u64 x0_1 127) % 256) 128]) := ⟨_, rfl⟩
          replace H : (code_Num.l0 k1 (x0_1 / 128) y106) = some r := by first | (rw [hy106]; with_reducible exact H) | (have H2_ := (Option.bind_some _ _).symm.trans H; rw [hy106]; with_reducible exact H2_) | (have H2_ := (Option.bind_some _ _).symm.trans H; with_reducible exact H2_) | with_reducible exact H | (rw [hy106]; exact H) | exact H
          have Ny106 := Aside0.mk hy106
          clear hy106
          have H' := Aside0.mk H
          clear H
          go_wp2_with (first | ((with_reducible refine gate_builtin (b := .append) (xs := #[.tmp 6, .tmp 11]) rfl ?_); at_builtin; refine Kd.R_append (Kd.int .u8) (w0 := w) w.heap.size rfl (.tmp 6) (.tmp 11) 25 5 (.int .u8 0) 1 rfl Try.underlying25 info5 rfl (by decide) (by omega) u3 x3_1 (Go.bits .or .u8 ((Go.bits .and .u64 x0_1 127) % 256) 128) [.int .u8 (Go.bits .or .u8 ((Go.bits .and .u64 x0_1 127) % 256) 128)] (fun _ => True) (fun _ => False) rfl rfl ?aP (fun _ hk => hk.elim) ?aF ?aO ?aB ?aS ?aL ?_; (case aP => exact rfl); (case aB => exact (by repeat (first | (with_reducible first | exact HB.out | apply below_alloc | apply pw_below_drewN | apply below_drew1) | exact HB.out))); (case aF => exact (fun _ _ => trivial)); (case aO => exact (by (with_reducible repeat (first | apply Kd.R_alloc | apply Kd.R_drewN | apply Kd.R_drew)); exact HO_3.out)); (case aS => exact (below_size (by repeat (first | (with_reducible first | exact HB.out | apply below_alloc | apply pw_below_drewN | apply below_drew1) | exact HB.out)))); (case aL => have := LMc3.out; omega); intro v107 w4 ho hb hg hat; rw [← Ny106.out] at ho; have n0_ := Aside0.mk (hb); have n1_ := Aside0.mk (ho); clear HB; clear HO_3; have HB := n0_; have HO108 := n1_; clear n0_ n1_; clear ho hb hg hat))
          go_roundg k1
          case measure => have := HK1.out; omega
          case rel => exact ⟨(x0_1 / 128), (y106), (by first | rfl | (simp; done) | (simp [*]; done)), H', ⟨by have := HK1.out; omega⟩, ⟨by (with_reducible repeat (first | apply Kd.R_alloc | apply Kd.R_drewN | apply Kd.R_drew)); exact HO108.out⟩, ⟨by repeat (first | (with_reducible first | exact HB.out | apply below_alloc | apply pw_below_drewN | apply below_drew1) | exact HB.out)⟩⟩
        · rw [if_neg c3] at H
          exact absurd H (by simp)
      · rw [if_neg c2] at H
        have c2b0 : decide (128 ≤ x0_1) = false := decide_eq_false c2
        clear c2
        by_cases c5 : x3_1.length < 140737488355328
        · rw [if_pos c5] at H
          have LMc5 := Aside0.mk c5
          clear c5
          obtain ⟨y109, hy109⟩ : ∃ y_ : List Int, y_ = (x3_1 ++ [(x0_1) % 256]) := ⟨_, rfl⟩
          replace H : (some y109) = some r := by first | (rw [hy109]; with_reducible exact H) | (have H2_ := (Option.bind_some _ _).symm.trans H; rw [hy109]; with_reducible exact H2_) | (have H2_ := (Option.bind_some _ _).symm.trans H; with_reducible exact H2_) | with_reducible exact H | (rw [hy109]; exact H) | exact H
          have Ny109 := Aside0.mk hy109
          clear hy109
          obtain rfl := Option.some.inj H
          go_wp2_with (first | ((with_reducible refine gate_builtin (b := .append) (xs := #[.tmp 15, .tmp 18]) rfl ?_); at_builtin; refine Kd.R_append (Kd.int .u8) (w0 := w) w.heap.size rfl (.tmp 15) (.tmp 18) 25 5 (.int .u8 0) 1 rfl Try.underlying25 info5 rfl (by decide) (by omega) u3 x3_1 ((x0_1) % 256) [.int .u8 ((x0_1) % 256)] (fun _ => True) (fun _ => False) rfl rfl ?aP (fun _ hk => hk.elim) ?aF ?aO ?aB ?aS ?aL ?_; (case aP => exact rfl); (case aB => exact (by repeat (first | (with_reducible first | exact HB.out | apply below_alloc | apply pw_below_drewN | apply below_drew1) | exact HB.out))); (case aF => exact (fun _ _ => trivial)); (case aO => exact (by (with_reducible repeat (first | apply Kd.R_alloc | apply Kd.R_drewN | apply Kd.R_drew)); exact HO_3.out)); (case aS => exact (below_size (by repeat (first | (with_reducible first | exact HB.out | apply below_alloc | apply pw_below_drewN | apply below_drew1) | exact HB.out)))); (case aL => have := LMc5.out; omega); intro v110 w6 ho hb hg hat; rw [← Ny109.out] at ho; have n0_ := Aside0.mk (hb); have n1_ := Aside0.mk (ho); clear HB; clear HO_3; have HB := n0_; have HO111 := n1_; clear n0_ n1_; clear ho hb hg hat))
          go_ret
          exact ⟨_, by first | rfl | (simp [errW_none, errW_some] <;> rfl) | (simp [*, errW_none, errW_some] <;> rfl), by (with_reducible repeat (first | apply Kd.R_alloc | apply Kd.R_drewN | apply Kd.R_drew)); exact HO111.out, by repeat (first | (with_reducible first | exact HB.out | apply below_alloc | apply pw_below_drewN | apply below_drew1) | exact HB.out)⟩
        · rw [if_neg c5] at H
          exact absurd H (by simp)

/-! ### code_Text: function 47 -/
def code_Text.f (k : Nat) (a0 : ByteArray) : Option (List Int) := (code_Num.f k (IntKind.u64.wrap ((a0.size : Int)))).bind fun t112 => (if t112.length + a0.size < 140737488355328 then (some (t112 ++ bytesOf a0)) else (none))
theorem code_Text.mono : ∀ a0 k, LeO (code_Text.f k a0) (code_Text.f (k + 1) a0) := by
  intro a0 k
  unfold code_Text.f
  repeat' first
      | (with_reducible exact code_Num.mono _ _)
      | (with_reducible exact LeO.refl _)
      | (with_reducible exact LeO.none _)
      | (with_reducible refine LeO.ite ?_ ?_)
      | (with_reducible refine LeO.bind ?_ (fun _ => ?_))
      | exact code_Num.mono _ _
      | exact LeO.none _
      | refine LeO.ite ?_ ?_
      | refine LeO.bind ?_ (fun _ => ?_)
set_option maxHeartbeats 8000000 in
set_option maxRecDepth 100000 in
theorem code_Text.calls (k : Nat) (a0 : ByteArray) (r : List Int) (w : World) (h : code_Text.f k a0 = some r) :
    Calls Try.prog 47 #[.string a0] w fun e w' => ∃ v0_ : Value, e = .returned (v0_) ∧ Kd.R (Kd.int .u8) 5 w' w.heap.size (fun _ => True) v0_ r ∧ Below w.heap.size w w' := by
  have HB := Aside0.mk (Below.refl w.heap.size w)
  have H : ((code_Num.f k (IntKind.u64.wrap ((a0.size : Int)))).bind fun t112 => (if t112.length + a0.size < 140737488355328 then (some (t112 ++ bytesOf a0)) else (none))) = some r := h
  clear h
  replace H := Option.bind_eq_some_iff.mp H
  obtain ⟨t112, A20, H⟩ := H
  replace H : (if t112.length + a0.size < 140737488355328 then (some (t112 ++ bytesOf a0)) else (none)) = some r := H
  have A2 := Aside0.mk A20
  clear A20
  by_cases c3 : t112.length + a0.size < 140737488355328
  · rw [if_pos c3] at H
    have LMc3 := Aside0.mk c3
    clear c3
    obtain ⟨y115, hy115⟩ : ∃ y_ : List Int, y_ = (t112 ++ bytesOf a0) := ⟨_, rfl⟩
    replace H : (some y115) = some r := by first | (rw [hy115]; with_reducible exact H) | (have H2_ := (Option.bind_some _ _).symm.trans H; rw [hy115]; with_reducible exact H2_) | (have H2_ := (Option.bind_some _ _).symm.trans H; with_reducible exact H2_) | with_reducible exact H | (rw [hy115]; exact H) | exact H
    have Ny115 := Aside0.mk hy115
    clear hy115
    obtain rfl := Option.some.inj H
    go_enter Try.func47, Try.ntmps47
    go_wp2_with (first | ((with_reducible refine gate_callee (f := 29) rfl ?_); refine goesL_ (some 6) rfl rfl Try.func29 (by kernel_rfl) rfl #[.int .u64 (IntKind.u64.wrap ((a0.size : Int)))] rfl (by (try simp only [List.map_toArray, List.map_cons, List.map_nil]); first | done | rfl | (simp only [List.length_drop, List.length_take]; rfl)) ?_; (with_reducible refine (code_Num.calls k (IntKind.u64.wrap ((a0.size : Int))) t112 _ A2.out).mono ?_); rintro e w4 ⟨v113, rfl, ho0, hb⟩; refine ⟨_, rfl, ?_⟩; have n0_ := Aside0.mk (Kd.R_lower ho0 (below_size (by repeat (first | (with_reducible first | exact HB.out | apply below_alloc | apply pw_below_drewN | apply below_drew1) | exact HB.out)))); have n1_ := Aside0.mk (below_step (by repeat (first | (with_reducible first | exact HB.out | apply below_alloc | apply pw_below_drewN | apply below_drew1) | exact HB.out)) hb); clear HB; have HO114 := n0_; have HB := n1_; clear n0_ n1_; (try clear hb); (try clear hb2); (try clear hk); (try clear hi); (try clear ho0)) | (at_builtin; refine print_append_str (w0 := w) w.heap.size rfl (.tmp 6) _ 25 9 5 rfl Try.underlying25 Try.underlying9 info5 v113 t112 a0 rfl rfl ?aO ?aB ?aS ?aL ?_; (case aB => exact (by repeat (first | (with_reducible first | exact HB.out | apply below_alloc | apply pw_below_drewN | apply below_drew1) | exact HB.out))); (case aO => exact (Kd.own_of_R (by (with_reducible repeat (first | apply Kd.R_alloc | apply Kd.R_drewN | apply Kd.R_drew)); exact HO114.out))); (case aS => exact (below_size (by repeat (first | (with_reducible first | exact HB.out | apply below_alloc | apply pw_below_drewN | apply below_drew1) | exact HB.out)))); (case aL => have := LMc3.out; omega); intro v116 w5 ho0 hb hg; have ho := Kd.R_of_own (h1 := fun _ => rfl) (ok := fun _ => True) ho0 (fun _ _ => trivial); clear ho0; have hat := True.intro; rw [← Ny115.out] at ho; change Kd.R (Kd.int .u8) 5 w5 w.heap.size (fun _ => True) v116 y115 at ho; have n0_ := Aside0.mk (hb); have n1_ := Aside0.mk (ho); clear HB; clear HO114; have HB := n0_; have HO117 := n1_; clear n0_ n1_; clear ho hb hg hat))
    go_ret
    exact ⟨_, by first | rfl | (simp [errW_none, errW_some] <;> rfl) | (simp [*, errW_none, errW_some] <;> rfl), by (with_reducible repeat (first | apply Kd.R_alloc | apply Kd.R_drewN | apply Kd.R_drew)); exact HO117.out, by repeat (first | (with_reducible first | exact HB.out | apply below_alloc | apply pw_below_drewN | apply below_drew1) | exact HB.out)⟩
  · rw [if_neg c3] at H
    exact absurd H (by simp)

-- NOT PRINTED: function 28 (wire_written)

/-! ### ours: wire0 -/

@[go_sem] theorem asBad (v : Value) (w : World) : (Instr.typeAssert (.iface 83 v) 20 83 true).run Try.prog w = .ok (.tuple #[v, .bool true]) w := by kernel_rfl
@[go_sem] theorem asIntInt (v : Value) (w : World) : (Instr.typeAssert (.iface 81 v) 20 81 true).run Try.prog w = .ok (.tuple #[v, .bool true]) w := by kernel_rfl
@[go_sem] theorem asStrStr (v : Value) (w : World) : (Instr.typeAssert (.iface 85 v) 20 85 true).run Try.prog w = .ok (.tuple #[v, .bool true]) w := by kernel_rfl
@[go_sem] theorem asIntStr (v : Value) (w : World) : (Instr.typeAssert (.iface 81 v) 20 85 true).run Try.prog w = .ok (.tuple #[.pointer none, .bool false]) w := by kernel_rfl
@[go_sem] theorem asStrInt (v : Value) (w : World) : (Instr.typeAssert (.iface 85 v) 20 81 true).run Try.prog w = .ok (.tuple #[.pointer none, .bool false]) w := by kernel_rfl
def wbad : List PanicEntry := [{ v := .iface 83 (.agg #[]), recovered := false }]
theorem must_ok (w : World) : Calls Try.prog 27 #[.bool true] w fun e w' => e = .returned (.tuple #[]) ∧ w' = w := by
  go_enter Try.func27, Try.ntmps27
  go_wp2
  go_end0
  exact ⟨rfl, rfl⟩
theorem must_bad (w : World) : Calls Try.prog 27 #[.bool false] w fun e w' => e = .panicked wbad ∧ w' = w := by
  go_enter Try.func27, Try.ntmps27
  go_wp2
  exact ⟨rfl, rfl, rfl⟩

theorem caught_bad (g : Nat) (x : Int) (w : World) (hc : w.heap[g]? = some (.cells #[.int .i64 x] 28 (0, 0))) :
    CallsD Try.prog 24 #[.pointer (some ⟨g, 0, none⟩)] (.panicking wbad) w fun e u' w' =>
      e = .returned (.tuple #[]) ∧ u' = .panicking [{ v := .iface 83 (.agg #[]), recovered := true }] ∧ ∃ o, w' = (w.alloc o).setCell ⟨g, 0, none⟩ (.int .i64 220) := by
  have hg := blk_lt hc
  have hc1 : ∀ o, (w.alloc o).cell? ⟨g, 0, none⟩ = some (.int .i64 x) := fun o => by
    have := blk_cell (blk_alloc hc o) 0
    simpa using this
  have hf1 : ∀ o, (w.alloc o).frozen? ⟨g, 0, none⟩ = false := fun o => blk_frozen (blk_alloc hc o) 0
  clear hc
  refine callsD_of_wpS Try.func24 rfl fun c₀ cs hu => ?_
  apply wpS_seq
  apply wpS_region
  simp [wpOpsS, go_sem, recoverD, hu, Try.ntmps24, Exit.thenS, wbad]
  apply wpS_seq
  apply wpS_region
  simp [wpOpsS, go_sem, Exit.thenS]
  refine wpS_cond (t := true) (by simp [Act.eval, Array.replicate]) ?_
  simp only [if_true]
  apply wpS_seq
  apply wpS_seq
  apply wpS_region
  simp [wpOpsS, go_sem, Exit.thenS]
  apply wpS_seq
  apply wpS_region
  simp [wpOpsS, go_sem, Exit.thenS]
  refine wpS_cond (t := false) (by simp [Act.eval, Array.replicate]) ?_
  simp only [Bool.false_eq_true, if_false]
  refine wpS_of_wp (wp_skip ?_)
  dsimp only [Exit.thenS]
  apply wpS_region
  simp [wpOpsS, go_sem, hc1, hf1]
  refine ⟨rfl, _, rfl, _, ?_, rfl, rfl, ⟨_, rfl⟩⟩
  simp [results, Try.results24]
theorem caught_idle (p : Addr) (w : World) :
    CallsD Try.prog 24 #[.pointer (some p)] .returning w fun e u' w' => e = .returned (.tuple #[]) ∧ u' = .returning ∧ w' = w := by
  refine callsD_of_wpS Try.func24 rfl fun c₀ cs hu => ?_
  apply wpS_seq
  apply wpS_region
  simp [wpOpsS, go_sem, recoverD, hu, Try.ntmps24, Exit.thenS]
  apply wpS_seq
  apply wpS_region
  simp [wpOpsS, go_sem, Exit.thenS]
  refine wpS_cond (t := false) (by simp [Act.eval, Array.replicate]) ?_
  simp only [Bool.false_eq_true, if_false]
  refine wpS_of_wp (wp_skip ?_)
  cases c₀
  simp_all [bodyPostS, results, Try.results24]

/-- A field's pointer as an interface value: of a text, of a number. -/
def fpv (x : Bool × Addr) : Value := if x.1 = true then .iface 85 (.pointer (some x.2)) else .iface 81 (.pointer (some x.2))
/-- The places of a request's fields, by its kind. -/
def reqOffs (k : Int) : Option (List Nat) :=
  if k = 1 ∨ k = 2 ∨ k = 8 then some [1, 3] else if k = 3 then some [1, 2, 3, 4] else if k = 4 ∨ k = 5 then some [1, 2] else if k = 6 ∨ k = 12 then some [1] else if k = 7 then some [3] else if k = 9 then some [1, 5, 3] else if k = 10 then some [5, 6] else if k = 11 then some [5, 6, 1, 3] else none
def msgOffs (k : Int) : Option (List Nat) := if k = 1 then some [1, 2, 3, 4] else if k = 2 then some [1, 2] else none
/-- A list's block: pointers to places of a block; 't': where the text stands. -/
def fps (t g : Nat) (os : List Nat) : List (Bool × Addr) := os.map fun o => (o == t, ⟨g, o, none⟩)
def lob (fs : List (Bool × Addr)) : Obj := .cells (fs.map fpv).toArray 20 (0, 0)
theorem reqOffs_cases {k : Int} {os : List Nat} (h : reqOffs k = some os) : os = [1, 3] ∨ os = [1, 2, 3, 4] ∨ os = [1, 2] ∨ os = [1] ∨ os = [3] ∨ os = [1, 5, 3] ∨ os = [5, 6] ∨ os = [5, 6, 1, 3] := by
  unfold reqOffs at h
  repeat' split at h
  all_goals first | cases h; done | (have e := Option.some.inj h; subst e; simp)
theorem msgOffs_cases {k : Int} {os : List Nat} (h : msgOffs k = some os) : os = [1, 2, 3, 4] ∨ os = [1, 2] := by
  unfold msgOffs at h
  repeat' split at h
  all_goals first | cases h; done | (have e := Option.some.inj h; subst e; simp)

def cpy (os : List Nat) (rc qc : Array Value) : Array Value := os.foldl (fun q o => q.setIfInBounds o (rc.getD o undef)) qc
theorem cpy_snoc (l : List Nat) (o : Nat) (rc qc : Array Value) : cpy (l ++ [o]) rc qc = (cpy l rc qc).setIfInBounds o (rc.getD o undef) := by simp [cpy]
theorem cpy_size (l : List Nat) (rc qc : Array Value) : (cpy l rc qc).size = qc.size := by
  induction l generalizing qc with
  | nil => rfl
  | cons o l ih => simpa [cpy] using ih (qc.setIfInBounds o (rc.getD o undef))
/-- What a place of a block holds: a text at one place, numbers elsewhere. -/
def Typed (t : Nat) (cs : Array Value) : Prop := ∀ o, o < cs.size → if (o == t) = true then ∃ s, cs[o]? = some (.string s) else ∃ x, cs[o]? = some (.int .i64 x)
theorem lob_cell {w : World} {L t g : Nat} {os : List Nat} (h : w.heap[L]? = some (lob (fps t g os))) {j : Nat} (hj : j < os.length) : w.cell? ⟨L, j, none⟩ = some (fpv (os[j] == t, ⟨g, os[j], none⟩)) := by
  rw [blk_cell h j]
  simp [fps, hj]
theorem lob_cell2 {w : World} {L : Nat} {fs : List (Bool × Addr)} (h : w.heap[L]? = some (lob fs)) {j : Nat} (hj : j < fs.length) : w.cell? ⟨L, j, none⟩ = some (fpv fs[j]) := by
  rw [blk_cell h j]
  simp [hj]

def ptr (g : Nat) : Value := .pointer (some ⟨g, 0, none⟩)
def dfs (cl g2 g3 : Nat) : List Deferred := [{ target := .fn (.func 24) #[], args := #[.pointer (some ⟨g3, 0, none⟩)] }, { target := .fn (.func cl) #[.pointer (some ⟨g3, 0, none⟩), .pointer (some ⟨g2, 0, none⟩)], args := #[] }]
theorem doorB_bad (cl : FuncId) (HCL : ∀ (g g2 : Nat) (x : Int) (u : FrameMode) (v : Value) (w : World), x ≠ 0 → w.heap[g]? = some (.cells #[.int .i64 x] 28 (0, 0)) → w.heap[g2]? = some (.cells #[v] 25 (0, 0)) → CallsD Try.prog cl #[.pointer (some ⟨g, 0, none⟩), .pointer (some ⟨g2, 0, none⟩)] u w fun e u' w' => u' = u ∧ (e = .returned (.tuple #[]) ∧ w' = (w.setCell ⟨g2, 0, none⟩ (.slice none 0 0))))
    (hin : ∀ (w : World) (a b : Value), (invoke (.fn (.func cl) #[a, b]) #[]).run Try.prog w = .ok (.enter cl #[a, b]) w)
    (fn : Func) (hres : fn.results = #[.cell 2 25, .cell 3 28]) (tmps : Array Value) (g2 g3 B : Nat) (h2 : tmps.getD 2 undef = .pointer (some ⟨g2, 0, none⟩)) (h3 : tmps.getD 3 undef = .pointer (some ⟨g3, 0, none⟩)) (x : Int) (v : Value) (w0 W : World)
    (hB : Below B w0 W) (hb : B ≤ W.heap.size) (hb2 : B ≤ g2) (hb3 : B ≤ g3) (H2 : W.heap[g2]? = some (.cells #[v] 25 (0, 0))) (H3 : W.heap[g3]? = some (.cells #[.int .i64 x] 28 (0, 0))) (R : Ending → World → Prop)
    (hR : ∀ w', Below B w0 w' → R (.returned (.tuple #[.slice none 0 0, .int .i64 220])) w') :
    Leaves Try.prog fn tmps R (dfs cl g2 g3) (.panicking wbad) W := by
  have hne := blk_ne H2 H3 (by decide)
  refine leaves_cons (f := 24) (args := #[.pointer (some ⟨g3, 0, none⟩)]) (by simp) (by simp [go_sem]) ?_
  refine (caught_bad g3 x W H3).mono ?_
  rintro e u' w' ⟨rfl, rfl, o, rfl⟩
  have K3 := blk_set (blk_alloc H3 o) 0 (.int .i64 220)
  have K2 := blk_far (p := ⟨g3, 0, none⟩) (blk_alloc H2 o) hne (.int .i64 220)
  have hB1 : Below B w0 ((W.alloc o).setCell ⟨g3, 0, none⟩ (.int .i64 220)) := (hB.alloc hb o).setCell (p := ⟨g3, 0, none⟩) hb3 _
  simp only [Array.setIfInBounds, List.size_toArray, List.length_cons, List.length_nil, Nat.zero_add, Nat.lt_add_one, dite_true, List.set_toArray, List.set_cons_zero] at K3
  generalize (W.alloc o).setCell ⟨g3, 0, none⟩ (.int .i64 220) = W1 at K2 K3 hB1 ⊢
  refine leaves_cons (f := cl) (args := #[.pointer (some ⟨g3, 0, none⟩), .pointer (some ⟨g2, 0, none⟩)]) (by simp [settle]) (hin _ _ _) ?_
  refine (HCL g3 g2 220 _ v W1 (by decide) K3 K2).mono ?_
  rintro e u' w' ⟨rfl, rfl, rfl⟩
  have L2 := blk_set K2 0 (.slice none 0 0)
  have L3 := blk_far (p := ⟨g2, 0, none⟩) K3 (Ne.symm hne) (.slice none 0 0)
  have hB2 := hB1.setCell (p := ⟨g2, 0, none⟩) hb2 (.slice none 0 0)
  refine ⟨.tuple #[.slice none 0 0, .int .i64 220], ?_, hR _ hB2⟩
  generalize W1.setCell ⟨g2, 0, none⟩ (.slice none 0 0) = W2 at L2 L3
  have c2 := blk_cell L2 0
  have c3 := blk_cell L3 0
  simp at c2 c3
  simp at h2 h3
  simp [results, hres, h2, h3, asAddr, go_sem, c2, c3]
theorem doorB_ok (cl : FuncId) (HCL : ∀ (g : Nat) (p : Addr) (u : FrameMode) (w : World), w.heap[g]? = some (.cells #[.int .i64 0] 28 (0, 0)) → CallsD Try.prog cl #[.pointer (some ⟨g, 0, none⟩), .pointer (some p)] u w fun e u' w' => u' = u ∧ (e = .returned (.tuple #[]) ∧ w' = w))
    (hin : ∀ (w : World) (a b : Value), (invoke (.fn (.func cl) #[a, b]) #[]).run Try.prog w = .ok (.enter cl #[a, b]) w)
    (fn : Func) (tmps : Array Value) (g2 g3 : Nat) (W : World) (H3 : W.heap[g3]? = some (.cells #[.int .i64 0] 28 (0, 0))) (R : Ending → World → Prop) (v : Value) (hres : (results fn tmps).run Try.prog W = .ok v W) (hR : R (.returned v) W) :
    Leaves Try.prog fn tmps R (dfs cl g2 g3) .returning W := by
  refine leaves_cons (f := 24) (args := #[.pointer (some ⟨g3, 0, none⟩)]) (by simp) (by simp [go_sem]) ?_
  refine (caught_idle ⟨g3, 0, none⟩ W).mono ?_
  rintro e u' w' ⟨rfl, rfl, rfl⟩
  refine leaves_cons (f := cl) (args := #[.pointer (some ⟨g3, 0, none⟩), .pointer (some ⟨g2, 0, none⟩)]) (by simp [settle]) (hin _ _ _) ?_
  refine (HCL g3 ⟨g2, 0, none⟩ _ w' H3).mono ?_
  rintro e u' w'' ⟨rfl, rfl, rfl⟩
  exact ⟨v, hres, hR⟩

theorem load_errno {w : World} {g : Nat} {x : Int} (h : w.heap[g]? = some (.cells #[.int .i64 x] 28 (0, 0))) : (loadVar 28 ⟨g, 0, none⟩).run Try.prog w = .ok (.int .i64 x) w := by
  have c := blk_cell h 0
  simp at c
  simp [go_sem, c]
theorem results_sc {fn : Func} {p p' : Tmp} {ty ty' : TypeId} (h : fn.results = #[.cell p ty, .cell p' ty']) (tmps : Array Value) (w : World)
    (b : Addr) (hp : tmps.getD p undef = .pointer (some b)) (u : Value) (hr : (loadVar ty b).run Try.prog w = .ok u w)
    (a : Addr) (hp' : tmps.getD p' undef = .pointer (some a)) (v : Value) (hl : (loadVar ty' a).run Try.prog w = .ok v w) :
    (results fn tmps).run Try.prog w = .ok (.tuple #[u, v]) w := by
  have h1 : tmps[p]?.getD undef = .pointer (some b) := by simpa using hp
  have h2 : tmps[p']?.getD undef = .pointer (some a) := by simpa using hp'
  simp [results, h, h1, h2, asAddr, hr, hl]

theorem arr5 {cs : Array Value} (h : cs.size = 5) : ∃ z0 z1 z2 z3 z4, cs = #[z0, z1, z2, z3, z4] := by
  obtain ⟨l⟩ := cs
  match l, h with
  | [z0, z1, z2, z3, z4], _ => exact ⟨z0, z1, z2, z3, z4, rfl⟩
theorem arr7 {cs : Array Value} (h : cs.size = 7) : ∃ z0 z1 z2 z3 z4 z5 z6, cs = #[z0, z1, z2, z3, z4, z5, z6] := by
  obtain ⟨l⟩ := cs
  match l, h with
  | [z0, z1, z2, z3, z4, z5, z6], _ => exact ⟨z0, z1, z2, z3, z4, z5, z6, rfl⟩

def fval : Int ⊕ ByteArray → Value
  | .inl n => .int .i64 n
  | .inr s => .string s
def isTx : Int ⊕ ByteArray → Bool
  | .inl _ => false
  | .inr _ => true

/-! ### ours: wireP -/

set_option maxHeartbeats 2000000 in
theorem wpa_1 (g : Nat) (w : World) (hk : w.cell? ⟨g, 0, none⟩ = some (.int .i64 1)) :
    Calls Try.prog 25 #[.pointer (some ⟨g, 0, none⟩)] w fun e w' => ∃ L : Nat, e = .returned (.slice (some ⟨L, 0, none⟩) 4 4) ∧ Below w.heap.size w w' ∧ w.heap.size ≤ L ∧ w'.heap[L]? = some (lob (fps 3 g [1, 2, 3, 4])) := by
  go_enter Try.func25, Try.ntmps25
  go_wp2
  go_region
  all_goals
    dsimp only [Exit.then]
    go_wp2
    go_ret
    exact ⟨w.heap.size, rfl, (Below.drew ((Below.refl w.heap.size w).alloc (Nat.le_refl _) _)), Nat.le_refl _, blk_drew (blk_new w _)⟩

set_option maxHeartbeats 2000000 in
theorem wpa_2 (g : Nat) (w : World) (hk : w.cell? ⟨g, 0, none⟩ = some (.int .i64 2)) :
    Calls Try.prog 25 #[.pointer (some ⟨g, 0, none⟩)] w fun e w' => ∃ L : Nat, e = .returned (.slice (some ⟨L, 0, none⟩) 2 2) ∧ Below w.heap.size w w' ∧ w.heap.size ≤ L ∧ w'.heap[L]? = some (lob (fps 3 g [1, 2])) := by
  go_enter Try.func25, Try.ntmps25
  go_wp2
  go_region
  all_goals
    dsimp only [Exit.then]
    go_wp2
    go_ret
    exact ⟨w.heap.size, rfl, (Below.drew ((Below.refl w.heap.size w).alloc (Nat.le_refl _) _)), Nat.le_refl _, blk_drew (blk_new w _)⟩

set_option maxHeartbeats 2000000 in
theorem wpa_none (k : Int) (g : Nat) (w : World) (hk : w.cell? ⟨g, 0, none⟩ = some (.int .i64 k)) (h1 : k ≠ 1) (h2 : k ≠ 2) :
    Calls Try.prog 25 #[.pointer (some ⟨g, 0, none⟩)] w fun e w' => e = .returned (.slice none 0 0) ∧ w' = w := by
  have b1 : (k == 1) = false := by simpa using h1
  have b2 : (k == 2) = false := by simpa using h2
  clear h1 h2
  go_enter Try.func25, Try.ntmps25
  go_wp2
  go_ret
  exact ⟨rfl, rfl⟩

theorem wpa_some (k : Int) (os : List Nat) (ho : msgOffs k = some os) (g : Nat) (w : World) (hk : w.cell? ⟨g, 0, none⟩ = some (.int .i64 k)) :
    Calls Try.prog 25 #[.pointer (some ⟨g, 0, none⟩)] w fun e w' => ∃ L : Nat, e = .returned (.slice (some ⟨L, 0, none⟩) os.length os.length) ∧ Below w.heap.size w w' ∧ w.heap.size ≤ L ∧ w'.heap[L]? = some (lob (fps 3 g os)) := by
  by_cases h1 : k = 1
  · subst h1
    obtain rfl : os = [1, 2, 3, 4] := by simp [msgOffs] at ho; exact ho.symm
    exact wpa_1 g w hk
  by_cases h2 : k = 2
  · subst h2
    obtain rfl : os = [1, 2] := by simp [msgOffs] at ho; exact ho.symm
    exact wpa_2 g w hk
  · simp [msgOffs, *] at ho
theorem wpa_not (k : Int) (ho : msgOffs k = none) (g : Nat) (w : World) (hk : w.cell? ⟨g, 0, none⟩ = some (.int .i64 k)) :
    Calls Try.prog 25 #[.pointer (some ⟨g, 0, none⟩)] w fun e w' => e = .returned (.slice none 0 0) ∧ w' = w := by
  refine wpa_none k g w hk ?_ ?_ <;> (rintro rfl; simp [msgOffs] at ho)

/-! ### ours: wireW -/

/-- Blocks of another type than uint8 stay as they are. -/
def Keeps (w w' : World) : Prop := ∀ (g : Nat) (cs : Array Value) (T : TypeId), w.heap[g]? = some (.cells cs T (0, 0)) → T ≠ 5 → w'.heap[g]? = some (.cells cs T (0, 0))
theorem Keeps.refl (w : World) : Keeps w w := fun _ _ _ h _ => h
theorem Keeps.trans {a b c : World} (h : Keeps a b) (k : Keeps b c) : Keeps a c := fun g cs T hg hT => k g cs T (h g cs T hg hT) hT
theorem Keeps.below {a b : World} (h : Below a.heap.size a b) : Keeps a b := fun _ _ _ hg _ => blk_below hg h
theorem Keeps.grown {a b : World} {v : Value} {base : Nat} {ok : Nat → Prop} {xs : List Int} (ho : Kd.R (Kd.int .u8) 5 a base ok v xs) (h : a.grownBy b v.ownBlock) : Keeps a b :=
  fun _ _ _ hg hT => blk_grown hg h (Kd.R_ne ho hg (Ne.symm hT))
def wireWr (k : Nat) : List (Int ⊕ ByteArray) → List Int → Option (Option (List Int))
  | [], b => some (some b)
  | .inl n :: l, b => if 0 ≤ n then (code_Num.f k (IntKind.u64.wrap n)).bind fun t => if b.length + t.length < 140737488355328 then wireWr k l (b ++ t) else none else some none
  | .inr s :: l, b => if (s.size : Int) ≤ 4096 then (code_Text.f k s).bind fun t => if b.length + t.length < 140737488355328 then wireWr k l (b ++ t) else none else some none

theorem blk_of_keeps {a b : World} {g : Nat} {cs : Array Value} {T : TypeId} (h : a.heap[g]? = some (.cells cs T (0, 0))) (hk : Keeps a b) (hT : T ≠ 5) : b.heap[g]? = some (.cells cs T (0, 0)) := hk g cs T h hT

set_option maxHeartbeats 8000000 in
set_option maxRecDepth 100000 in
theorem wwritten (k L base : Nat) (fs : List (Bool × Addr)) (vs : List (Int ⊕ ByteArray)) (vb : Value) (b0 : List Int) (RES : Option (List Int)) (w : World) (hL : w.heap[L]? = some (lob fs)) (hlen : fs.length = vs.length)
    (hfs : ∀ j (h1 : j < fs.length) (h2 : j < vs.length), fs[j].1 = isTx vs[j] ∧ w.cell? fs[j].2 = some (fval vs[j]) ∧ ∃ cs T, w.heap[fs[j].2.block]? = some (.cells cs T (0, 0)) ∧ T ≠ 5)
    (hR : Kd.R (Kd.int .u8) 5 w base (fun _ => True) vb b0) (hbase : base ≤ w.heap.size) (hn : vs.length ≤ 8) (h : wireWr k vs b0 = some RES) :
    Calls Try.prog 28 #[vb, .slice (some ⟨L, 0, none⟩) fs.length fs.length] w fun e w' => ((∃ v r, RES = some r ∧ e = .returned v ∧ Kd.R (Kd.int .u8) 5 w' base (fun _ => True) v r) ∨ (RES = none ∧ e = .panicked wbad)) ∧ Below base w w' ∧ Keeps w w' := by
  have HL := Aside0.mk hL
  have HF := Aside0.mk hfs
  have HR := Aside0.mk hR
  have HBS := Aside0.mk hbase
  have HRES := Aside0.mk h
  have HLE := Aside0.mk hlen
  clear hL hfs hR hbase h
  obtain ⟨n, hln⟩ : ∃ n, vs.length = n := ⟨_, rfl⟩
  have HVN := Aside0.mk hln
  rw [hlen]
  rw [hln] at hn ⊢
  clear hln hlen
  go_enter Try.func28, Try.ntmps28
  go_wp2
  go_loopg [0, 11] n (fun kq v0 v11 w' => ∃ (j : Nat) (v : Value) (b : List Int), v0 = v ∧ v11 = .int .i64 (j : Int) ∧ Aside0 (kq + j = n) ∧ Aside0 (Kd.R (Kd.int .u8) 5 w' base (fun _ => True) v b) ∧ Aside0 (wireWr k (vs.drop j) b = some RES) ∧ Aside0 (Below base w w') ∧ Aside0 (Keeps w w') ∧ Aside0 (base ≤ w'.heap.size))
  case atStart => exact ⟨0, vb, b0, rfl, rfl, ⟨rfl⟩, HR, HRES, ⟨Below.refl _ _⟩, ⟨Keeps.refl _⟩, HBS⟩
  case round =>
    clear HR HRES HBS
    obtain ⟨j, v0, b, rfl, rfl, HK, HO, HRES, HB, HKE, HSZ⟩ := hrel
    cases gk with
    | zero =>
      have ej : j = n := by have := HK.out; omega
      subst ej
      have h := HRES.out
      rw [List.drop_of_length_le (by have := HVN.out; omega), wireWr] at h
      go_wp2
      go_ret
      exact ⟨.inl ⟨_, b, (Option.some.inj h).symm, rfl, HO.out⟩, HB.out, HKE.out⟩
    | succ d =>
      have hj : j < n := by have := HK.out; omega
      have hjb : decide ((j : Int) < (n : Int)) = true := decide_eq_true (by omega)
      have hjb' : decide (j < n) = true := decide_eq_true hj
      have hjv : j < vs.length := by have := HVN.out; omega
      have hjf : j < fs.length := by have := HLE.out; omega
      have hcL := lob_cell2 (HKE.out _ _ _ HL.out (by decide)) hjf
      obtain ⟨hk1, hk2, cs, T, hk3, hk4⟩ := HF.out j hjf hjv
      have hcx := (World.cell?_of_block (w := w) ((HKE.out _ _ _ hk3 hk4).trans hk3.symm)).trans hk2
      clear hk2 hk3 hk4
      have h := HRES.out
      rw [List.drop_eq_getElem_cons hjv] at h
      obtain ⟨⟨tx, a⟩, hfa⟩ : ∃ f, fs[j] = f := ⟨_, rfl⟩
      rw [hfa] at hk1 hcx hcL
      dsimp only at hk1 hcx
      clear hfa
      obtain ⟨x, hx⟩ : ∃ x, vs[j] = x := ⟨_, rfl⟩
      rw [hx] at hk1 hcx h
      subst hk1
      clear hx
      cases x with
      | inl x =>
        unfold fpv isTx at hcL
        rw [if_neg (by simp)] at hcL
        dsimp only at hcL
        dsimp only [fval] at hcx
        rw [wireWr] at h
        by_cases h0 : 0 ≤ x
        · rw [if_pos h0] at h
          obtain ⟨t, ht, h⟩ := Option.bind_eq_some_iff.mp h
          split at h
          rotate_left
          · cases h
          rename_i hlt
          have HT := Aside0.mk ht
          have HLN := Aside0.mk hlt
          have hres := h
          have hx0 : decide (0 ≤ x) = true := decide_eq_true h0
          clear ht hlt h h0
          go_wp2_with (first | ((go_at_call 27); (with_reducible refine (must_ok _).mono ?_); rintro e wm ⟨rfl, rfl⟩) | ((with_reducible refine gate_callee (f := 29) rfl ?_); refine goesL_ (some 29) rfl rfl Try.func29 (by kernel_rfl) rfl #[.int .u64 (IntKind.u64.wrap x)] rfl (by (try simp only [List.map_toArray, List.map_cons, List.map_nil]); first | done | rfl) ?_; (with_reducible refine (code_Num.calls k (IntKind.u64.wrap x) t _ HT.out).mono ?_); rintro e w4 ⟨v4, rfl, ho, hb⟩; refine ⟨_, rfl, ?_⟩; obtain ⟨A4, c4, rfl, hcl, hC⟩ := Kd.R_reads ho; clear ho; have HC := Aside0.mk hC; have m0 := Aside0.mk (HB.out.trans (hb.mono HSZ.out)); have m1 := Aside0.mk (Kd.R_below HO.out hb); have m2 := Aside0.mk (HKE.out.trans (Keeps.below hb)); have m3 := Aside0.mk (Nat.le_trans HSZ.out hb.size); clear HB HO HKE HSZ hC hb hcl hcL hcx; have HB := m0; have HO := m1; have HKE := m2; have HSZ := m3; clear m0 m1 m2 m3) | ((with_reducible refine gate_builtin (b := .append) (xs := #[.tmp 24, .tmp 29]) rfl ?_); at_builtin; refine Kd.R_append_rows (Kd.int .u8) (w0 := w) base rfl (.tmp 24) (.tmp 29) 25 5 (.int .u8 0) 1 rfl Try.underlying25 info5 rfl (by decide) (by omega) _ b t _ _ _ (fun _ => True) (fun _ => False) rfl rfl ?aO ?aR (fun _ _ h => h) (fun _ h => h.elim) ?aF ?aB ?aS ?aL ?_; (case aR => exact HC.out); (case aB => exact HB.out); (case aF => exact (fun _ _ => trivial)); (case aO => exact HO.out); (case aS => exact HSZ.out); (case aL => have := HLN.out; omega); intro v5 w5 ho hb hg hat; have m0 := Aside0.mk hb; have m1 := Aside0.mk ho; have m2 := Aside0.mk (HKE.out.trans (Keeps.grown HO.out hg)); have m3 := Aside0.mk (Nat.le_trans HSZ.out hg.size); clear HB HO HKE HSZ HC ho hb hg hat; have HB := m0; have HO := m1; have HKE := m2; have HSZ := m3; clear m0 m1 m2 m3))
          go_roundg d
          case measure => omega
          case rel => exact ⟨j + 1, v5, b ++ t, rfl, by first | rfl | (rw [show wrap64 ((j : Int) + 1) = ((j + 1 : Nat) : Int) from by unfold wrap64; omega]), ⟨by have := HK.out; omega⟩, HO, ⟨hres⟩, HB, HKE, HSZ⟩
        · rw [if_neg h0] at h
          have hx0 : decide (0 ≤ x) = false := decide_eq_false h0
          clear h0
          go_wp2_with (first | ((go_at_call 27); (with_reducible refine (must_bad _).mono ?_); rintro e wm ⟨rfl, rfl⟩))
          exact ⟨rfl, .inr ⟨(Option.some.inj h).symm, rfl⟩, HB.out, HKE.out⟩
      | inr x =>
        unfold fpv isTx at hcL
        rw [if_pos (by simp)] at hcL
        dsimp only at hcL
        dsimp only [fval] at hcx
        rw [wireWr] at h
        by_cases h0 : (x.size : Int) ≤ 4096
        · rw [if_pos h0] at h
          obtain ⟨t, ht, h⟩ := Option.bind_eq_some_iff.mp h
          split at h
          rotate_left
          · cases h
          rename_i hlt
          have HT := Aside0.mk ht
          have HLN := Aside0.mk hlt
          have hres := h
          have hx0 : decide ((x.size : Int) ≤ 4096) = true := decide_eq_true h0
          have hx1 : decide (x.size ≤ 4096) = true := decide_eq_true (by omega)
          clear ht hlt h h0
          go_wp2_with (first | ((go_at_call 27); (with_reducible refine (must_ok _).mono ?_); rintro e wm ⟨rfl, rfl⟩) | ((with_reducible refine gate_callee (f := 47) rfl ?_); refine goesL_ (some 44) rfl rfl Try.func47 (by kernel_rfl) rfl #[.string x] rfl (by (try simp only [List.map_toArray, List.map_cons, List.map_nil]); first | done | rfl) ?_; (with_reducible refine (code_Text.calls k x t _ HT.out).mono ?_); rintro e w4 ⟨v4, rfl, ho, hb⟩; refine ⟨_, rfl, ?_⟩; obtain ⟨A4, c4, rfl, hcl, hC⟩ := Kd.R_reads ho; clear ho; have HC := Aside0.mk hC; have m0 := Aside0.mk (HB.out.trans (hb.mono HSZ.out)); have m1 := Aside0.mk (Kd.R_below HO.out hb); have m2 := Aside0.mk (HKE.out.trans (Keeps.below hb)); have m3 := Aside0.mk (Nat.le_trans HSZ.out hb.size); clear HB HO HKE HSZ hC hb hcl hcL hcx; have HB := m0; have HO := m1; have HKE := m2; have HSZ := m3; clear m0 m1 m2 m3) | ((with_reducible refine gate_builtin (b := .append) (xs := #[.tmp 40, .tmp 44]) rfl ?_); at_builtin; refine Kd.R_append_rows (Kd.int .u8) (w0 := w) base rfl (.tmp 40) (.tmp 44) 25 5 (.int .u8 0) 1 rfl Try.underlying25 info5 rfl (by decide) (by omega) _ b t _ _ _ (fun _ => True) (fun _ => False) rfl rfl ?aO ?aR (fun _ _ h => h) (fun _ h => h.elim) ?aF ?aB ?aS ?aL ?_; (case aR => exact HC.out); (case aB => exact HB.out); (case aF => exact (fun _ _ => trivial)); (case aO => exact HO.out); (case aS => exact HSZ.out); (case aL => have := HLN.out; omega); intro v5 w5 ho hb hg hat; have m0 := Aside0.mk hb; have m1 := Aside0.mk ho; have m2 := Aside0.mk (HKE.out.trans (Keeps.grown HO.out hg)); have m3 := Aside0.mk (Nat.le_trans HSZ.out hg.size); clear HB HO HKE HSZ HC ho hb hg hat; have HB := m0; have HO := m1; have HKE := m2; have HSZ := m3; clear m0 m1 m2 m3))
          go_roundg d
          case measure => omega
          case rel => exact ⟨j + 1, v5, b ++ t, rfl, by first | rfl | (rw [show wrap64 ((j : Int) + 1) = ((j + 1 : Nat) : Int) from by unfold wrap64; omega]), ⟨by have := HK.out; omega⟩, HO, ⟨hres⟩, HB, HKE, HSZ⟩
        · rw [if_neg h0] at h
          have hx0 : decide ((x.size : Int) ≤ 4096) = false := decide_eq_false h0
          have hx1 : decide (x.size ≤ 4096) = false := decide_eq_false (by omega)
          clear h0
          go_wp2_with (first | ((go_at_call 27); (with_reducible refine (must_bad _).mono ?_); rintro e wm ⟨rfl, rfl⟩))
          exact ⟨rfl, .inr ⟨(Option.some.inj h).symm, rfl⟩, HB.out, HKE.out⟩

theorem wireWr_mono : ∀ (l : List (Int ⊕ ByteArray)) (b : List Int) (k : Nat), LeO (wireWr k l b) (wireWr (k + 1) l b)
  | [], b, k => LeO.refl _
  | .inl n :: l, b, k => by
    rw [wireWr, wireWr]
    exact LeO.ite (LeO.bind (code_Num.mono _ k) (fun t => LeO.ite (wireWr_mono l _ k) (LeO.refl _))) (LeO.refl _)
  | .inr s :: l, b, k => by
    rw [wireWr, wireWr]
    exact LeO.ite (LeO.bind (code_Text.mono _ k) (fun t => LeO.ite (wireWr_mono l _ k) (LeO.refl _))) (LeO.refl _)

def outB : Option (List Int) → List Int × Int
  | some r => (r, 0)
  | none => ([], 220)

/-! ### ours: wireC -/

set_option maxHeartbeats 4000000 in
set_option maxRecDepth 100000 in
theorem wcopied (t g h LA LB T : Nat) (os : List Nat) (rc qc : Array Value) (w : World) (hA : w.heap[LA]? = some (lob (fps t h os))) (hB : w.heap[LB]? = some (lob (fps t g os))) (hg : w.heap[g]? = some (.cells rc T (0, 0))) (hh : w.heap[h]? = some (.cells qc T (0, 0))) (hgh : g ≠ h) (hT : T ≠ 20) (ht : Typed t rc) (ho : ∀ o ∈ os, o < rc.size) (hs : qc.size = rc.size) (hn : os.length ≤ 8) :
    Calls Try.prog 26 #[.slice (some ⟨LA, 0, none⟩) os.length os.length, .slice (some ⟨LB, 0, none⟩) os.length os.length] w fun e w' => e = .returned (.tuple #[]) ∧ w'.heap[h]? = some (.cells (cpy os rc qc) T (0, 0)) ∧ (∀ k, k ≠ h → w'.heap[k]? = w.heap[k]?) ∧ (∀ b, b ≤ h → Below b w w') := by
  have HA := Aside0.mk hA
  have HB := Aside0.mk hB
  have HG := Aside0.mk hg
  have HH := Aside0.mk hh
  have HGH := Aside0.mk hgh
  have HT := Aside0.mk ht
  have HO := Aside0.mk ho
  have HS := Aside0.mk hs
  have HAh := Aside0.mk (blk_ne hA hh (Ne.symm hT))
  have HBh := Aside0.mk (blk_ne hB hh (Ne.symm hT))
  clear hA hB hg hh hgh ht ho hs hT
  obtain ⟨n, hln⟩ : ∃ n, os.length = n := ⟨_, rfl⟩
  have HLN := Aside0.mk hln
  rw [hln] at hn ⊢
  clear hln
  go_enter Try.func26, Try.ntmps26
  go_wp2
  go_loopg [14] n (fun kq v14 w' => ∃ j : Nat, v14 = .int .i64 (j : Int) ∧ Aside0 (kq + j = n) ∧ Aside0 (w'.heap[h]? = some (.cells (cpy (os.take j) rc qc) T (0, 0))) ∧ Aside0 (∀ k, k ≠ h → w'.heap[k]? = w.heap[k]?) ∧ Aside0 (∀ b, b ≤ h → Below b w w'))
  case atStart => exact ⟨0, rfl, ⟨rfl⟩, HH, ⟨fun _ _ => rfl⟩, ⟨fun _ _ => Below.refl _ _⟩⟩
  case round =>
    obtain ⟨j, rfl, HK, HHj, HO2, HW⟩ := hrel
    cases gk with
    | zero =>
      have ej : j = n := by have := HK.out; omega
      subst ej
      go_wp2
      go_end0
      refine ⟨rfl, ?_, HO2.out, HW.out⟩
      have := HHj.out
      rw [List.take_of_length_le (by have := HLN.out; omega)] at this
      exact this
    | succ d =>
      have hj : j < n := by have := HK.out; omega
      have hjb : decide ((j : Int) < (n : Int)) = true := decide_eq_true (by omega)
      have hjb' : decide (j < n) = true := decide_eq_true hj
      have hjl : j < os.length := by have := HLN.out; omega
      have hcB := lob_cell ((HO2.out LB HBh.out).trans HB.out) hjl
      have hcA := lob_cell ((HO2.out LA HAh.out).trans HA.out) hjl
      have hm := HO.out os[j] (List.getElem_mem hjl)
      have hnext : cpy (os.take (j + 1)) rc qc = (cpy (os.take j) rc qc).setIfInBounds os[j] (rc.getD os[j] undef) := by
        rw [← List.take_append_getElem hjl, cpy_snoc]
      have HN := Aside0.mk hnext
      clear hnext
      have hty := HT.out os[j] hm
      have hqs : os[j] < (cpy (os.take j) rc qc).size := by rw [cpy_size, HS.out]; exact hm
      have hcg := blk_cell ((HO2.out g HGH.out).trans HG.out) os[j]
      have hch := blk_cell HHj.out os[j]
      have hfh := blk_frozen HHj.out os[j]
      rw [Array.getElem?_eq_getElem hqs] at hch
      obtain ⟨y, hy⟩ : ∃ y, (cpy (os.take j) rc qc)[os[j]] = y := ⟨_, rfl⟩
      rw [hy] at hch
      clear hy hqs
      obtain ⟨o, hoj⟩ : ∃ o, os[j] = o := ⟨_, rfl⟩
      rw [hoj] at hcB hcA hm hty hcg hch hfh HN
      clear hoj hm
      by_cases hot : (o == t) = true
      · rw [if_pos hot] at hty
        obtain ⟨s, hs⟩ := hty
        rw [hot] at hcB hcA
        unfold fpv at hcB hcA
        rw [if_pos rfl] at hcB hcA
        dsimp only at hcB hcA
        rw [hs] at hcg
        have hgd : rc.getD o undef = .string s := by simp [Array.getD_eq_getD_getElem?, hs]
        rw [hgd] at HN
        clear hgd hs
        go_wp2
        go_roundg d
        case measure => omega
        case rel => exact ⟨j + 1, by first | rfl | (rw [show wrap64 ((j : Int) + 1) = ((j + 1 : Nat) : Int) from by unfold wrap64; omega]), ⟨by have := HK.out; omega⟩, ⟨by rw [HN.out]; exact blk_set HHj.out _ _⟩, ⟨fun k hk => (Below.heap_setCell _ _ _ k hk).trans (HO2.out k hk)⟩, ⟨fun b hb => (HW.out b hb).setCell (p := ⟨h, o, none⟩) hb _⟩⟩
      · rw [if_neg hot] at hty
        obtain ⟨s, hs⟩ := hty
        rw [show (o == t) = false by simpa using hot] at hcB hcA
        unfold fpv at hcB hcA
        rw [if_neg (by simp)] at hcB hcA
        dsimp only at hcB hcA
        rw [hs] at hcg
        have hgd : rc.getD o undef = .int .i64 s := by simp [Array.getD_eq_getD_getElem?, hs]
        rw [hgd] at HN
        clear hgd hs hot
        go_wp2
        go_roundg d
        case measure => omega
        case rel => exact ⟨j + 1, by first | rfl | (rw [show wrap64 ((j : Int) + 1) = ((j + 1 : Nat) : Int) from by unfold wrap64; omega]), ⟨by have := HK.out; omega⟩, ⟨by rw [HN.out]; exact blk_set HHj.out _ _⟩, ⟨fun k hk => (Below.heap_setCell _ _ _ k hk).trans (HO2.out k hk)⟩, ⟨fun b hb => (HW.out b hb).setCell (p := ⟨h, o, none⟩) hb _⟩⟩

def fldOf : Value → Int ⊕ ByteArray
  | .string s => .inr s
  | .int _ n => .inl n
  | _ => .inl 0
theorem fields_ok {t g : Nat} {os : List Nat} {rc : Array Value} {T : TypeId} {w : World} (h : w.heap[g]? = some (.cells rc T (0, 0))) (ht : Typed t rc) (ho : ∀ o ∈ os, o < rc.size) (hT : T ≠ 5) :
    ∀ j (h1 : j < (fps t g os).length) (h2 : j < (os.map fun o => fldOf (rc.getD o undef)).length), (fps t g os)[j].1 = isTx (os.map fun o => fldOf (rc.getD o undef))[j] ∧ w.cell? (fps t g os)[j].2 = some (fval (os.map fun o => fldOf (rc.getD o undef))[j]) ∧ ∃ cs T, w.heap[(fps t g os)[j].2.block]? = some (.cells cs T (0, 0)) ∧ T ≠ 5 := by
  intro j h1 h2
  have hj : j < os.length := by simpa using h2
  have hm := ho os[j] (List.getElem_mem hj)
  have hty := ht os[j] hm
  simp only [fps, List.getElem_map]
  have hc := blk_cell h os[j]
  obtain ⟨o, hoj⟩ : ∃ o, os[j] = o := ⟨_, rfl⟩
  rw [hoj] at hty hc ⊢
  refine ⟨?_, ?_, rc, T, h, hT⟩
  · by_cases hot : (o == t) = true
    · rw [if_pos hot] at hty
      obtain ⟨s, hs⟩ := hty
      have hgd : rc.getD o undef = .string s := by simp [Array.getD_eq_getD_getElem?, hs]
      rw [hgd, hot]
      rfl
    · rw [if_neg hot] at hty
      obtain ⟨s, hs⟩ := hty
      have hgd : rc.getD o undef = .int .i64 s := by simp [Array.getD_eq_getD_getElem?, hs]
      rw [hgd, show (o == t) = false by simpa using hot]
      rfl
  · by_cases hot : (o == t) = true
    · rw [if_pos hot] at hty
      obtain ⟨s, hs⟩ := hty
      have hgd : rc.getD o undef = .string s := by simp [Array.getD_eq_getD_getElem?, hs]
      rw [hgd]
      exact hc.trans hs
    · rw [if_neg hot] at hty
      obtain ⟨s, hs⟩ := hty
      have hgd : rc.getD o undef = .int .i64 s := by simp [Array.getD_eq_getD_getElem?, hs]
      rw [hgd]
      exact hc.trans hs
set_option maxHeartbeats 4000000 in
set_option maxRecDepth 100000 in
theorem wcopied_nil (w : World) : Calls Try.prog 26 #[.slice none 0 0, .slice none 0 0] w fun e w' => e = .returned (.tuple #[]) ∧ w' = w := by
  go_enter Try.func26, Try.ntmps26
  go_wp2
  go_loopg [14] 0 (fun kq v14 w' => v14 = .int .i64 0 ∧ w' = w)
  case atStart => exact ⟨rfl, rfl⟩
  case round =>
    obtain ⟨rfl, rfl⟩ := hrel
    go_wp2
    go_end0
    exact ⟨rfl, rfl⟩

def pickN (os : List Nat) (i : Nat) (a : Int) : Int := if os.contains i = true then a else 0
def pickS (os : List Nat) (i : Nat) (a : ByteArray) : ByteArray := if os.contains i = true then a else ⟨#[]⟩

theorem weqA37 (d : Nat) (w : World) (x0 y0 : Int) (x1 y1 : ByteArray) (x2 y2 x3 y3 x4 y4 x5 y5 x6 y6 : Int) :
    (Op.equalIn (d + 2) 37 (.agg #[.int .i64 x0, .string x1, .int .i64 x2, .int .i64 x3, .int .i64 x4, .int .i64 x5, .int .i64 x6]) (.agg #[.int .i64 y0, .string y1, .int .i64 y2, .int .i64 y3, .int .i64 y4, .int .i64 y5, .int .i64 y6])).run Try.prog w = .ok (x0 == y0 && (x1.toList == y1.toList && (x2 == y2 && (x3 == y3 && (x4 == y4 && (x5 == y5 && (x6 == y6))))))) w := by
  refine eqA_of Try.underlying37 (by kernel_rfl) ?_
  refine eqf_cons (by rfl) (by go_simp; rfl) (by go_simp; rfl) (by go_simp) ?_
  refine eqf_cons (by rfl) (by go_simp; rfl) (by go_simp; rfl) (by go_simp) ?_
  refine eqf_cons (by rfl) (by go_simp; rfl) (by go_simp; rfl) (by go_simp) ?_
  refine eqf_cons (by rfl) (by go_simp; rfl) (by go_simp; rfl) (by go_simp) ?_
  refine eqf_cons (by rfl) (by go_simp; rfl) (by go_simp; rfl) (by go_simp) ?_
  refine eqf_cons (by rfl) (by go_simp; rfl) (by go_simp; rfl) (by go_simp) ?_
  exact eqf_last (by rfl) (by go_simp; rfl) (by go_simp; rfl) (by go_simp)
theorem weqA24 (d : Nat) (w : World) (x0 y0 x1 y1 x2 y2 : Int) (x3 y3 : ByteArray) (x4 y4 : Int) :
    (Op.equalIn (d + 2) 24 (.agg #[.int .i64 x0, .int .i64 x1, .int .i64 x2, .string x3, .int .i64 x4]) (.agg #[.int .i64 y0, .int .i64 y1, .int .i64 y2, .string y3, .int .i64 y4])).run Try.prog w = .ok (x0 == y0 && (x1 == y1 && (x2 == y2 && (x3.toList == y3.toList && (x4 == y4))))) w := by
  refine eqA_of Try.underlying24 (by kernel_rfl) ?_
  refine eqf_cons (by rfl) (by go_simp; rfl) (by go_simp; rfl) (by go_simp) ?_
  refine eqf_cons (by rfl) (by go_simp; rfl) (by go_simp; rfl) (by go_simp) ?_
  refine eqf_cons (by rfl) (by go_simp; rfl) (by go_simp; rfl) (by go_simp) ?_
  refine eqf_cons (by rfl) (by go_simp; rfl) (by go_simp; rfl) (by go_simp) ?_
  exact eqf_last (by rfl) (by go_simp; rfl) (by go_simp; rfl) (by go_simp)

end Go.Proofs.Ytklnnmgfoebbhaa.PWireMsgs
