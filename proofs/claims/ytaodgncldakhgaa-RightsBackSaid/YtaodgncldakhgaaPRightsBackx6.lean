-- Written by wip/xprint of this repo (our own program) out of the translation; what is marked BY HAND is ours. Not trusted: Lean checks it.
import Derived.Test.YtaodgncldakhgaaPRightsBackx0
import Derived.Test.YtaodgncldakhgaaPRightsBackx3
import Derived.Test.YtaodgncldakhgaaPRightsBackx5
namespace Go.Proofs.Ytaodgncldakhgaa.PRightsBack
open Go.RowKit Go.Proofs.YtaodgncldakhgaaW.PrintWords Go.Proofs.YtaodgncldakhgaaW.PrintLast Go.Proofs.YtaodgncldakhgaaW.PrintMore
attribute [local go_sem] max2_int min2_int max_two min_two max_three min_three max_four min_four   -- for this text's walks alone
set_option linter.unusedVariables false
set_option linter.unusedSimpArgs false

/-! ### rights_ReadAccount: function 39 -/
-- BY HAND
def numsF (k : Nat) : Nat → List Int → Option (List Int × Bool)
  | 0, l => some ([], ((l.length : Int) == 0))
  | m + 1, l => (code_TakeNum.f k l).bind fun t => if t.2.2 = true then (if t.1 > 1125899906842624 then some ([], false) else (numsF k m t.2.1).bind fun r => some (wrap64 t.1 :: r.1, r.2)) else some ([], false)
theorem numsF.mono : ∀ (m : Nat) (l : List Int) (k : Nat), LeO (numsF k m l) (numsF (k + 1) m l) := by
  intro m
  induction m with
  | zero => intro l k; exact LeO.refl _
  | succ m ih =>
    intro l k
    rw [numsF, numsF]
    refine LeO.bind (code_TakeNum.mono _ _) (fun t => LeO.ite (LeO.ite (LeO.refl _) (LeO.bind (ih _ _) (fun _ => LeO.refl _))) (LeO.refl _))
set_option maxHeartbeats 8000000 in
set_option maxRecDepth 100000 in
theorem rights_numbers.calls3 (k : Nat) (W0 : World) (g gp g2 : Nat) (A0 : Option Addr) (c0 : Nat) (l0 : List Int) (z : Array Value) (r1 : List Int) (r2 : Bool) (w : World) (hr0 : Kd.C (Kd.int .u8) w A0 l0.length l0) (hc0 : l0.length ≤ c0)
    (hP : w.heap[gp]? = some (.cells #[.pointer (some ⟨g, 0, none⟩), .pointer (some ⟨g, 1, none⟩), .pointer (some ⟨g, 2, none⟩)] 62 (0, 0))) (hG : w.heap[g]? = some (.cells #[.int .i64 0, .int .i64 0, .int .i64 0] 23 (0, 0))) (h2 : w.heap[g2]? = some (.cells z 23 (0, 0))) (hgp : gp ≠ g) (hg2 : g2 ≠ g) (hW : Below W0.heap.size W0 w) (hg : W0.heap.size ≤ g) (h : numsF k 3 l0 = some (r1, r2)) :
    Calls Try.prog 53 #[.slice A0 l0.length c0, .slice (some ⟨gp, 0, none⟩) 3 3] w fun e w' => e = .returned (.bool r2) ∧ ∃ y0 y1 y2 : Int, w'.heap[g]? = some (.cells #[.int .i64 y0, .int .i64 y1, .int .i64 y2] 23 (0, 0)) ∧ (r2 = true → r1 = [y0, y1, y2]) ∧ w'.heap[g2]? = some (.cells z 23 (0, 0)) ∧ Below W0.heap.size W0 w' := by
  have HB := Aside0.mk hW
  have HG := Aside0.mk hG
  have HP := Aside0.mk hP
  have H2 := Aside0.mk h2
  have HC := Aside0.mk hr0
  clear hW hG hP h2 hr0
  go_enter Try.func53, Try.ntmps53
  go_wp2
  go_loopg [0, 12] 4 (fun kq v0 v12 w' => ∃ (j : Nat) (A : Option Addr) (c : Nat) (lb s1 : List Int) (x0 x1 x2 : Int), v0 = .slice A lb.length c ∧ v12 = .int .i64 (j : Int) ∧ Aside0 (kq + j = 4) ∧ Aside0 (j ≤ 3) ∧ Aside0 (numsF k (3 - j) lb = some (s1, r2)) ∧ Aside0 (r2 = true → r1 = [x0, x1, x2].take j ++ s1) ∧ Aside0 (Kd.C (Kd.int .u8) w' A lb.length lb) ∧ Aside0 (lb.length ≤ c) ∧ Aside0 (w'.heap[g]? = some (.cells #[.int .i64 x0, .int .i64 x1, .int .i64 x2] 23 (0, 0))) ∧ Aside0 (w'.heap[gp]? = some (.cells #[.pointer (some ⟨g, 0, none⟩), .pointer (some ⟨g, 1, none⟩), .pointer (some ⟨g, 2, none⟩)] 62 (0, 0))) ∧ Aside0 (w'.heap[g2]? = some (.cells z 23 (0, 0))) ∧ Aside0 (Below W0.heap.size W0 w'))
  case atStart => exact ⟨0, A0, c0, l0, r1, 0, 0, 0, rfl, rfl, ⟨rfl⟩, ⟨Nat.zero_le _⟩, ⟨h⟩, ⟨fun _ => rfl⟩, HC, ⟨hc0⟩, HG, HP, H2, HB⟩
  case round =>
    clear HC HG HP H2 HB h
    obtain ⟨j, A, c, lb, s1, x0, x1, x2, rfl, rfl, HK, HJ, HH, HR, HC, HL, HG, HP, H2, HB⟩ := hrel
    have hj := HJ.out
    have hj2 : j = 0 ∨ j = 1 ∨ j = 2 ∨ j = 3 := by omega
    clear hj
    rcases hj2 with rfl | rfl | rfl | rfl
    · have hcp := blk_cell HP.out 0
      simp only [List.getElem?_toArray, List.getElem?_cons_zero, List.getElem?_cons_succ] at hcp
      have H : ((code_TakeNum.f k lb).bind fun t => if t.2.2 = true then (if t.1 > 1125899906842624 then some ([], false) else (numsF k 2 t.2.1).bind fun r => some (wrap64 t.1 :: r.1, r.2)) else some ([], false)) = some (s1, r2) := HH.out
      obtain ⟨⟨t1, t2, t3⟩, A40, H⟩ := Option.bind_eq_some_iff.mp H
      have A4 := Aside0.mk A40
      clear A40 HH
      cases t3 with
      | false =>
        have H1 : some (([] : List Int), false) = some (s1, r2) := H
        simp only [Option.some.injEq, Prod.mk.injEq] at H1
        obtain ⟨rfl, rfl⟩ := H1
        clear H
        go_wp2_with (first | ((with_reducible refine gate_callee (f := 59) rfl ?_); refine goesL_ (some 18) rfl rfl Try.func59 (by kernel_rfl) rfl #[.slice A lb.length c] rfl (by (try simp only [List.map_toArray, List.map_cons, List.map_nil]); first | done | rfl) ?_; (with_reducible refine (code_TakeNum.calls k _ _ lb t1 t2 false _ ?side1 ?side2 A4.out).mono ?_); (case side1 => repeat (first | exact HC.out | (with_reducible refine Kd.C_alloc ?_ _) | (with_reducible refine Kd.C_drewN ?_ _) | (with_reducible refine Kd.C_drew ?_))); (case side2 => exact HL.out); rintro e w8 ⟨v1, rfl, ho0, hb⟩; refine ⟨_, rfl, ?_⟩; have m0 := Aside0.mk (below_step (by repeat (first | (with_reducible first | exact HB.out | apply below_alloc | apply pw_below_drewN | apply below_drew1) | exact HB.out)) hb); have m1 := Aside0.mk (blk_below (g := g) (o := (.cells #[.int .i64 x0, .int .i64 x1, .int .i64 x2] 23 (0, 0))) (by (with_reducible repeat (first | refine blk_drewN ?_ _ | refine blk_drew ?_ | refine blk_alloc ?_ _)); exact HG.out) hb); have m2 := Aside0.mk (blk_below (g := gp) (o := (.cells #[.pointer (some ⟨g, 0, none⟩), .pointer (some ⟨g, 1, none⟩), .pointer (some ⟨g, 2, none⟩)] 62 (0, 0))) (by (with_reducible repeat (first | refine blk_drewN ?_ _ | refine blk_drew ?_ | refine blk_alloc ?_ _)); exact HP.out) hb); have m3 := Aside0.mk (blk_below (g := g2) (o := .cells z 23 (0, 0)) (by (with_reducible repeat (first | refine blk_drewN ?_ _ | refine blk_drew ?_ | refine blk_alloc ?_ _)); exact H2.out) hb); have m4 := Aside0.mk ho0; clear HB HG HP H2 HC ho0 hb; have HB := m0; have HG := m1; have HP := m2; have H2 := m3; have HO := m4; clear m0 m1 m2 m3 m4; have hcg := blk_cell HG.out 0; have hfg := blk_frozen HG.out 0; simp only [List.getElem?_toArray, List.getElem?_cons_zero, List.getElem?_cons_succ] at hcg))
        go_ret
        exact ⟨by first | rfl | (simp <;> rfl), x0, x1, x2, (by (with_reducible repeat (first | refine blk_drewN ?_ _ | refine blk_drew ?_ | refine blk_alloc ?_ _)); exact HG.out), (fun h_ => absurd h_ (by decide)), (by (with_reducible repeat (first | refine blk_drewN ?_ _ | refine blk_drew ?_ | refine blk_alloc ?_ _)); exact H2.out), by repeat (first | (with_reducible first | exact HB.out | apply below_alloc | apply pw_below_drewN | apply below_drew1) | exact HB.out)⟩
      | true =>
        have H1 : (if t1 > 1125899906842624 then some (([] : List Int), false) else (numsF k 2 t2).bind fun r => some (wrap64 t1 :: r.1, r.2)) = some (s1, r2) := H
        clear H
        by_cases c6 : t1 > 1125899906842624
        · rw [if_pos c6] at H1
          have c6b0 : decide (1125899906842624 < t1) = true := decide_eq_true c6
          clear c6
          simp only [Option.some.injEq, Prod.mk.injEq] at H1
          obtain ⟨rfl, rfl⟩ := H1
          go_wp2_with (first | ((with_reducible refine gate_callee (f := 59) rfl ?_); refine goesL_ (some 18) rfl rfl Try.func59 (by kernel_rfl) rfl #[.slice A lb.length c] rfl (by (try simp only [List.map_toArray, List.map_cons, List.map_nil]); first | done | rfl) ?_; (with_reducible refine (code_TakeNum.calls k _ _ lb t1 t2 true _ ?side1 ?side2 A4.out).mono ?_); (case side1 => repeat (first | exact HC.out | (with_reducible refine Kd.C_alloc ?_ _) | (with_reducible refine Kd.C_drewN ?_ _) | (with_reducible refine Kd.C_drew ?_))); (case side2 => exact HL.out); rintro e w8 ⟨v1, rfl, ho0, hb⟩; refine ⟨_, rfl, ?_⟩; have m0 := Aside0.mk (below_step (by repeat (first | (with_reducible first | exact HB.out | apply below_alloc | apply pw_below_drewN | apply below_drew1) | exact HB.out)) hb); have m1 := Aside0.mk (blk_below (g := g) (o := (.cells #[.int .i64 x0, .int .i64 x1, .int .i64 x2] 23 (0, 0))) (by (with_reducible repeat (first | refine blk_drewN ?_ _ | refine blk_drew ?_ | refine blk_alloc ?_ _)); exact HG.out) hb); have m2 := Aside0.mk (blk_below (g := gp) (o := (.cells #[.pointer (some ⟨g, 0, none⟩), .pointer (some ⟨g, 1, none⟩), .pointer (some ⟨g, 2, none⟩)] 62 (0, 0))) (by (with_reducible repeat (first | refine blk_drewN ?_ _ | refine blk_drew ?_ | refine blk_alloc ?_ _)); exact HP.out) hb); have m3 := Aside0.mk (blk_below (g := g2) (o := .cells z 23 (0, 0)) (by (with_reducible repeat (first | refine blk_drewN ?_ _ | refine blk_drew ?_ | refine blk_alloc ?_ _)); exact H2.out) hb); have m4 := Aside0.mk ho0; clear HB HG HP H2 HC ho0 hb; have HB := m0; have HG := m1; have HP := m2; have H2 := m3; have HO := m4; clear m0 m1 m2 m3 m4; have hcg := blk_cell HG.out 0; have hfg := blk_frozen HG.out 0; simp only [List.getElem?_toArray, List.getElem?_cons_zero, List.getElem?_cons_succ] at hcg))
          go_ret
          exact ⟨by first | rfl | (simp <;> rfl), x0, x1, x2, (by (with_reducible repeat (first | refine blk_drewN ?_ _ | refine blk_drew ?_ | refine blk_alloc ?_ _)); exact HG.out), (fun h_ => absurd h_ (by decide)), (by (with_reducible repeat (first | refine blk_drewN ?_ _ | refine blk_drew ?_ | refine blk_alloc ?_ _)); exact H2.out), by repeat (first | (with_reducible first | exact HB.out | apply below_alloc | apply pw_below_drewN | apply below_drew1) | exact HB.out)⟩
        · rw [if_neg c6] at H1
          have c6b0 : decide (1125899906842624 < t1) = false := decide_eq_false c6
          clear c6
          obtain ⟨⟨s2, r3⟩, h3, H1⟩ := Option.bind_eq_some_iff.mp H1
          simp only [Option.some.injEq, Prod.mk.injEq] at H1
          obtain ⟨rfl, rfl⟩ := H1
          have H3 := Aside0.mk h3
          clear h3
          go_wp2_with (first | ((with_reducible refine gate_callee (f := 59) rfl ?_); refine goesL_ (some 18) rfl rfl Try.func59 (by kernel_rfl) rfl #[.slice A lb.length c] rfl (by (try simp only [List.map_toArray, List.map_cons, List.map_nil]); first | done | rfl) ?_; (with_reducible refine (code_TakeNum.calls k _ _ lb t1 t2 true _ ?side1 ?side2 A4.out).mono ?_); (case side1 => repeat (first | exact HC.out | (with_reducible refine Kd.C_alloc ?_ _) | (with_reducible refine Kd.C_drewN ?_ _) | (with_reducible refine Kd.C_drew ?_))); (case side2 => exact HL.out); rintro e w8 ⟨v1, rfl, ho0, hb⟩; refine ⟨_, rfl, ?_⟩; have m0 := Aside0.mk (below_step (by repeat (first | (with_reducible first | exact HB.out | apply below_alloc | apply pw_below_drewN | apply below_drew1) | exact HB.out)) hb); have m1 := Aside0.mk (blk_below (g := g) (o := (.cells #[.int .i64 x0, .int .i64 x1, .int .i64 x2] 23 (0, 0))) (by (with_reducible repeat (first | refine blk_drewN ?_ _ | refine blk_drew ?_ | refine blk_alloc ?_ _)); exact HG.out) hb); have m2 := Aside0.mk (blk_below (g := gp) (o := (.cells #[.pointer (some ⟨g, 0, none⟩), .pointer (some ⟨g, 1, none⟩), .pointer (some ⟨g, 2, none⟩)] 62 (0, 0))) (by (with_reducible repeat (first | refine blk_drewN ?_ _ | refine blk_drew ?_ | refine blk_alloc ?_ _)); exact HP.out) hb); have m3 := Aside0.mk (blk_below (g := g2) (o := .cells z 23 (0, 0)) (by (with_reducible repeat (first | refine blk_drewN ?_ _ | refine blk_drew ?_ | refine blk_alloc ?_ _)); exact H2.out) hb); have m4 := Aside0.mk ho0; clear HB HG HP H2 HC ho0 hb; have HB := m0; have HG := m1; have HP := m2; have H2 := m3; have HO := m4; clear m0 m1 m2 m3 m4; have hcg := blk_cell HG.out 0; have hfg := blk_frozen HG.out 0; simp only [List.getElem?_toArray, List.getElem?_cons_zero, List.getElem?_cons_succ] at hcg))
          obtain ⟨A9, c9, e9⟩ := Kd.R_slice HO.out
          subst e9
          go_roundg (3)
          case measure => have := HK.out; omega
          case rel => exact ⟨1, A9, c9, t2, s2, wrap64 t1, x1, x2, rfl, rfl, ⟨by have := HK.out; omega⟩, ⟨by decide⟩, ⟨H3.out⟩, ⟨fun h_ => HR.out h_⟩, ⟨(Kd.R_reads' (Kd.R_set (by (with_reducible repeat (first | apply Kd.R_alloc | apply Kd.R_drewN | apply Kd.R_drew)); exact HO.out) (by (with_reducible repeat (first | refine blk_drewN ?_ _ | refine blk_drew ?_ | refine blk_alloc ?_ _)); exact HG.out) (by first | decide | simp [Kd.int]) 0 _)).2.2⟩, ⟨(Kd.R_reads' HO.out).2.1⟩, ⟨blk_set (by (with_reducible repeat (first | refine blk_drewN ?_ _ | refine blk_drew ?_ | refine blk_alloc ?_ _)); exact HG.out) 0 _⟩, ⟨blk_far (by (with_reducible repeat (first | refine blk_drewN ?_ _ | refine blk_drew ?_ | refine blk_alloc ?_ _)); exact HP.out) hgp _⟩, ⟨blk_far (by (with_reducible repeat (first | refine blk_drewN ?_ _ | refine blk_drew ?_ | refine blk_alloc ?_ _)); exact H2.out) hg2 _⟩, ⟨below_set (by repeat (first | (with_reducible first | exact HB.out | apply below_alloc | apply pw_below_drewN | apply below_drew1) | exact HB.out)) hg⟩⟩
    · have hcp := blk_cell HP.out 1
      simp only [List.getElem?_toArray, List.getElem?_cons_zero, List.getElem?_cons_succ] at hcp
      have H : ((code_TakeNum.f k lb).bind fun t => if t.2.2 = true then (if t.1 > 1125899906842624 then some ([], false) else (numsF k 1 t.2.1).bind fun r => some (wrap64 t.1 :: r.1, r.2)) else some ([], false)) = some (s1, r2) := HH.out
      obtain ⟨⟨t1, t2, t3⟩, A40, H⟩ := Option.bind_eq_some_iff.mp H
      have A4 := Aside0.mk A40
      clear A40 HH
      cases t3 with
      | false =>
        have H1 : some (([] : List Int), false) = some (s1, r2) := H
        simp only [Option.some.injEq, Prod.mk.injEq] at H1
        obtain ⟨rfl, rfl⟩ := H1
        clear H
        go_wp2_with (first | ((with_reducible refine gate_callee (f := 59) rfl ?_); refine goesL_ (some 18) rfl rfl Try.func59 (by kernel_rfl) rfl #[.slice A lb.length c] rfl (by (try simp only [List.map_toArray, List.map_cons, List.map_nil]); first | done | rfl) ?_; (with_reducible refine (code_TakeNum.calls k _ _ lb t1 t2 false _ ?side1 ?side2 A4.out).mono ?_); (case side1 => repeat (first | exact HC.out | (with_reducible refine Kd.C_alloc ?_ _) | (with_reducible refine Kd.C_drewN ?_ _) | (with_reducible refine Kd.C_drew ?_))); (case side2 => exact HL.out); rintro e w8 ⟨v1, rfl, ho0, hb⟩; refine ⟨_, rfl, ?_⟩; have m0 := Aside0.mk (below_step (by repeat (first | (with_reducible first | exact HB.out | apply below_alloc | apply pw_below_drewN | apply below_drew1) | exact HB.out)) hb); have m1 := Aside0.mk (blk_below (g := g) (o := (.cells #[.int .i64 x0, .int .i64 x1, .int .i64 x2] 23 (0, 0))) (by (with_reducible repeat (first | refine blk_drewN ?_ _ | refine blk_drew ?_ | refine blk_alloc ?_ _)); exact HG.out) hb); have m2 := Aside0.mk (blk_below (g := gp) (o := (.cells #[.pointer (some ⟨g, 0, none⟩), .pointer (some ⟨g, 1, none⟩), .pointer (some ⟨g, 2, none⟩)] 62 (0, 0))) (by (with_reducible repeat (first | refine blk_drewN ?_ _ | refine blk_drew ?_ | refine blk_alloc ?_ _)); exact HP.out) hb); have m3 := Aside0.mk (blk_below (g := g2) (o := .cells z 23 (0, 0)) (by (with_reducible repeat (first | refine blk_drewN ?_ _ | refine blk_drew ?_ | refine blk_alloc ?_ _)); exact H2.out) hb); have m4 := Aside0.mk ho0; clear HB HG HP H2 HC ho0 hb; have HB := m0; have HG := m1; have HP := m2; have H2 := m3; have HO := m4; clear m0 m1 m2 m3 m4; have hcg := blk_cell HG.out 1; have hfg := blk_frozen HG.out 1; simp only [List.getElem?_toArray, List.getElem?_cons_zero, List.getElem?_cons_succ] at hcg))
        go_ret
        exact ⟨by first | rfl | (simp <;> rfl), x0, x1, x2, (by (with_reducible repeat (first | refine blk_drewN ?_ _ | refine blk_drew ?_ | refine blk_alloc ?_ _)); exact HG.out), (fun h_ => absurd h_ (by decide)), (by (with_reducible repeat (first | refine blk_drewN ?_ _ | refine blk_drew ?_ | refine blk_alloc ?_ _)); exact H2.out), by repeat (first | (with_reducible first | exact HB.out | apply below_alloc | apply pw_below_drewN | apply below_drew1) | exact HB.out)⟩
      | true =>
        have H1 : (if t1 > 1125899906842624 then some (([] : List Int), false) else (numsF k 1 t2).bind fun r => some (wrap64 t1 :: r.1, r.2)) = some (s1, r2) := H
        clear H
        by_cases c6 : t1 > 1125899906842624
        · rw [if_pos c6] at H1
          have c6b0 : decide (1125899906842624 < t1) = true := decide_eq_true c6
          clear c6
          simp only [Option.some.injEq, Prod.mk.injEq] at H1
          obtain ⟨rfl, rfl⟩ := H1
          go_wp2_with (first | ((with_reducible refine gate_callee (f := 59) rfl ?_); refine goesL_ (some 18) rfl rfl Try.func59 (by kernel_rfl) rfl #[.slice A lb.length c] rfl (by (try simp only [List.map_toArray, List.map_cons, List.map_nil]); first | done | rfl) ?_; (with_reducible refine (code_TakeNum.calls k _ _ lb t1 t2 true _ ?side1 ?side2 A4.out).mono ?_); (case side1 => repeat (first | exact HC.out | (with_reducible refine Kd.C_alloc ?_ _) | (with_reducible refine Kd.C_drewN ?_ _) | (with_reducible refine Kd.C_drew ?_))); (case side2 => exact HL.out); rintro e w8 ⟨v1, rfl, ho0, hb⟩; refine ⟨_, rfl, ?_⟩; have m0 := Aside0.mk (below_step (by repeat (first | (with_reducible first | exact HB.out | apply below_alloc | apply pw_below_drewN | apply below_drew1) | exact HB.out)) hb); have m1 := Aside0.mk (blk_below (g := g) (o := (.cells #[.int .i64 x0, .int .i64 x1, .int .i64 x2] 23 (0, 0))) (by (with_reducible repeat (first | refine blk_drewN ?_ _ | refine blk_drew ?_ | refine blk_alloc ?_ _)); exact HG.out) hb); have m2 := Aside0.mk (blk_below (g := gp) (o := (.cells #[.pointer (some ⟨g, 0, none⟩), .pointer (some ⟨g, 1, none⟩), .pointer (some ⟨g, 2, none⟩)] 62 (0, 0))) (by (with_reducible repeat (first | refine blk_drewN ?_ _ | refine blk_drew ?_ | refine blk_alloc ?_ _)); exact HP.out) hb); have m3 := Aside0.mk (blk_below (g := g2) (o := .cells z 23 (0, 0)) (by (with_reducible repeat (first | refine blk_drewN ?_ _ | refine blk_drew ?_ | refine blk_alloc ?_ _)); exact H2.out) hb); have m4 := Aside0.mk ho0; clear HB HG HP H2 HC ho0 hb; have HB := m0; have HG := m1; have HP := m2; have H2 := m3; have HO := m4; clear m0 m1 m2 m3 m4; have hcg := blk_cell HG.out 1; have hfg := blk_frozen HG.out 1; simp only [List.getElem?_toArray, List.getElem?_cons_zero, List.getElem?_cons_succ] at hcg))
          go_ret
          exact ⟨by first | rfl | (simp <;> rfl), x0, x1, x2, (by (with_reducible repeat (first | refine blk_drewN ?_ _ | refine blk_drew ?_ | refine blk_alloc ?_ _)); exact HG.out), (fun h_ => absurd h_ (by decide)), (by (with_reducible repeat (first | refine blk_drewN ?_ _ | refine blk_drew ?_ | refine blk_alloc ?_ _)); exact H2.out), by repeat (first | (with_reducible first | exact HB.out | apply below_alloc | apply pw_below_drewN | apply below_drew1) | exact HB.out)⟩
        · rw [if_neg c6] at H1
          have c6b0 : decide (1125899906842624 < t1) = false := decide_eq_false c6
          clear c6
          obtain ⟨⟨s2, r3⟩, h3, H1⟩ := Option.bind_eq_some_iff.mp H1
          simp only [Option.some.injEq, Prod.mk.injEq] at H1
          obtain ⟨rfl, rfl⟩ := H1
          have H3 := Aside0.mk h3
          clear h3
          go_wp2_with (first | ((with_reducible refine gate_callee (f := 59) rfl ?_); refine goesL_ (some 18) rfl rfl Try.func59 (by kernel_rfl) rfl #[.slice A lb.length c] rfl (by (try simp only [List.map_toArray, List.map_cons, List.map_nil]); first | done | rfl) ?_; (with_reducible refine (code_TakeNum.calls k _ _ lb t1 t2 true _ ?side1 ?side2 A4.out).mono ?_); (case side1 => repeat (first | exact HC.out | (with_reducible refine Kd.C_alloc ?_ _) | (with_reducible refine Kd.C_drewN ?_ _) | (with_reducible refine Kd.C_drew ?_))); (case side2 => exact HL.out); rintro e w8 ⟨v1, rfl, ho0, hb⟩; refine ⟨_, rfl, ?_⟩; have m0 := Aside0.mk (below_step (by repeat (first | (with_reducible first | exact HB.out | apply below_alloc | apply pw_below_drewN | apply below_drew1) | exact HB.out)) hb); have m1 := Aside0.mk (blk_below (g := g) (o := (.cells #[.int .i64 x0, .int .i64 x1, .int .i64 x2] 23 (0, 0))) (by (with_reducible repeat (first | refine blk_drewN ?_ _ | refine blk_drew ?_ | refine blk_alloc ?_ _)); exact HG.out) hb); have m2 := Aside0.mk (blk_below (g := gp) (o := (.cells #[.pointer (some ⟨g, 0, none⟩), .pointer (some ⟨g, 1, none⟩), .pointer (some ⟨g, 2, none⟩)] 62 (0, 0))) (by (with_reducible repeat (first | refine blk_drewN ?_ _ | refine blk_drew ?_ | refine blk_alloc ?_ _)); exact HP.out) hb); have m3 := Aside0.mk (blk_below (g := g2) (o := .cells z 23 (0, 0)) (by (with_reducible repeat (first | refine blk_drewN ?_ _ | refine blk_drew ?_ | refine blk_alloc ?_ _)); exact H2.out) hb); have m4 := Aside0.mk ho0; clear HB HG HP H2 HC ho0 hb; have HB := m0; have HG := m1; have HP := m2; have H2 := m3; have HO := m4; clear m0 m1 m2 m3 m4; have hcg := blk_cell HG.out 1; have hfg := blk_frozen HG.out 1; simp only [List.getElem?_toArray, List.getElem?_cons_zero, List.getElem?_cons_succ] at hcg))
          obtain ⟨A9, c9, e9⟩ := Kd.R_slice HO.out
          subst e9
          go_roundg (2)
          case measure => have := HK.out; omega
          case rel => exact ⟨2, A9, c9, t2, s2, x0, wrap64 t1, x2, rfl, rfl, ⟨by have := HK.out; omega⟩, ⟨by decide⟩, ⟨H3.out⟩, ⟨fun h_ => HR.out h_⟩, ⟨(Kd.R_reads' (Kd.R_set (by (with_reducible repeat (first | apply Kd.R_alloc | apply Kd.R_drewN | apply Kd.R_drew)); exact HO.out) (by (with_reducible repeat (first | refine blk_drewN ?_ _ | refine blk_drew ?_ | refine blk_alloc ?_ _)); exact HG.out) (by first | decide | simp [Kd.int]) 1 _)).2.2⟩, ⟨(Kd.R_reads' HO.out).2.1⟩, ⟨blk_set (by (with_reducible repeat (first | refine blk_drewN ?_ _ | refine blk_drew ?_ | refine blk_alloc ?_ _)); exact HG.out) 1 _⟩, ⟨blk_far (by (with_reducible repeat (first | refine blk_drewN ?_ _ | refine blk_drew ?_ | refine blk_alloc ?_ _)); exact HP.out) hgp _⟩, ⟨blk_far (by (with_reducible repeat (first | refine blk_drewN ?_ _ | refine blk_drew ?_ | refine blk_alloc ?_ _)); exact H2.out) hg2 _⟩, ⟨below_set (by repeat (first | (with_reducible first | exact HB.out | apply below_alloc | apply pw_below_drewN | apply below_drew1) | exact HB.out)) hg⟩⟩
    · have hcp := blk_cell HP.out 2
      simp only [List.getElem?_toArray, List.getElem?_cons_zero, List.getElem?_cons_succ] at hcp
      have H : ((code_TakeNum.f k lb).bind fun t => if t.2.2 = true then (if t.1 > 1125899906842624 then some ([], false) else (numsF k 0 t.2.1).bind fun r => some (wrap64 t.1 :: r.1, r.2)) else some ([], false)) = some (s1, r2) := HH.out
      obtain ⟨⟨t1, t2, t3⟩, A40, H⟩ := Option.bind_eq_some_iff.mp H
      have A4 := Aside0.mk A40
      clear A40 HH
      cases t3 with
      | false =>
        have H1 : some (([] : List Int), false) = some (s1, r2) := H
        simp only [Option.some.injEq, Prod.mk.injEq] at H1
        obtain ⟨rfl, rfl⟩ := H1
        clear H
        go_wp2_with (first | ((with_reducible refine gate_callee (f := 59) rfl ?_); refine goesL_ (some 18) rfl rfl Try.func59 (by kernel_rfl) rfl #[.slice A lb.length c] rfl (by (try simp only [List.map_toArray, List.map_cons, List.map_nil]); first | done | rfl) ?_; (with_reducible refine (code_TakeNum.calls k _ _ lb t1 t2 false _ ?side1 ?side2 A4.out).mono ?_); (case side1 => repeat (first | exact HC.out | (with_reducible refine Kd.C_alloc ?_ _) | (with_reducible refine Kd.C_drewN ?_ _) | (with_reducible refine Kd.C_drew ?_))); (case side2 => exact HL.out); rintro e w8 ⟨v1, rfl, ho0, hb⟩; refine ⟨_, rfl, ?_⟩; have m0 := Aside0.mk (below_step (by repeat (first | (with_reducible first | exact HB.out | apply below_alloc | apply pw_below_drewN | apply below_drew1) | exact HB.out)) hb); have m1 := Aside0.mk (blk_below (g := g) (o := (.cells #[.int .i64 x0, .int .i64 x1, .int .i64 x2] 23 (0, 0))) (by (with_reducible repeat (first | refine blk_drewN ?_ _ | refine blk_drew ?_ | refine blk_alloc ?_ _)); exact HG.out) hb); have m2 := Aside0.mk (blk_below (g := gp) (o := (.cells #[.pointer (some ⟨g, 0, none⟩), .pointer (some ⟨g, 1, none⟩), .pointer (some ⟨g, 2, none⟩)] 62 (0, 0))) (by (with_reducible repeat (first | refine blk_drewN ?_ _ | refine blk_drew ?_ | refine blk_alloc ?_ _)); exact HP.out) hb); have m3 := Aside0.mk (blk_below (g := g2) (o := .cells z 23 (0, 0)) (by (with_reducible repeat (first | refine blk_drewN ?_ _ | refine blk_drew ?_ | refine blk_alloc ?_ _)); exact H2.out) hb); have m4 := Aside0.mk ho0; clear HB HG HP H2 HC ho0 hb; have HB := m0; have HG := m1; have HP := m2; have H2 := m3; have HO := m4; clear m0 m1 m2 m3 m4; have hcg := blk_cell HG.out 2; have hfg := blk_frozen HG.out 2; simp only [List.getElem?_toArray, List.getElem?_cons_zero, List.getElem?_cons_succ] at hcg))
        go_ret
        exact ⟨by first | rfl | (simp <;> rfl), x0, x1, x2, (by (with_reducible repeat (first | refine blk_drewN ?_ _ | refine blk_drew ?_ | refine blk_alloc ?_ _)); exact HG.out), (fun h_ => absurd h_ (by decide)), (by (with_reducible repeat (first | refine blk_drewN ?_ _ | refine blk_drew ?_ | refine blk_alloc ?_ _)); exact H2.out), by repeat (first | (with_reducible first | exact HB.out | apply below_alloc | apply pw_below_drewN | apply below_drew1) | exact HB.out)⟩
      | true =>
        have H1 : (if t1 > 1125899906842624 then some (([] : List Int), false) else (numsF k 0 t2).bind fun r => some (wrap64 t1 :: r.1, r.2)) = some (s1, r2) := H
        clear H
        by_cases c6 : t1 > 1125899906842624
        · rw [if_pos c6] at H1
          have c6b0 : decide (1125899906842624 < t1) = true := decide_eq_true c6
          clear c6
          simp only [Option.some.injEq, Prod.mk.injEq] at H1
          obtain ⟨rfl, rfl⟩ := H1
          go_wp2_with (first | ((with_reducible refine gate_callee (f := 59) rfl ?_); refine goesL_ (some 18) rfl rfl Try.func59 (by kernel_rfl) rfl #[.slice A lb.length c] rfl (by (try simp only [List.map_toArray, List.map_cons, List.map_nil]); first | done | rfl) ?_; (with_reducible refine (code_TakeNum.calls k _ _ lb t1 t2 true _ ?side1 ?side2 A4.out).mono ?_); (case side1 => repeat (first | exact HC.out | (with_reducible refine Kd.C_alloc ?_ _) | (with_reducible refine Kd.C_drewN ?_ _) | (with_reducible refine Kd.C_drew ?_))); (case side2 => exact HL.out); rintro e w8 ⟨v1, rfl, ho0, hb⟩; refine ⟨_, rfl, ?_⟩; have m0 := Aside0.mk (below_step (by repeat (first | (with_reducible first | exact HB.out | apply below_alloc | apply pw_below_drewN | apply below_drew1) | exact HB.out)) hb); have m1 := Aside0.mk (blk_below (g := g) (o := (.cells #[.int .i64 x0, .int .i64 x1, .int .i64 x2] 23 (0, 0))) (by (with_reducible repeat (first | refine blk_drewN ?_ _ | refine blk_drew ?_ | refine blk_alloc ?_ _)); exact HG.out) hb); have m2 := Aside0.mk (blk_below (g := gp) (o := (.cells #[.pointer (some ⟨g, 0, none⟩), .pointer (some ⟨g, 1, none⟩), .pointer (some ⟨g, 2, none⟩)] 62 (0, 0))) (by (with_reducible repeat (first | refine blk_drewN ?_ _ | refine blk_drew ?_ | refine blk_alloc ?_ _)); exact HP.out) hb); have m3 := Aside0.mk (blk_below (g := g2) (o := .cells z 23 (0, 0)) (by (with_reducible repeat (first | refine blk_drewN ?_ _ | refine blk_drew ?_ | refine blk_alloc ?_ _)); exact H2.out) hb); have m4 := Aside0.mk ho0; clear HB HG HP H2 HC ho0 hb; have HB := m0; have HG := m1; have HP := m2; have H2 := m3; have HO := m4; clear m0 m1 m2 m3 m4; have hcg := blk_cell HG.out 2; have hfg := blk_frozen HG.out 2; simp only [List.getElem?_toArray, List.getElem?_cons_zero, List.getElem?_cons_succ] at hcg))
          go_ret
          exact ⟨by first | rfl | (simp <;> rfl), x0, x1, x2, (by (with_reducible repeat (first | refine blk_drewN ?_ _ | refine blk_drew ?_ | refine blk_alloc ?_ _)); exact HG.out), (fun h_ => absurd h_ (by decide)), (by (with_reducible repeat (first | refine blk_drewN ?_ _ | refine blk_drew ?_ | refine blk_alloc ?_ _)); exact H2.out), by repeat (first | (with_reducible first | exact HB.out | apply below_alloc | apply pw_below_drewN | apply below_drew1) | exact HB.out)⟩
        · rw [if_neg c6] at H1
          have c6b0 : decide (1125899906842624 < t1) = false := decide_eq_false c6
          clear c6
          obtain ⟨⟨s2, r3⟩, h3, H1⟩ := Option.bind_eq_some_iff.mp H1
          simp only [Option.some.injEq, Prod.mk.injEq] at H1
          obtain ⟨rfl, rfl⟩ := H1
          have H3 := Aside0.mk h3
          clear h3
          go_wp2_with (first | ((with_reducible refine gate_callee (f := 59) rfl ?_); refine goesL_ (some 18) rfl rfl Try.func59 (by kernel_rfl) rfl #[.slice A lb.length c] rfl (by (try simp only [List.map_toArray, List.map_cons, List.map_nil]); first | done | rfl) ?_; (with_reducible refine (code_TakeNum.calls k _ _ lb t1 t2 true _ ?side1 ?side2 A4.out).mono ?_); (case side1 => repeat (first | exact HC.out | (with_reducible refine Kd.C_alloc ?_ _) | (with_reducible refine Kd.C_drewN ?_ _) | (with_reducible refine Kd.C_drew ?_))); (case side2 => exact HL.out); rintro e w8 ⟨v1, rfl, ho0, hb⟩; refine ⟨_, rfl, ?_⟩; have m0 := Aside0.mk (below_step (by repeat (first | (with_reducible first | exact HB.out | apply below_alloc | apply pw_below_drewN | apply below_drew1) | exact HB.out)) hb); have m1 := Aside0.mk (blk_below (g := g) (o := (.cells #[.int .i64 x0, .int .i64 x1, .int .i64 x2] 23 (0, 0))) (by (with_reducible repeat (first | refine blk_drewN ?_ _ | refine blk_drew ?_ | refine blk_alloc ?_ _)); exact HG.out) hb); have m2 := Aside0.mk (blk_below (g := gp) (o := (.cells #[.pointer (some ⟨g, 0, none⟩), .pointer (some ⟨g, 1, none⟩), .pointer (some ⟨g, 2, none⟩)] 62 (0, 0))) (by (with_reducible repeat (first | refine blk_drewN ?_ _ | refine blk_drew ?_ | refine blk_alloc ?_ _)); exact HP.out) hb); have m3 := Aside0.mk (blk_below (g := g2) (o := .cells z 23 (0, 0)) (by (with_reducible repeat (first | refine blk_drewN ?_ _ | refine blk_drew ?_ | refine blk_alloc ?_ _)); exact H2.out) hb); have m4 := Aside0.mk ho0; clear HB HG HP H2 HC ho0 hb; have HB := m0; have HG := m1; have HP := m2; have H2 := m3; have HO := m4; clear m0 m1 m2 m3 m4; have hcg := blk_cell HG.out 2; have hfg := blk_frozen HG.out 2; simp only [List.getElem?_toArray, List.getElem?_cons_zero, List.getElem?_cons_succ] at hcg))
          obtain ⟨A9, c9, e9⟩ := Kd.R_slice HO.out
          subst e9
          go_roundg (1)
          case measure => have := HK.out; omega
          case rel => exact ⟨3, A9, c9, t2, s2, x0, x1, wrap64 t1, rfl, rfl, ⟨by have := HK.out; omega⟩, ⟨by decide⟩, ⟨H3.out⟩, ⟨fun h_ => HR.out h_⟩, ⟨(Kd.R_reads' (Kd.R_set (by (with_reducible repeat (first | apply Kd.R_alloc | apply Kd.R_drewN | apply Kd.R_drew)); exact HO.out) (by (with_reducible repeat (first | refine blk_drewN ?_ _ | refine blk_drew ?_ | refine blk_alloc ?_ _)); exact HG.out) (by first | decide | simp [Kd.int]) 2 _)).2.2⟩, ⟨(Kd.R_reads' HO.out).2.1⟩, ⟨blk_set (by (with_reducible repeat (first | refine blk_drewN ?_ _ | refine blk_drew ?_ | refine blk_alloc ?_ _)); exact HG.out) 2 _⟩, ⟨blk_far (by (with_reducible repeat (first | refine blk_drewN ?_ _ | refine blk_drew ?_ | refine blk_alloc ?_ _)); exact HP.out) hgp _⟩, ⟨blk_far (by (with_reducible repeat (first | refine blk_drewN ?_ _ | refine blk_drew ?_ | refine blk_alloc ?_ _)); exact H2.out) hg2 _⟩, ⟨below_set (by repeat (first | (with_reducible first | exact HB.out | apply below_alloc | apply pw_below_drewN | apply below_drew1) | exact HB.out)) hg⟩⟩
    · have H : some (([] : List Int), ((lb.length : Int) == 0)) = some (s1, r2) := HH.out
      simp only [Option.some.injEq, Prod.mk.injEq] at H
      obtain ⟨rfl, rfl⟩ := H
      go_wp2
      go_ret
      exact ⟨by first | rfl | (simp <;> rfl), x0, x1, x2, (by (with_reducible repeat (first | refine blk_drewN ?_ _ | refine blk_drew ?_ | refine blk_alloc ?_ _)); exact HG.out), (fun h_ => HR.out h_), (by (with_reducible repeat (first | refine blk_drewN ?_ _ | refine blk_drew ?_ | refine blk_alloc ?_ _)); exact H2.out), by repeat (first | (with_reducible first | exact HB.out | apply below_alloc | apply pw_below_drewN | apply below_drew1) | exact HB.out)⟩
set_option maxHeartbeats 8000000 in
set_option maxRecDepth 100000 in
theorem racc_A (k : Nat) (A0 : Option Addr) (c0 : Nat) (l0 : List Int) (s : List Int) (h : numsF k 3 l0 = some (s, false)) (w : World) (hr0 : Kd.C (Kd.int .u8) w A0 l0.length l0) (hc0 : l0.length ≤ c0) :
    Calls Try.prog 39 #[.slice A0 l0.length c0] w fun e w' => e = .returned (.tuple #[.agg #[.int .i64 0, .int .i64 0, .int .i64 0], .int .i64 206]) ∧ Below w.heap.size w w' := by
  have hu23 := Try.underlying23
  have hu69 := Try.underlying69
  have HB := Aside0.mk (Below.refl w.heap.size w)
  have HC := Aside0.mk hr0
  clear hr0
  go_enter Try.func39, Try.ntmps39
  go_wp2_with (first | ((with_reducible refine gate_dst (N := 2) rfl ?_); refine box_event ?hg (N := 2) ?hd (cs := #[.int .i64 0, .int .i64 0, .int .i64 0]) (t := 23) ?hr ?_; (case hd => rfl); (case hg => rfl); (case hr => first | (go_simp; done) | (go_simp; rfl)); intro g2 hg w1 hbox hb; have m0 := Aside0.mk (below_step (by repeat (first | (with_reducible first | exact HB.out | apply below_alloc | apply pw_below_drewN | apply below_drew1) | exact HB.out)) hb); have m1 := Aside0.mk hbox; have m2 := Aside0.mk ((by rw [hg]; exact (below_size (by repeat (first | (with_reducible first | exact HB.out | apply below_alloc | apply pw_below_drewN | apply below_drew1) | exact HB.out))) : w.heap.size ≤ g2)); have m3 := Aside0.mk (Kd.C_below (by repeat (first | exact HC.out | (with_reducible refine Kd.C_alloc ?_ _) | (with_reducible refine Kd.C_drewN ?_ _) | (with_reducible refine Kd.C_drew ?_))) hb); clear HB HC; have HB := m0; have B2 := m1; have G2 := m2; have HC := m3; clear m0 m1 m2 m3; clear hb hbox hg) | ((with_reducible refine gate_dst (N := 4) rfl ?_); refine box_event ?hg (N := 4) ?hd (cs := #[.int .i64 0, .int .i64 0, .int .i64 0]) (t := 23) ?hr ?_; (case hd => rfl); (case hg => rfl); (case hr => first | (go_simp; done) | (go_simp; rfl)); intro g hg w2 hbox hb; have m0 := Aside0.mk (below_step (by repeat (first | (with_reducible first | exact HB.out | apply below_alloc | apply pw_below_drewN | apply below_drew1 | refine below_set ?_ G2.out) | exact HB.out)) hb); have m1 := Aside0.mk hbox; have m2 := Aside0.mk ((by rw [hg]; exact (below_size (by repeat (first | (with_reducible first | exact HB.out | apply below_alloc | apply pw_below_drewN | apply below_drew1 | refine below_set ?_ G2.out) | exact HB.out))) : w.heap.size ≤ g)); have m3 := Aside0.mk (Kd.C_below (by repeat (first | exact HC.out | (with_reducible refine Kd.C_alloc ?_ _) | (with_reducible refine Kd.C_drewN ?_ _) | (with_reducible refine Kd.C_drew ?_))) hb); have m4 := Aside0.mk (blk_below (g := g2) (o := (.cells #[.int .i64 0, .int .i64 0, .int .i64 0] 23 (0, 0))) (by (with_reducible repeat (first | refine blk_drewN ?_ _ | refine blk_drew ?_ | refine blk_alloc ?_ _)); exact B2.out) hb); have m5 := Aside0.mk ((by rw [hg]; exact Nat.ne_of_lt (blk_lt (g := g2) (o := (.cells #[.int .i64 0, .int .i64 0, .int .i64 0] 23 (0, 0))) (by (with_reducible repeat (first | refine blk_drewN ?_ _ | refine blk_drew ?_ | refine blk_alloc ?_ _)); exact B2.out)) : g2 ≠ g)); clear HB HC B2; have HB := m0; have BG := m1; have GG := m2; have HC := m3; have B2 := m4; have N2 := m5; clear m0 m1 m2 m3 m4 m5; clear hb hbox hg))
  refine (rights_numbers.calls3 k w g w2.heap.size g2 A0 c0 l0 #[.int .i64 0, .int .i64 0, .int .i64 0] s false _ (Kd.C_alloc HC.out _) hc0 (blk_new _ _) (blk_alloc BG.out _) (blk_alloc B2.out _) (Nat.ne_of_gt (blk_lt BG.out)) N2.out (below_alloc HB.out _) GG.out h).mono ?_
  rintro e w5 ⟨rfl, u0, u1, u2, hG5, hr5, h25, hW5⟩
  clear HB HC BG B2
  have HB := Aside0.mk hW5
  have BG := Aside0.mk hG5
  have B2 := Aside0.mk h25
  clear hW5 hG5 h25 hr5
  have hn1 := N2.out
  have hn2 := Ne.symm N2.out
  have hcBG0 := blk_cell BG.out 0
  have hfBG0 := blk_frozen BG.out 0
  have hcBG1 := blk_cell BG.out 1
  have hfBG1 := blk_frozen BG.out 1
  have hcBG2 := blk_cell BG.out 2
  have hfBG2 := blk_frozen BG.out 2
  have hcB20 := blk_cell B2.out 0
  have hfB20 := blk_frozen B2.out 0
  have hcB21 := blk_cell B2.out 1
  have hfB21 := blk_frozen B2.out 1
  have hcB22 := blk_cell B2.out 2
  have hfB22 := blk_frozen B2.out 2
  simp only [List.getElem?_toArray, List.getElem?_cons_zero, List.getElem?_cons_succ] at hcBG0 hcBG1 hcBG2 hcB20 hcB21 hcB22
  dsimp only
  go_wp2
  refine bodyPost_ret (results_ct rfl _ _ g2 23 #[.int .i64 0, .int .i64 0, .int .i64 0] (0, 0) _ rfl (by (with_reducible repeat (first | refine blk_drewN ?_ _ | refine blk_drew ?_ | refine blk_alloc ?_ _)); refine blk_put (cs := #[.int .i64 0, .int .i64 0, .int .i64 0]) ?_ 2 _ rfl; (with_reducible repeat (first | refine blk_drewN ?_ _ | refine blk_drew ?_ | refine blk_alloc ?_ _)); refine blk_put (cs := #[.int .i64 0, .int .i64 0, .int .i64 0]) ?_ 1 _ rfl; (with_reducible repeat (first | refine blk_drewN ?_ _ | refine blk_drew ?_ | refine blk_alloc ?_ _)); refine blk_put (cs := #[.int .i64 0, .int .i64 0, .int .i64 0]) ?_ 0 _ rfl; (with_reducible repeat (first | refine blk_drewN ?_ _ | refine blk_drew ?_ | refine blk_alloc ?_ _)); exact B2.out) Try.underlying23 rfl (by kernel_rfl)) rfl ?_
  exact ⟨by first | rfl | (simp <;> rfl), by repeat (first | (with_reducible first | exact HB.out | apply below_alloc | apply pw_below_drewN | apply below_drew1 | refine below_set ?_ G2.out | refine below_set ?_ GG.out) | exact HB.out)⟩
set_option maxHeartbeats 8000000 in
set_option maxRecDepth 100000 in
theorem racc_B (k : Nat) (A0 : Option Addr) (c0 : Nat) (l0 : List Int) (y0 y1 y2 : Int) (h : numsF k 3 l0 = some ([y0, y1, y2], true)) (hs : rights_sound.f y0 y1 y2 = some false) (w : World) (hr0 : Kd.C (Kd.int .u8) w A0 l0.length l0) (hc0 : l0.length ≤ c0) :
    Calls Try.prog 39 #[.slice A0 l0.length c0] w fun e w' => e = .returned (.tuple #[.agg #[.int .i64 0, .int .i64 0, .int .i64 0], .int .i64 206]) ∧ Below w.heap.size w w' := by
  have hu23 := Try.underlying23
  have hu69 := Try.underlying69
  have HB := Aside0.mk (Below.refl w.heap.size w)
  have HC := Aside0.mk hr0
  clear hr0
  go_enter Try.func39, Try.ntmps39
  go_wp2_with (first | ((with_reducible refine gate_dst (N := 2) rfl ?_); refine box_event ?hg (N := 2) ?hd (cs := #[.int .i64 0, .int .i64 0, .int .i64 0]) (t := 23) ?hr ?_; (case hd => rfl); (case hg => rfl); (case hr => first | (go_simp; done) | (go_simp; rfl)); intro g2 hg w1 hbox hb; have m0 := Aside0.mk (below_step (by repeat (first | (with_reducible first | exact HB.out | apply below_alloc | apply pw_below_drewN | apply below_drew1) | exact HB.out)) hb); have m1 := Aside0.mk hbox; have m2 := Aside0.mk ((by rw [hg]; exact (below_size (by repeat (first | (with_reducible first | exact HB.out | apply below_alloc | apply pw_below_drewN | apply below_drew1) | exact HB.out))) : w.heap.size ≤ g2)); have m3 := Aside0.mk (Kd.C_below (by repeat (first | exact HC.out | (with_reducible refine Kd.C_alloc ?_ _) | (with_reducible refine Kd.C_drewN ?_ _) | (with_reducible refine Kd.C_drew ?_))) hb); clear HB HC; have HB := m0; have B2 := m1; have G2 := m2; have HC := m3; clear m0 m1 m2 m3; clear hb hbox hg) | ((with_reducible refine gate_dst (N := 4) rfl ?_); refine box_event ?hg (N := 4) ?hd (cs := #[.int .i64 0, .int .i64 0, .int .i64 0]) (t := 23) ?hr ?_; (case hd => rfl); (case hg => rfl); (case hr => first | (go_simp; done) | (go_simp; rfl)); intro g hg w2 hbox hb; have m0 := Aside0.mk (below_step (by repeat (first | (with_reducible first | exact HB.out | apply below_alloc | apply pw_below_drewN | apply below_drew1 | refine below_set ?_ G2.out) | exact HB.out)) hb); have m1 := Aside0.mk hbox; have m2 := Aside0.mk ((by rw [hg]; exact (below_size (by repeat (first | (with_reducible first | exact HB.out | apply below_alloc | apply pw_below_drewN | apply below_drew1 | refine below_set ?_ G2.out) | exact HB.out))) : w.heap.size ≤ g)); have m3 := Aside0.mk (Kd.C_below (by repeat (first | exact HC.out | (with_reducible refine Kd.C_alloc ?_ _) | (with_reducible refine Kd.C_drewN ?_ _) | (with_reducible refine Kd.C_drew ?_))) hb); have m4 := Aside0.mk (blk_below (g := g2) (o := (.cells #[.int .i64 0, .int .i64 0, .int .i64 0] 23 (0, 0))) (by (with_reducible repeat (first | refine blk_drewN ?_ _ | refine blk_drew ?_ | refine blk_alloc ?_ _)); exact B2.out) hb); have m5 := Aside0.mk ((by rw [hg]; exact Nat.ne_of_lt (blk_lt (g := g2) (o := (.cells #[.int .i64 0, .int .i64 0, .int .i64 0] 23 (0, 0))) (by (with_reducible repeat (first | refine blk_drewN ?_ _ | refine blk_drew ?_ | refine blk_alloc ?_ _)); exact B2.out)) : g2 ≠ g)); clear HB HC B2; have HB := m0; have BG := m1; have GG := m2; have HC := m3; have B2 := m4; have N2 := m5; clear m0 m1 m2 m3 m4 m5; clear hb hbox hg))
  refine (rights_numbers.calls3 k w g w2.heap.size g2 A0 c0 l0 #[.int .i64 0, .int .i64 0, .int .i64 0] [y0, y1, y2] true _ (Kd.C_alloc HC.out _) hc0 (blk_new _ _) (blk_alloc BG.out _) (blk_alloc B2.out _) (Nat.ne_of_gt (blk_lt BG.out)) N2.out (below_alloc HB.out _) GG.out h).mono ?_
  rintro e w5 ⟨rfl, u0, u1, u2, hG5, hr5, h25, hW5⟩
  clear HB HC BG B2
  have hr6 := hr5 rfl
  simp only [List.cons.injEq, and_true] at hr6
  obtain ⟨q0, q1, q2⟩ := hr6
  subst q0; subst q1; subst q2
  have HB := Aside0.mk hW5
  have BG := Aside0.mk hG5
  have B2 := Aside0.mk h25
  clear hW5 hG5 h25 hr5
  have hn1 := N2.out
  have hn2 := Ne.symm N2.out
  have hcBG0 := blk_cell BG.out 0
  have hfBG0 := blk_frozen BG.out 0
  have hcBG1 := blk_cell BG.out 1
  have hfBG1 := blk_frozen BG.out 1
  have hcBG2 := blk_cell BG.out 2
  have hfBG2 := blk_frozen BG.out 2
  have hcB20 := blk_cell B2.out 0
  have hfB20 := blk_frozen B2.out 0
  have hcB21 := blk_cell B2.out 1
  have hfB21 := blk_frozen B2.out 1
  have hcB22 := blk_cell B2.out 2
  have hfB22 := blk_frozen B2.out 2
  simp only [List.getElem?_toArray, List.getElem?_cons_zero, List.getElem?_cons_succ] at hcBG0 hcBG1 hcBG2 hcB20 hcB21 hcB22
  dsimp only
  go_wp2_with (fail)
  refine (rights_sound.calls y0 y1 y2 false _ hs).mono ?_; rintro e w6 ⟨rfl, hb⟩; have m0 := Aside0.mk (below_step (by repeat (first | (with_reducible first | exact HB.out | apply below_alloc | apply pw_below_drewN | apply below_drew1 | refine below_set ?_ G2.out | refine below_set ?_ GG.out) | exact HB.out)) hb); have m4 := Aside0.mk (blk_below (g := g) (o := (.cells #[.int .i64 y0, .int .i64 y1, .int .i64 y2] 23 (0, 0))) (by (with_reducible repeat (first | refine blk_drewN ?_ _ | refine blk_drew ?_ | refine blk_alloc ?_ _)); exact BG.out) hb); have m5 := Aside0.mk (blk_below (g := g2) (o := (.cells #[.int .i64 0, .int .i64 0, .int .i64 0] 23 (0, 0))) (by (with_reducible repeat (first | refine blk_drewN ?_ _ | refine blk_drew ?_ | refine blk_alloc ?_ _)); exact B2.out) hb); clear HB BG B2 hb; have HB := m0; have BG := m4; have B2 := m5; clear m0 m4 m5; have hn1 := N2.out; have hn2 := Ne.symm N2.out; have hcBG0 := blk_cell BG.out 0; have hfBG0 := blk_frozen BG.out 0; have hcBG1 := blk_cell BG.out 1; have hfBG1 := blk_frozen BG.out 1; have hcBG2 := blk_cell BG.out 2; have hfBG2 := blk_frozen BG.out 2; have hcB20 := blk_cell B2.out 0; have hfB20 := blk_frozen B2.out 0; have hcB21 := blk_cell B2.out 1; have hfB21 := blk_frozen B2.out 1; have hcB22 := blk_cell B2.out 2; have hfB22 := blk_frozen B2.out 2; simp only [List.getElem?_toArray, List.getElem?_cons_zero, List.getElem?_cons_succ] at hcBG0 hcBG1 hcBG2 hcB20 hcB21 hcB22
  dsimp only
  go_wp2
  refine bodyPost_ret (results_ct rfl _ _ g2 23 #[.int .i64 0, .int .i64 0, .int .i64 0] (0, 0) _ rfl (by (with_reducible repeat (first | refine blk_drewN ?_ _ | refine blk_drew ?_ | refine blk_alloc ?_ _)); refine blk_put (cs := #[.int .i64 0, .int .i64 0, .int .i64 0]) ?_ 2 _ rfl; (with_reducible repeat (first | refine blk_drewN ?_ _ | refine blk_drew ?_ | refine blk_alloc ?_ _)); refine blk_put (cs := #[.int .i64 0, .int .i64 0, .int .i64 0]) ?_ 1 _ rfl; (with_reducible repeat (first | refine blk_drewN ?_ _ | refine blk_drew ?_ | refine blk_alloc ?_ _)); refine blk_put (cs := #[.int .i64 0, .int .i64 0, .int .i64 0]) ?_ 0 _ rfl; (with_reducible repeat (first | refine blk_drewN ?_ _ | refine blk_drew ?_ | refine blk_alloc ?_ _)); exact B2.out) Try.underlying23 rfl (by kernel_rfl)) rfl ?_
  exact ⟨by first | rfl | (simp <;> rfl), by repeat (first | (with_reducible first | exact HB.out | apply below_alloc | apply pw_below_drewN | apply below_drew1 | refine below_set ?_ G2.out | refine below_set ?_ GG.out) | exact HB.out)⟩
set_option maxHeartbeats 8000000 in
set_option maxRecDepth 100000 in
theorem racc_C (k : Nat) (A0 : Option Addr) (c0 : Nat) (l0 : List Int) (y0 y1 y2 : Int) (h : numsF k 3 l0 = some ([y0, y1, y2], true)) (hs : rights_sound.f y0 y1 y2 = some true) (w : World) (hr0 : Kd.C (Kd.int .u8) w A0 l0.length l0) (hc0 : l0.length ≤ c0) :
    Calls Try.prog 39 #[.slice A0 l0.length c0] w fun e w' => e = .returned (.tuple #[.agg #[.int .i64 y0, .int .i64 y1, .int .i64 y2], .int .i64 0]) ∧ Below w.heap.size w w' := by
  have hu23 := Try.underlying23
  have hu69 := Try.underlying69
  have HB := Aside0.mk (Below.refl w.heap.size w)
  have HC := Aside0.mk hr0
  clear hr0
  go_enter Try.func39, Try.ntmps39
  go_wp2_with (first | ((with_reducible refine gate_dst (N := 2) rfl ?_); refine box_event ?hg (N := 2) ?hd (cs := #[.int .i64 0, .int .i64 0, .int .i64 0]) (t := 23) ?hr ?_; (case hd => rfl); (case hg => rfl); (case hr => first | (go_simp; done) | (go_simp; rfl)); intro g2 hg w1 hbox hb; have m0 := Aside0.mk (below_step (by repeat (first | (with_reducible first | exact HB.out | apply below_alloc | apply pw_below_drewN | apply below_drew1) | exact HB.out)) hb); have m1 := Aside0.mk hbox; have m2 := Aside0.mk ((by rw [hg]; exact (below_size (by repeat (first | (with_reducible first | exact HB.out | apply below_alloc | apply pw_below_drewN | apply below_drew1) | exact HB.out))) : w.heap.size ≤ g2)); have m3 := Aside0.mk (Kd.C_below (by repeat (first | exact HC.out | (with_reducible refine Kd.C_alloc ?_ _) | (with_reducible refine Kd.C_drewN ?_ _) | (with_reducible refine Kd.C_drew ?_))) hb); clear HB HC; have HB := m0; have B2 := m1; have G2 := m2; have HC := m3; clear m0 m1 m2 m3; clear hb hbox hg) | ((with_reducible refine gate_dst (N := 4) rfl ?_); refine box_event ?hg (N := 4) ?hd (cs := #[.int .i64 0, .int .i64 0, .int .i64 0]) (t := 23) ?hr ?_; (case hd => rfl); (case hg => rfl); (case hr => first | (go_simp; done) | (go_simp; rfl)); intro g hg w2 hbox hb; have m0 := Aside0.mk (below_step (by repeat (first | (with_reducible first | exact HB.out | apply below_alloc | apply pw_below_drewN | apply below_drew1 | refine below_set ?_ G2.out) | exact HB.out)) hb); have m1 := Aside0.mk hbox; have m2 := Aside0.mk ((by rw [hg]; exact (below_size (by repeat (first | (with_reducible first | exact HB.out | apply below_alloc | apply pw_below_drewN | apply below_drew1 | refine below_set ?_ G2.out) | exact HB.out))) : w.heap.size ≤ g)); have m3 := Aside0.mk (Kd.C_below (by repeat (first | exact HC.out | (with_reducible refine Kd.C_alloc ?_ _) | (with_reducible refine Kd.C_drewN ?_ _) | (with_reducible refine Kd.C_drew ?_))) hb); have m4 := Aside0.mk (blk_below (g := g2) (o := (.cells #[.int .i64 0, .int .i64 0, .int .i64 0] 23 (0, 0))) (by (with_reducible repeat (first | refine blk_drewN ?_ _ | refine blk_drew ?_ | refine blk_alloc ?_ _)); exact B2.out) hb); have m5 := Aside0.mk ((by rw [hg]; exact Nat.ne_of_lt (blk_lt (g := g2) (o := (.cells #[.int .i64 0, .int .i64 0, .int .i64 0] 23 (0, 0))) (by (with_reducible repeat (first | refine blk_drewN ?_ _ | refine blk_drew ?_ | refine blk_alloc ?_ _)); exact B2.out)) : g2 ≠ g)); clear HB HC B2; have HB := m0; have BG := m1; have GG := m2; have HC := m3; have B2 := m4; have N2 := m5; clear m0 m1 m2 m3 m4 m5; clear hb hbox hg))
  refine (rights_numbers.calls3 k w g w2.heap.size g2 A0 c0 l0 #[.int .i64 0, .int .i64 0, .int .i64 0] [y0, y1, y2] true _ (Kd.C_alloc HC.out _) hc0 (blk_new _ _) (blk_alloc BG.out _) (blk_alloc B2.out _) (Nat.ne_of_gt (blk_lt BG.out)) N2.out (below_alloc HB.out _) GG.out h).mono ?_
  rintro e w5 ⟨rfl, u0, u1, u2, hG5, hr5, h25, hW5⟩
  clear HB HC BG B2
  have hr6 := hr5 rfl
  simp only [List.cons.injEq, and_true] at hr6
  obtain ⟨q0, q1, q2⟩ := hr6
  subst q0; subst q1; subst q2
  have HB := Aside0.mk hW5
  have BG := Aside0.mk hG5
  have B2 := Aside0.mk h25
  clear hW5 hG5 h25 hr5
  have hn1 := N2.out
  have hn2 := Ne.symm N2.out
  have hcBG0 := blk_cell BG.out 0
  have hfBG0 := blk_frozen BG.out 0
  have hcBG1 := blk_cell BG.out 1
  have hfBG1 := blk_frozen BG.out 1
  have hcBG2 := blk_cell BG.out 2
  have hfBG2 := blk_frozen BG.out 2
  have hcB20 := blk_cell B2.out 0
  have hfB20 := blk_frozen B2.out 0
  have hcB21 := blk_cell B2.out 1
  have hfB21 := blk_frozen B2.out 1
  have hcB22 := blk_cell B2.out 2
  have hfB22 := blk_frozen B2.out 2
  simp only [List.getElem?_toArray, List.getElem?_cons_zero, List.getElem?_cons_succ] at hcBG0 hcBG1 hcBG2 hcB20 hcB21 hcB22
  dsimp only
  go_wp2_with (fail)
  refine (rights_sound.calls y0 y1 y2 true _ hs).mono ?_; rintro e w6 ⟨rfl, hb⟩; have m0 := Aside0.mk (below_step (by repeat (first | (with_reducible first | exact HB.out | apply below_alloc | apply pw_below_drewN | apply below_drew1 | refine below_set ?_ G2.out | refine below_set ?_ GG.out) | exact HB.out)) hb); have m4 := Aside0.mk (blk_below (g := g) (o := (.cells #[.int .i64 y0, .int .i64 y1, .int .i64 y2] 23 (0, 0))) (by (with_reducible repeat (first | refine blk_drewN ?_ _ | refine blk_drew ?_ | refine blk_alloc ?_ _)); exact BG.out) hb); have m5 := Aside0.mk (blk_below (g := g2) (o := (.cells #[.int .i64 0, .int .i64 0, .int .i64 0] 23 (0, 0))) (by (with_reducible repeat (first | refine blk_drewN ?_ _ | refine blk_drew ?_ | refine blk_alloc ?_ _)); exact B2.out) hb); clear HB BG B2 hb; have HB := m0; have BG := m4; have B2 := m5; clear m0 m4 m5; have hn1 := N2.out; have hn2 := Ne.symm N2.out; have hcBG0 := blk_cell BG.out 0; have hfBG0 := blk_frozen BG.out 0; have hcBG1 := blk_cell BG.out 1; have hfBG1 := blk_frozen BG.out 1; have hcBG2 := blk_cell BG.out 2; have hfBG2 := blk_frozen BG.out 2; have hcB20 := blk_cell B2.out 0; have hfB20 := blk_frozen B2.out 0; have hcB21 := blk_cell B2.out 1; have hfB21 := blk_frozen B2.out 1; have hcB22 := blk_cell B2.out 2; have hfB22 := blk_frozen B2.out 2; simp only [List.getElem?_toArray, List.getElem?_cons_zero, List.getElem?_cons_succ] at hcBG0 hcBG1 hcBG2 hcB20 hcB21 hcB22
  dsimp only
  go_wp2
  refine bodyPost_ret (results_ct rfl _ _ g2 23 #[.int .i64 y0, .int .i64 y1, .int .i64 y2] (0, 0) _ rfl (by (with_reducible repeat (first | refine blk_drewN ?_ _ | refine blk_drew ?_ | refine blk_alloc ?_ _)); refine blk_put (cs := #[.int .i64 y0, .int .i64 y1, .int .i64 0]) ?_ 2 _ rfl; (with_reducible repeat (first | refine blk_drewN ?_ _ | refine blk_drew ?_ | refine blk_alloc ?_ _)); refine blk_put (cs := #[.int .i64 y0, .int .i64 0, .int .i64 0]) ?_ 1 _ rfl; (with_reducible repeat (first | refine blk_drewN ?_ _ | refine blk_drew ?_ | refine blk_alloc ?_ _)); refine blk_put (cs := #[.int .i64 0, .int .i64 0, .int .i64 0]) ?_ 0 _ rfl; (with_reducible repeat (first | refine blk_drewN ?_ _ | refine blk_drew ?_ | refine blk_alloc ?_ _)); exact B2.out) Try.underlying23 rfl (by kernel_rfl)) rfl ?_
  exact ⟨by first | rfl | (simp <;> rfl), by repeat (first | (with_reducible first | exact HB.out | apply below_alloc | apply pw_below_drewN | apply below_drew1 | refine below_set ?_ G2.out | refine below_set ?_ GG.out) | exact HB.out)⟩
def rights_ReadAccount.f (k : Nat) (l0 : List Int) : Option (Int × Int × Int × Int) := (numsF k 3 l0).bind fun t => if t.2 = true then ((rights_sound.f (rd t.1 0) (rd t.1 1) (rd t.1 2)).bind fun s => if s = true then some (rd t.1 0, rd t.1 1, rd t.1 2, 0) else some (0, 0, 0, 206)) else some (0, 0, 0, 206)
theorem rights_ReadAccount.mono : ∀ l0 k, LeO (rights_ReadAccount.f k l0) (rights_ReadAccount.f (k + 1) l0) := by
  intro l0 k
  unfold rights_ReadAccount.f
  exact LeO.bind (numsF.mono 3 l0 k) (fun _ => LeO.refl _)
theorem racc_len (k : Nat) : ∀ (m : Nat) (l s : List Int), numsF k m l = some (s, true) → s.length = m := by
  intro m
  induction m with
  | zero =>
    intro l s h
    have h : some (([] : List Int), ((l.length : Int) == 0)) = some (s, true) := h
    simp only [Option.some.injEq, Prod.mk.injEq] at h
    rw [← h.1]; rfl
  | succ m ih =>
    intro l s h
    rw [numsF] at h
    obtain ⟨t, _, h⟩ := Option.bind_eq_some_iff.mp h
    split at h
    · split at h
      · simp at h
      · obtain ⟨r, h1, h⟩ := Option.bind_eq_some_iff.mp h
        simp only [Option.some.injEq, Prod.mk.injEq] at h
        obtain ⟨rfl, h2⟩ := h
        have := ih t.2.1 r.1 (by rw [h1, ← h2])
        rw [List.length_cons, this]
    · simp at h
theorem rights_ReadAccount.calls (k : Nat) (A0 : Option Addr) (c0 : Nat) (l0 : List Int) (r1 r2 r3 r4 : Int) (w : World) (hr0 : Kd.C (Kd.int .u8) w A0 l0.length l0) (hc0 : l0.length ≤ c0) (h : rights_ReadAccount.f k l0 = some (r1, r2, r3, r4)) :
    Calls Try.prog 39 #[.slice A0 l0.length c0] w fun e w' => e = .returned (.tuple #[.agg #[.int .i64 r1, .int .i64 r2, .int .i64 r3], .int .i64 r4]) ∧ Below w.heap.size w w' := by
  unfold rights_ReadAccount.f at h
  obtain ⟨⟨s, b⟩, h1, h⟩ := Option.bind_eq_some_iff.mp h
  cases b with
  | false =>
    have h2 : some ((0 : Int), (0 : Int), (0 : Int), (206 : Int)) = some (r1, r2, r3, r4) := h
    simp only [Option.some.injEq, Prod.mk.injEq] at h2
    obtain ⟨rfl, rfl, rfl, rfl⟩ := h2
    exact racc_A k A0 c0 l0 s h1 w hr0 hc0
  | true =>
    have hl := racc_len k 3 l0 s h1
    obtain ⟨y0, y1, y2, rfl⟩ : ∃ y0 y1 y2 : Int, s = [y0, y1, y2] := by
      match s, hl with
      | [y0, y1, y2], _ => exact ⟨y0, y1, y2, rfl⟩
    have h2 : (rights_sound.f y0 y1 y2).bind (fun s => if s = true then some (y0, y1, y2, (0 : Int)) else some ((0 : Int), (0 : Int), (0 : Int), (206 : Int))) = some (r1, r2, r3, r4) := h
    obtain ⟨q, h3, h4⟩ := Option.bind_eq_some_iff.mp h2
    cases q with
    | false =>
      have h5 : some ((0 : Int), (0 : Int), (0 : Int), (206 : Int)) = some (r1, r2, r3, r4) := h4
      simp only [Option.some.injEq, Prod.mk.injEq] at h5
      obtain ⟨rfl, rfl, rfl, rfl⟩ := h5
      exact racc_B k A0 c0 l0 y0 y1 y2 h1 h3 w hr0 hc0
    | true =>
      have h5 : some (y0, y1, y2, (0 : Int)) = some (r1, r2, r3, r4) := h4
      simp only [Option.some.injEq, Prod.mk.injEq] at h5
      obtain ⟨rfl, rfl, rfl, rfl⟩ := h5
      exact racc_C k A0 c0 l0 y0 y1 y2 h1 h3 w hr0 hc0

/-! ### rights_ReadHold: function 41 -/
-- BY HAND
set_option maxHeartbeats 8000000 in
set_option maxRecDepth 100000 in
theorem rights_numbers.calls2 (k : Nat) (W0 : World) (g gp g2 : Nat) (A0 : Option Addr) (c0 : Nat) (l0 : List Int) (z : Array Value) (r1 : List Int) (r2 : Bool) (w : World) (hr0 : Kd.C (Kd.int .u8) w A0 l0.length l0) (hc0 : l0.length ≤ c0)
    (hP : w.heap[gp]? = some (.cells #[.pointer (some ⟨g, 0, none⟩), .pointer (some ⟨g, 1, none⟩)] 62 (0, 0))) (hG : w.heap[g]? = some (.cells #[.int .i64 0, .int .i64 0] 25 (0, 0))) (h2 : w.heap[g2]? = some (.cells z 25 (0, 0))) (hgp : gp ≠ g) (hg2 : g2 ≠ g) (hW : Below W0.heap.size W0 w) (hg : W0.heap.size ≤ g) (h : numsF k 2 l0 = some (r1, r2)) :
    Calls Try.prog 53 #[.slice A0 l0.length c0, .slice (some ⟨gp, 0, none⟩) 2 2] w fun e w' => e = .returned (.bool r2) ∧ ∃ y0 y1 : Int, w'.heap[g]? = some (.cells #[.int .i64 y0, .int .i64 y1] 25 (0, 0)) ∧ (r2 = true → r1 = [y0, y1]) ∧ w'.heap[g2]? = some (.cells z 25 (0, 0)) ∧ Below W0.heap.size W0 w' := by
  have HB := Aside0.mk hW
  have HG := Aside0.mk hG
  have HP := Aside0.mk hP
  have H2 := Aside0.mk h2
  have HC := Aside0.mk hr0
  clear hW hG hP h2 hr0
  go_enter Try.func53, Try.ntmps53
  go_wp2
  go_loopg [0, 12] 3 (fun kq v0 v12 w' => ∃ (j : Nat) (A : Option Addr) (c : Nat) (lb s1 : List Int) (x0 x1 : Int), v0 = .slice A lb.length c ∧ v12 = .int .i64 (j : Int) ∧ Aside0 (kq + j = 3) ∧ Aside0 (j ≤ 2) ∧ Aside0 (numsF k (2 - j) lb = some (s1, r2)) ∧ Aside0 (r2 = true → r1 = [x0, x1].take j ++ s1) ∧ Aside0 (Kd.C (Kd.int .u8) w' A lb.length lb) ∧ Aside0 (lb.length ≤ c) ∧ Aside0 (w'.heap[g]? = some (.cells #[.int .i64 x0, .int .i64 x1] 25 (0, 0))) ∧ Aside0 (w'.heap[gp]? = some (.cells #[.pointer (some ⟨g, 0, none⟩), .pointer (some ⟨g, 1, none⟩)] 62 (0, 0))) ∧ Aside0 (w'.heap[g2]? = some (.cells z 25 (0, 0))) ∧ Aside0 (Below W0.heap.size W0 w'))
  case atStart => exact ⟨0, A0, c0, l0, r1, 0, 0, rfl, rfl, ⟨rfl⟩, ⟨Nat.zero_le _⟩, ⟨h⟩, ⟨fun _ => rfl⟩, HC, ⟨hc0⟩, HG, HP, H2, HB⟩
  case round =>
    clear HC HG HP H2 HB h
    obtain ⟨j, A, c, lb, s1, x0, x1, rfl, rfl, HK, HJ, HH, HR, HC, HL, HG, HP, H2, HB⟩ := hrel
    have hj := HJ.out
    have hj2 : j = 0 ∨ j = 1 ∨ j = 2 := by omega
    clear hj
    rcases hj2 with rfl | rfl | rfl
    · have hcp := blk_cell HP.out 0
      simp only [List.getElem?_toArray, List.getElem?_cons_zero, List.getElem?_cons_succ] at hcp
      have H : ((code_TakeNum.f k lb).bind fun t => if t.2.2 = true then (if t.1 > 1125899906842624 then some ([], false) else (numsF k 1 t.2.1).bind fun r => some (wrap64 t.1 :: r.1, r.2)) else some ([], false)) = some (s1, r2) := HH.out
      obtain ⟨⟨t1, t2, t3⟩, A40, H⟩ := Option.bind_eq_some_iff.mp H
      have A4 := Aside0.mk A40
      clear A40 HH
      cases t3 with
      | false =>
        have H1 : some (([] : List Int), false) = some (s1, r2) := H
        simp only [Option.some.injEq, Prod.mk.injEq] at H1
        obtain ⟨rfl, rfl⟩ := H1
        clear H
        go_wp2_with (first | ((with_reducible refine gate_callee (f := 59) rfl ?_); refine goesL_ (some 18) rfl rfl Try.func59 (by kernel_rfl) rfl #[.slice A lb.length c] rfl (by (try simp only [List.map_toArray, List.map_cons, List.map_nil]); first | done | rfl) ?_; (with_reducible refine (code_TakeNum.calls k _ _ lb t1 t2 false _ ?side1 ?side2 A4.out).mono ?_); (case side1 => repeat (first | exact HC.out | (with_reducible refine Kd.C_alloc ?_ _) | (with_reducible refine Kd.C_drewN ?_ _) | (with_reducible refine Kd.C_drew ?_))); (case side2 => exact HL.out); rintro e w8 ⟨v1, rfl, ho0, hb⟩; refine ⟨_, rfl, ?_⟩; have m0 := Aside0.mk (below_step (by repeat (first | (with_reducible first | exact HB.out | apply below_alloc | apply pw_below_drewN | apply below_drew1) | exact HB.out)) hb); have m1 := Aside0.mk (blk_below (g := g) (o := (.cells #[.int .i64 x0, .int .i64 x1] 25 (0, 0))) (by (with_reducible repeat (first | refine blk_drewN ?_ _ | refine blk_drew ?_ | refine blk_alloc ?_ _)); exact HG.out) hb); have m2 := Aside0.mk (blk_below (g := gp) (o := (.cells #[.pointer (some ⟨g, 0, none⟩), .pointer (some ⟨g, 1, none⟩)] 62 (0, 0))) (by (with_reducible repeat (first | refine blk_drewN ?_ _ | refine blk_drew ?_ | refine blk_alloc ?_ _)); exact HP.out) hb); have m3 := Aside0.mk (blk_below (g := g2) (o := .cells z 25 (0, 0)) (by (with_reducible repeat (first | refine blk_drewN ?_ _ | refine blk_drew ?_ | refine blk_alloc ?_ _)); exact H2.out) hb); have m4 := Aside0.mk ho0; clear HB HG HP H2 HC ho0 hb; have HB := m0; have HG := m1; have HP := m2; have H2 := m3; have HO := m4; clear m0 m1 m2 m3 m4; have hcg := blk_cell HG.out 0; have hfg := blk_frozen HG.out 0; simp only [List.getElem?_toArray, List.getElem?_cons_zero, List.getElem?_cons_succ] at hcg))
        go_ret
        exact ⟨by first | rfl | (simp <;> rfl), x0, x1, (by (with_reducible repeat (first | refine blk_drewN ?_ _ | refine blk_drew ?_ | refine blk_alloc ?_ _)); exact HG.out), (fun h_ => absurd h_ (by decide)), (by (with_reducible repeat (first | refine blk_drewN ?_ _ | refine blk_drew ?_ | refine blk_alloc ?_ _)); exact H2.out), by repeat (first | (with_reducible first | exact HB.out | apply below_alloc | apply pw_below_drewN | apply below_drew1) | exact HB.out)⟩
      | true =>
        have H1 : (if t1 > 1125899906842624 then some (([] : List Int), false) else (numsF k 1 t2).bind fun r => some (wrap64 t1 :: r.1, r.2)) = some (s1, r2) := H
        clear H
        by_cases c6 : t1 > 1125899906842624
        · rw [if_pos c6] at H1
          have c6b0 : decide (1125899906842624 < t1) = true := decide_eq_true c6
          clear c6
          simp only [Option.some.injEq, Prod.mk.injEq] at H1
          obtain ⟨rfl, rfl⟩ := H1
          go_wp2_with (first | ((with_reducible refine gate_callee (f := 59) rfl ?_); refine goesL_ (some 18) rfl rfl Try.func59 (by kernel_rfl) rfl #[.slice A lb.length c] rfl (by (try simp only [List.map_toArray, List.map_cons, List.map_nil]); first | done | rfl) ?_; (with_reducible refine (code_TakeNum.calls k _ _ lb t1 t2 true _ ?side1 ?side2 A4.out).mono ?_); (case side1 => repeat (first | exact HC.out | (with_reducible refine Kd.C_alloc ?_ _) | (with_reducible refine Kd.C_drewN ?_ _) | (with_reducible refine Kd.C_drew ?_))); (case side2 => exact HL.out); rintro e w8 ⟨v1, rfl, ho0, hb⟩; refine ⟨_, rfl, ?_⟩; have m0 := Aside0.mk (below_step (by repeat (first | (with_reducible first | exact HB.out | apply below_alloc | apply pw_below_drewN | apply below_drew1) | exact HB.out)) hb); have m1 := Aside0.mk (blk_below (g := g) (o := (.cells #[.int .i64 x0, .int .i64 x1] 25 (0, 0))) (by (with_reducible repeat (first | refine blk_drewN ?_ _ | refine blk_drew ?_ | refine blk_alloc ?_ _)); exact HG.out) hb); have m2 := Aside0.mk (blk_below (g := gp) (o := (.cells #[.pointer (some ⟨g, 0, none⟩), .pointer (some ⟨g, 1, none⟩)] 62 (0, 0))) (by (with_reducible repeat (first | refine blk_drewN ?_ _ | refine blk_drew ?_ | refine blk_alloc ?_ _)); exact HP.out) hb); have m3 := Aside0.mk (blk_below (g := g2) (o := .cells z 25 (0, 0)) (by (with_reducible repeat (first | refine blk_drewN ?_ _ | refine blk_drew ?_ | refine blk_alloc ?_ _)); exact H2.out) hb); have m4 := Aside0.mk ho0; clear HB HG HP H2 HC ho0 hb; have HB := m0; have HG := m1; have HP := m2; have H2 := m3; have HO := m4; clear m0 m1 m2 m3 m4; have hcg := blk_cell HG.out 0; have hfg := blk_frozen HG.out 0; simp only [List.getElem?_toArray, List.getElem?_cons_zero, List.getElem?_cons_succ] at hcg))
          go_ret
          exact ⟨by first | rfl | (simp <;> rfl), x0, x1, (by (with_reducible repeat (first | refine blk_drewN ?_ _ | refine blk_drew ?_ | refine blk_alloc ?_ _)); exact HG.out), (fun h_ => absurd h_ (by decide)), (by (with_reducible repeat (first | refine blk_drewN ?_ _ | refine blk_drew ?_ | refine blk_alloc ?_ _)); exact H2.out), by repeat (first | (with_reducible first | exact HB.out | apply below_alloc | apply pw_below_drewN | apply below_drew1) | exact HB.out)⟩
        · rw [if_neg c6] at H1
          have c6b0 : decide (1125899906842624 < t1) = false := decide_eq_false c6
          clear c6
          obtain ⟨⟨s2, r3⟩, h3, H1⟩ := Option.bind_eq_some_iff.mp H1
          simp only [Option.some.injEq, Prod.mk.injEq] at H1
          obtain ⟨rfl, rfl⟩ := H1
          have H3 := Aside0.mk h3
          clear h3
          go_wp2_with (first | ((with_reducible refine gate_callee (f := 59) rfl ?_); refine goesL_ (some 18) rfl rfl Try.func59 (by kernel_rfl) rfl #[.slice A lb.length c] rfl (by (try simp only [List.map_toArray, List.map_cons, List.map_nil]); first | done | rfl) ?_; (with_reducible refine (code_TakeNum.calls k _ _ lb t1 t2 true _ ?side1 ?side2 A4.out).mono ?_); (case side1 => repeat (first | exact HC.out | (with_reducible refine Kd.C_alloc ?_ _) | (with_reducible refine Kd.C_drewN ?_ _) | (with_reducible refine Kd.C_drew ?_))); (case side2 => exact HL.out); rintro e w8 ⟨v1, rfl, ho0, hb⟩; refine ⟨_, rfl, ?_⟩; have m0 := Aside0.mk (below_step (by repeat (first | (with_reducible first | exact HB.out | apply below_alloc | apply pw_below_drewN | apply below_drew1) | exact HB.out)) hb); have m1 := Aside0.mk (blk_below (g := g) (o := (.cells #[.int .i64 x0, .int .i64 x1] 25 (0, 0))) (by (with_reducible repeat (first | refine blk_drewN ?_ _ | refine blk_drew ?_ | refine blk_alloc ?_ _)); exact HG.out) hb); have m2 := Aside0.mk (blk_below (g := gp) (o := (.cells #[.pointer (some ⟨g, 0, none⟩), .pointer (some ⟨g, 1, none⟩)] 62 (0, 0))) (by (with_reducible repeat (first | refine blk_drewN ?_ _ | refine blk_drew ?_ | refine blk_alloc ?_ _)); exact HP.out) hb); have m3 := Aside0.mk (blk_below (g := g2) (o := .cells z 25 (0, 0)) (by (with_reducible repeat (first | refine blk_drewN ?_ _ | refine blk_drew ?_ | refine blk_alloc ?_ _)); exact H2.out) hb); have m4 := Aside0.mk ho0; clear HB HG HP H2 HC ho0 hb; have HB := m0; have HG := m1; have HP := m2; have H2 := m3; have HO := m4; clear m0 m1 m2 m3 m4; have hcg := blk_cell HG.out 0; have hfg := blk_frozen HG.out 0; simp only [List.getElem?_toArray, List.getElem?_cons_zero, List.getElem?_cons_succ] at hcg))
          obtain ⟨A9, c9, e9⟩ := Kd.R_slice HO.out
          subst e9
          go_roundg (2)
          case measure => have := HK.out; omega
          case rel => exact ⟨1, A9, c9, t2, s2, wrap64 t1, x1, rfl, rfl, ⟨by have := HK.out; omega⟩, ⟨by decide⟩, ⟨H3.out⟩, ⟨fun h_ => HR.out h_⟩, ⟨(Kd.R_reads' (Kd.R_set (by (with_reducible repeat (first | apply Kd.R_alloc | apply Kd.R_drewN | apply Kd.R_drew)); exact HO.out) (by (with_reducible repeat (first | refine blk_drewN ?_ _ | refine blk_drew ?_ | refine blk_alloc ?_ _)); exact HG.out) (by first | decide | simp [Kd.int]) 0 _)).2.2⟩, ⟨(Kd.R_reads' HO.out).2.1⟩, ⟨blk_set (by (with_reducible repeat (first | refine blk_drewN ?_ _ | refine blk_drew ?_ | refine blk_alloc ?_ _)); exact HG.out) 0 _⟩, ⟨blk_far (by (with_reducible repeat (first | refine blk_drewN ?_ _ | refine blk_drew ?_ | refine blk_alloc ?_ _)); exact HP.out) hgp _⟩, ⟨blk_far (by (with_reducible repeat (first | refine blk_drewN ?_ _ | refine blk_drew ?_ | refine blk_alloc ?_ _)); exact H2.out) hg2 _⟩, ⟨below_set (by repeat (first | (with_reducible first | exact HB.out | apply below_alloc | apply pw_below_drewN | apply below_drew1) | exact HB.out)) hg⟩⟩
    · have hcp := blk_cell HP.out 1
      simp only [List.getElem?_toArray, List.getElem?_cons_zero, List.getElem?_cons_succ] at hcp
      have H : ((code_TakeNum.f k lb).bind fun t => if t.2.2 = true then (if t.1 > 1125899906842624 then some ([], false) else (numsF k 0 t.2.1).bind fun r => some (wrap64 t.1 :: r.1, r.2)) else some ([], false)) = some (s1, r2) := HH.out
      obtain ⟨⟨t1, t2, t3⟩, A40, H⟩ := Option.bind_eq_some_iff.mp H
      have A4 := Aside0.mk A40
      clear A40 HH
      cases t3 with
      | false =>
        have H1 : some (([] : List Int), false) = some (s1, r2) := H
        simp only [Option.some.injEq, Prod.mk.injEq] at H1
        obtain ⟨rfl, rfl⟩ := H1
        clear H
        go_wp2_with (first | ((with_reducible refine gate_callee (f := 59) rfl ?_); refine goesL_ (some 18) rfl rfl Try.func59 (by kernel_rfl) rfl #[.slice A lb.length c] rfl (by (try simp only [List.map_toArray, List.map_cons, List.map_nil]); first | done | rfl) ?_; (with_reducible refine (code_TakeNum.calls k _ _ lb t1 t2 false _ ?side1 ?side2 A4.out).mono ?_); (case side1 => repeat (first | exact HC.out | (with_reducible refine Kd.C_alloc ?_ _) | (with_reducible refine Kd.C_drewN ?_ _) | (with_reducible refine Kd.C_drew ?_))); (case side2 => exact HL.out); rintro e w8 ⟨v1, rfl, ho0, hb⟩; refine ⟨_, rfl, ?_⟩; have m0 := Aside0.mk (below_step (by repeat (first | (with_reducible first | exact HB.out | apply below_alloc | apply pw_below_drewN | apply below_drew1) | exact HB.out)) hb); have m1 := Aside0.mk (blk_below (g := g) (o := (.cells #[.int .i64 x0, .int .i64 x1] 25 (0, 0))) (by (with_reducible repeat (first | refine blk_drewN ?_ _ | refine blk_drew ?_ | refine blk_alloc ?_ _)); exact HG.out) hb); have m2 := Aside0.mk (blk_below (g := gp) (o := (.cells #[.pointer (some ⟨g, 0, none⟩), .pointer (some ⟨g, 1, none⟩)] 62 (0, 0))) (by (with_reducible repeat (first | refine blk_drewN ?_ _ | refine blk_drew ?_ | refine blk_alloc ?_ _)); exact HP.out) hb); have m3 := Aside0.mk (blk_below (g := g2) (o := .cells z 25 (0, 0)) (by (with_reducible repeat (first | refine blk_drewN ?_ _ | refine blk_drew ?_ | refine blk_alloc ?_ _)); exact H2.out) hb); have m4 := Aside0.mk ho0; clear HB HG HP H2 HC ho0 hb; have HB := m0; have HG := m1; have HP := m2; have H2 := m3; have HO := m4; clear m0 m1 m2 m3 m4; have hcg := blk_cell HG.out 1; have hfg := blk_frozen HG.out 1; simp only [List.getElem?_toArray, List.getElem?_cons_zero, List.getElem?_cons_succ] at hcg))
        go_ret
        exact ⟨by first | rfl | (simp <;> rfl), x0, x1, (by (with_reducible repeat (first | refine blk_drewN ?_ _ | refine blk_drew ?_ | refine blk_alloc ?_ _)); exact HG.out), (fun h_ => absurd h_ (by decide)), (by (with_reducible repeat (first | refine blk_drewN ?_ _ | refine blk_drew ?_ | refine blk_alloc ?_ _)); exact H2.out), by repeat (first | (with_reducible first | exact HB.out | apply below_alloc | apply pw_below_drewN | apply below_drew1) | exact HB.out)⟩
      | true =>
        have H1 : (if t1 > 1125899906842624 then some (([] : List Int), false) else (numsF k 0 t2).bind fun r => some (wrap64 t1 :: r.1, r.2)) = some (s1, r2) := H
        clear H
        by_cases c6 : t1 > 1125899906842624
        · rw [if_pos c6] at H1
          have c6b0 : decide (1125899906842624 < t1) = true := decide_eq_true c6
          clear c6
          simp only [Option.some.injEq, Prod.mk.injEq] at H1
          obtain ⟨rfl, rfl⟩ := H1
          go_wp2_with (first | ((with_reducible refine gate_callee (f := 59) rfl ?_); refine goesL_ (some 18) rfl rfl Try.func59 (by kernel_rfl) rfl #[.slice A lb.length c] rfl (by (try simp only [List.map_toArray, List.map_cons, List.map_nil]); first | done | rfl) ?_; (with_reducible refine (code_TakeNum.calls k _ _ lb t1 t2 true _ ?side1 ?side2 A4.out).mono ?_); (case side1 => repeat (first | exact HC.out | (with_reducible refine Kd.C_alloc ?_ _) | (with_reducible refine Kd.C_drewN ?_ _) | (with_reducible refine Kd.C_drew ?_))); (case side2 => exact HL.out); rintro e w8 ⟨v1, rfl, ho0, hb⟩; refine ⟨_, rfl, ?_⟩; have m0 := Aside0.mk (below_step (by repeat (first | (with_reducible first | exact HB.out | apply below_alloc | apply pw_below_drewN | apply below_drew1) | exact HB.out)) hb); have m1 := Aside0.mk (blk_below (g := g) (o := (.cells #[.int .i64 x0, .int .i64 x1] 25 (0, 0))) (by (with_reducible repeat (first | refine blk_drewN ?_ _ | refine blk_drew ?_ | refine blk_alloc ?_ _)); exact HG.out) hb); have m2 := Aside0.mk (blk_below (g := gp) (o := (.cells #[.pointer (some ⟨g, 0, none⟩), .pointer (some ⟨g, 1, none⟩)] 62 (0, 0))) (by (with_reducible repeat (first | refine blk_drewN ?_ _ | refine blk_drew ?_ | refine blk_alloc ?_ _)); exact HP.out) hb); have m3 := Aside0.mk (blk_below (g := g2) (o := .cells z 25 (0, 0)) (by (with_reducible repeat (first | refine blk_drewN ?_ _ | refine blk_drew ?_ | refine blk_alloc ?_ _)); exact H2.out) hb); have m4 := Aside0.mk ho0; clear HB HG HP H2 HC ho0 hb; have HB := m0; have HG := m1; have HP := m2; have H2 := m3; have HO := m4; clear m0 m1 m2 m3 m4; have hcg := blk_cell HG.out 1; have hfg := blk_frozen HG.out 1; simp only [List.getElem?_toArray, List.getElem?_cons_zero, List.getElem?_cons_succ] at hcg))
          go_ret
          exact ⟨by first | rfl | (simp <;> rfl), x0, x1, (by (with_reducible repeat (first | refine blk_drewN ?_ _ | refine blk_drew ?_ | refine blk_alloc ?_ _)); exact HG.out), (fun h_ => absurd h_ (by decide)), (by (with_reducible repeat (first | refine blk_drewN ?_ _ | refine blk_drew ?_ | refine blk_alloc ?_ _)); exact H2.out), by repeat (first | (with_reducible first | exact HB.out | apply below_alloc | apply pw_below_drewN | apply below_drew1) | exact HB.out)⟩
        · rw [if_neg c6] at H1
          have c6b0 : decide (1125899906842624 < t1) = false := decide_eq_false c6
          clear c6
          obtain ⟨⟨s2, r3⟩, h3, H1⟩ := Option.bind_eq_some_iff.mp H1
          simp only [Option.some.injEq, Prod.mk.injEq] at H1
          obtain ⟨rfl, rfl⟩ := H1
          have H3 := Aside0.mk h3
          clear h3
          go_wp2_with (first | ((with_reducible refine gate_callee (f := 59) rfl ?_); refine goesL_ (some 18) rfl rfl Try.func59 (by kernel_rfl) rfl #[.slice A lb.length c] rfl (by (try simp only [List.map_toArray, List.map_cons, List.map_nil]); first | done | rfl) ?_; (with_reducible refine (code_TakeNum.calls k _ _ lb t1 t2 true _ ?side1 ?side2 A4.out).mono ?_); (case side1 => repeat (first | exact HC.out | (with_reducible refine Kd.C_alloc ?_ _) | (with_reducible refine Kd.C_drewN ?_ _) | (with_reducible refine Kd.C_drew ?_))); (case side2 => exact HL.out); rintro e w8 ⟨v1, rfl, ho0, hb⟩; refine ⟨_, rfl, ?_⟩; have m0 := Aside0.mk (below_step (by repeat (first | (with_reducible first | exact HB.out | apply below_alloc | apply pw_below_drewN | apply below_drew1) | exact HB.out)) hb); have m1 := Aside0.mk (blk_below (g := g) (o := (.cells #[.int .i64 x0, .int .i64 x1] 25 (0, 0))) (by (with_reducible repeat (first | refine blk_drewN ?_ _ | refine blk_drew ?_ | refine blk_alloc ?_ _)); exact HG.out) hb); have m2 := Aside0.mk (blk_below (g := gp) (o := (.cells #[.pointer (some ⟨g, 0, none⟩), .pointer (some ⟨g, 1, none⟩)] 62 (0, 0))) (by (with_reducible repeat (first | refine blk_drewN ?_ _ | refine blk_drew ?_ | refine blk_alloc ?_ _)); exact HP.out) hb); have m3 := Aside0.mk (blk_below (g := g2) (o := .cells z 25 (0, 0)) (by (with_reducible repeat (first | refine blk_drewN ?_ _ | refine blk_drew ?_ | refine blk_alloc ?_ _)); exact H2.out) hb); have m4 := Aside0.mk ho0; clear HB HG HP H2 HC ho0 hb; have HB := m0; have HG := m1; have HP := m2; have H2 := m3; have HO := m4; clear m0 m1 m2 m3 m4; have hcg := blk_cell HG.out 1; have hfg := blk_frozen HG.out 1; simp only [List.getElem?_toArray, List.getElem?_cons_zero, List.getElem?_cons_succ] at hcg))
          obtain ⟨A9, c9, e9⟩ := Kd.R_slice HO.out
          subst e9
          go_roundg (1)
          case measure => have := HK.out; omega
          case rel => exact ⟨2, A9, c9, t2, s2, x0, wrap64 t1, rfl, rfl, ⟨by have := HK.out; omega⟩, ⟨by decide⟩, ⟨H3.out⟩, ⟨fun h_ => HR.out h_⟩, ⟨(Kd.R_reads' (Kd.R_set (by (with_reducible repeat (first | apply Kd.R_alloc | apply Kd.R_drewN | apply Kd.R_drew)); exact HO.out) (by (with_reducible repeat (first | refine blk_drewN ?_ _ | refine blk_drew ?_ | refine blk_alloc ?_ _)); exact HG.out) (by first | decide | simp [Kd.int]) 1 _)).2.2⟩, ⟨(Kd.R_reads' HO.out).2.1⟩, ⟨blk_set (by (with_reducible repeat (first | refine blk_drewN ?_ _ | refine blk_drew ?_ | refine blk_alloc ?_ _)); exact HG.out) 1 _⟩, ⟨blk_far (by (with_reducible repeat (first | refine blk_drewN ?_ _ | refine blk_drew ?_ | refine blk_alloc ?_ _)); exact HP.out) hgp _⟩, ⟨blk_far (by (with_reducible repeat (first | refine blk_drewN ?_ _ | refine blk_drew ?_ | refine blk_alloc ?_ _)); exact H2.out) hg2 _⟩, ⟨below_set (by repeat (first | (with_reducible first | exact HB.out | apply below_alloc | apply pw_below_drewN | apply below_drew1) | exact HB.out)) hg⟩⟩
    · have H : some (([] : List Int), ((lb.length : Int) == 0)) = some (s1, r2) := HH.out
      simp only [Option.some.injEq, Prod.mk.injEq] at H
      obtain ⟨rfl, rfl⟩ := H
      go_wp2
      go_ret
      exact ⟨by first | rfl | (simp <;> rfl), x0, x1, (by (with_reducible repeat (first | refine blk_drewN ?_ _ | refine blk_drew ?_ | refine blk_alloc ?_ _)); exact HG.out), (fun h_ => HR.out h_), (by (with_reducible repeat (first | refine blk_drewN ?_ _ | refine blk_drew ?_ | refine blk_alloc ?_ _)); exact H2.out), by repeat (first | (with_reducible first | exact HB.out | apply below_alloc | apply pw_below_drewN | apply below_drew1) | exact HB.out)⟩
set_option maxHeartbeats 8000000 in
set_option maxRecDepth 100000 in
theorem rhold_A (k : Nat) (A0 : Option Addr) (c0 : Nat) (l0 : List Int) (s : List Int) (h : numsF k 2 l0 = some (s, false)) (w : World) (hr0 : Kd.C (Kd.int .u8) w A0 l0.length l0) (hc0 : l0.length ≤ c0) :
    Calls Try.prog 41 #[.slice A0 l0.length c0] w fun e w' => e = .returned (.tuple #[.agg #[.int .i64 0, .int .i64 0], .int .i64 206]) ∧ Below w.heap.size w w' := by
  have hu25 := Try.underlying25
  have hu69 := Try.underlying69
  have HB := Aside0.mk (Below.refl w.heap.size w)
  have HC := Aside0.mk hr0
  clear hr0
  go_enter Try.func41, Try.ntmps41
  go_wp2_with (first | ((with_reducible refine gate_dst (N := 2) rfl ?_); refine box_event ?hg (N := 2) ?hd (cs := #[.int .i64 0, .int .i64 0]) (t := 25) ?hr ?_; (case hd => rfl); (case hg => rfl); (case hr => first | (go_simp; done) | (go_simp; rfl)); intro g2 hg w1 hbox hb; have m0 := Aside0.mk (below_step (by repeat (first | (with_reducible first | exact HB.out | apply below_alloc | apply pw_below_drewN | apply below_drew1) | exact HB.out)) hb); have m1 := Aside0.mk hbox; have m2 := Aside0.mk ((by rw [hg]; exact (below_size (by repeat (first | (with_reducible first | exact HB.out | apply below_alloc | apply pw_below_drewN | apply below_drew1) | exact HB.out))) : w.heap.size ≤ g2)); have m3 := Aside0.mk (Kd.C_below (by repeat (first | exact HC.out | (with_reducible refine Kd.C_alloc ?_ _) | (with_reducible refine Kd.C_drewN ?_ _) | (with_reducible refine Kd.C_drew ?_))) hb); clear HB HC; have HB := m0; have B2 := m1; have G2 := m2; have HC := m3; clear m0 m1 m2 m3; clear hb hbox hg) | ((with_reducible refine gate_dst (N := 4) rfl ?_); refine box_event ?hg (N := 4) ?hd (cs := #[.int .i64 0, .int .i64 0]) (t := 25) ?hr ?_; (case hd => rfl); (case hg => rfl); (case hr => first | (go_simp; done) | (go_simp; rfl)); intro g hg w2 hbox hb; have m0 := Aside0.mk (below_step (by repeat (first | (with_reducible first | exact HB.out | apply below_alloc | apply pw_below_drewN | apply below_drew1 | refine below_set ?_ G2.out) | exact HB.out)) hb); have m1 := Aside0.mk hbox; have m2 := Aside0.mk ((by rw [hg]; exact (below_size (by repeat (first | (with_reducible first | exact HB.out | apply below_alloc | apply pw_below_drewN | apply below_drew1 | refine below_set ?_ G2.out) | exact HB.out))) : w.heap.size ≤ g)); have m3 := Aside0.mk (Kd.C_below (by repeat (first | exact HC.out | (with_reducible refine Kd.C_alloc ?_ _) | (with_reducible refine Kd.C_drewN ?_ _) | (with_reducible refine Kd.C_drew ?_))) hb); have m4 := Aside0.mk (blk_below (g := g2) (o := (.cells #[.int .i64 0, .int .i64 0] 25 (0, 0))) (by (with_reducible repeat (first | refine blk_drewN ?_ _ | refine blk_drew ?_ | refine blk_alloc ?_ _)); exact B2.out) hb); have m5 := Aside0.mk ((by rw [hg]; exact Nat.ne_of_lt (blk_lt (g := g2) (o := (.cells #[.int .i64 0, .int .i64 0] 25 (0, 0))) (by (with_reducible repeat (first | refine blk_drewN ?_ _ | refine blk_drew ?_ | refine blk_alloc ?_ _)); exact B2.out)) : g2 ≠ g)); clear HB HC B2; have HB := m0; have BG := m1; have GG := m2; have HC := m3; have B2 := m4; have N2 := m5; clear m0 m1 m2 m3 m4 m5; clear hb hbox hg))
  refine (rights_numbers.calls2 k w g w2.heap.size g2 A0 c0 l0 #[.int .i64 0, .int .i64 0] s false _ (Kd.C_alloc HC.out _) hc0 (blk_new _ _) (blk_alloc BG.out _) (blk_alloc B2.out _) (Nat.ne_of_gt (blk_lt BG.out)) N2.out (below_alloc HB.out _) GG.out h).mono ?_
  rintro e w5 ⟨rfl, u0, u1, hG5, hr5, h25, hW5⟩
  clear HB HC BG B2
  have HB := Aside0.mk hW5
  have BG := Aside0.mk hG5
  have B2 := Aside0.mk h25
  clear hW5 hG5 h25 hr5
  have hn1 := N2.out
  have hn2 := Ne.symm N2.out
  have hcBG0 := blk_cell BG.out 0
  have hfBG0 := blk_frozen BG.out 0
  have hcBG1 := blk_cell BG.out 1
  have hfBG1 := blk_frozen BG.out 1
  have hcB20 := blk_cell B2.out 0
  have hfB20 := blk_frozen B2.out 0
  have hcB21 := blk_cell B2.out 1
  have hfB21 := blk_frozen B2.out 1
  simp only [List.getElem?_toArray, List.getElem?_cons_zero, List.getElem?_cons_succ] at hcBG0 hcBG1 hcB20 hcB21
  dsimp only
  go_wp2
  refine bodyPost_ret (results_ct rfl _ _ g2 25 #[.int .i64 0, .int .i64 0] (0, 0) _ rfl (by (with_reducible repeat (first | refine blk_drewN ?_ _ | refine blk_drew ?_ | refine blk_alloc ?_ _)); refine blk_put (cs := #[.int .i64 0, .int .i64 0]) ?_ 1 _ rfl; (with_reducible repeat (first | refine blk_drewN ?_ _ | refine blk_drew ?_ | refine blk_alloc ?_ _)); refine blk_put (cs := #[.int .i64 0, .int .i64 0]) ?_ 0 _ rfl; (with_reducible repeat (first | refine blk_drewN ?_ _ | refine blk_drew ?_ | refine blk_alloc ?_ _)); exact B2.out) Try.underlying25 rfl (by kernel_rfl)) rfl ?_
  exact ⟨by first | rfl | (simp <;> rfl), by repeat (first | (with_reducible first | exact HB.out | apply below_alloc | apply pw_below_drewN | apply below_drew1 | refine below_set ?_ G2.out | refine below_set ?_ GG.out) | exact HB.out)⟩
set_option maxHeartbeats 8000000 in
set_option maxRecDepth 100000 in
theorem rhold_B (k : Nat) (A0 : Option Addr) (c0 : Nat) (l0 : List Int) (y0 y1 : Int) (h : numsF k 2 l0 = some ([y0, y1], true)) (hs : rights_holds.f y0 y1 = some false) (w : World) (hr0 : Kd.C (Kd.int .u8) w A0 l0.length l0) (hc0 : l0.length ≤ c0) :
    Calls Try.prog 41 #[.slice A0 l0.length c0] w fun e w' => e = .returned (.tuple #[.agg #[.int .i64 0, .int .i64 0], .int .i64 206]) ∧ Below w.heap.size w w' := by
  have hu25 := Try.underlying25
  have hu69 := Try.underlying69
  have HB := Aside0.mk (Below.refl w.heap.size w)
  have HC := Aside0.mk hr0
  clear hr0
  go_enter Try.func41, Try.ntmps41
  go_wp2_with (first | ((with_reducible refine gate_dst (N := 2) rfl ?_); refine box_event ?hg (N := 2) ?hd (cs := #[.int .i64 0, .int .i64 0]) (t := 25) ?hr ?_; (case hd => rfl); (case hg => rfl); (case hr => first | (go_simp; done) | (go_simp; rfl)); intro g2 hg w1 hbox hb; have m0 := Aside0.mk (below_step (by repeat (first | (with_reducible first | exact HB.out | apply below_alloc | apply pw_below_drewN | apply below_drew1) | exact HB.out)) hb); have m1 := Aside0.mk hbox; have m2 := Aside0.mk ((by rw [hg]; exact (below_size (by repeat (first | (with_reducible first | exact HB.out | apply below_alloc | apply pw_below_drewN | apply below_drew1) | exact HB.out))) : w.heap.size ≤ g2)); have m3 := Aside0.mk (Kd.C_below (by repeat (first | exact HC.out | (with_reducible refine Kd.C_alloc ?_ _) | (with_reducible refine Kd.C_drewN ?_ _) | (with_reducible refine Kd.C_drew ?_))) hb); clear HB HC; have HB := m0; have B2 := m1; have G2 := m2; have HC := m3; clear m0 m1 m2 m3; clear hb hbox hg) | ((with_reducible refine gate_dst (N := 4) rfl ?_); refine box_event ?hg (N := 4) ?hd (cs := #[.int .i64 0, .int .i64 0]) (t := 25) ?hr ?_; (case hd => rfl); (case hg => rfl); (case hr => first | (go_simp; done) | (go_simp; rfl)); intro g hg w2 hbox hb; have m0 := Aside0.mk (below_step (by repeat (first | (with_reducible first | exact HB.out | apply below_alloc | apply pw_below_drewN | apply below_drew1 | refine below_set ?_ G2.out) | exact HB.out)) hb); have m1 := Aside0.mk hbox; have m2 := Aside0.mk ((by rw [hg]; exact (below_size (by repeat (first | (with_reducible first | exact HB.out | apply below_alloc | apply pw_below_drewN | apply below_drew1 | refine below_set ?_ G2.out) | exact HB.out))) : w.heap.size ≤ g)); have m3 := Aside0.mk (Kd.C_below (by repeat (first | exact HC.out | (with_reducible refine Kd.C_alloc ?_ _) | (with_reducible refine Kd.C_drewN ?_ _) | (with_reducible refine Kd.C_drew ?_))) hb); have m4 := Aside0.mk (blk_below (g := g2) (o := (.cells #[.int .i64 0, .int .i64 0] 25 (0, 0))) (by (with_reducible repeat (first | refine blk_drewN ?_ _ | refine blk_drew ?_ | refine blk_alloc ?_ _)); exact B2.out) hb); have m5 := Aside0.mk ((by rw [hg]; exact Nat.ne_of_lt (blk_lt (g := g2) (o := (.cells #[.int .i64 0, .int .i64 0] 25 (0, 0))) (by (with_reducible repeat (first | refine blk_drewN ?_ _ | refine blk_drew ?_ | refine blk_alloc ?_ _)); exact B2.out)) : g2 ≠ g)); clear HB HC B2; have HB := m0; have BG := m1; have GG := m2; have HC := m3; have B2 := m4; have N2 := m5; clear m0 m1 m2 m3 m4 m5; clear hb hbox hg))
  refine (rights_numbers.calls2 k w g w2.heap.size g2 A0 c0 l0 #[.int .i64 0, .int .i64 0] [y0, y1] true _ (Kd.C_alloc HC.out _) hc0 (blk_new _ _) (blk_alloc BG.out _) (blk_alloc B2.out _) (Nat.ne_of_gt (blk_lt BG.out)) N2.out (below_alloc HB.out _) GG.out h).mono ?_
  rintro e w5 ⟨rfl, u0, u1, hG5, hr5, h25, hW5⟩
  clear HB HC BG B2
  have hr6 := hr5 rfl
  simp only [List.cons.injEq, and_true] at hr6
  obtain ⟨q0, q1⟩ := hr6
  subst q0; subst q1
  have HB := Aside0.mk hW5
  have BG := Aside0.mk hG5
  have B2 := Aside0.mk h25
  clear hW5 hG5 h25 hr5
  have hn1 := N2.out
  have hn2 := Ne.symm N2.out
  have hcBG0 := blk_cell BG.out 0
  have hfBG0 := blk_frozen BG.out 0
  have hcBG1 := blk_cell BG.out 1
  have hfBG1 := blk_frozen BG.out 1
  have hcB20 := blk_cell B2.out 0
  have hfB20 := blk_frozen B2.out 0
  have hcB21 := blk_cell B2.out 1
  have hfB21 := blk_frozen B2.out 1
  simp only [List.getElem?_toArray, List.getElem?_cons_zero, List.getElem?_cons_succ] at hcBG0 hcBG1 hcB20 hcB21
  dsimp only
  go_wp2_with (fail)
  refine (rights_holds.calls y0 y1 false _ hs).mono ?_; rintro e w6 ⟨rfl, hb⟩; have m0 := Aside0.mk (below_step (by repeat (first | (with_reducible first | exact HB.out | apply below_alloc | apply pw_below_drewN | apply below_drew1 | refine below_set ?_ G2.out | refine below_set ?_ GG.out) | exact HB.out)) hb); have m4 := Aside0.mk (blk_below (g := g) (o := (.cells #[.int .i64 y0, .int .i64 y1] 25 (0, 0))) (by (with_reducible repeat (first | refine blk_drewN ?_ _ | refine blk_drew ?_ | refine blk_alloc ?_ _)); exact BG.out) hb); have m5 := Aside0.mk (blk_below (g := g2) (o := (.cells #[.int .i64 0, .int .i64 0] 25 (0, 0))) (by (with_reducible repeat (first | refine blk_drewN ?_ _ | refine blk_drew ?_ | refine blk_alloc ?_ _)); exact B2.out) hb); clear HB BG B2 hb; have HB := m0; have BG := m4; have B2 := m5; clear m0 m4 m5; have hn1 := N2.out; have hn2 := Ne.symm N2.out; have hcBG0 := blk_cell BG.out 0; have hfBG0 := blk_frozen BG.out 0; have hcBG1 := blk_cell BG.out 1; have hfBG1 := blk_frozen BG.out 1; have hcB20 := blk_cell B2.out 0; have hfB20 := blk_frozen B2.out 0; have hcB21 := blk_cell B2.out 1; have hfB21 := blk_frozen B2.out 1; simp only [List.getElem?_toArray, List.getElem?_cons_zero, List.getElem?_cons_succ] at hcBG0 hcBG1 hcB20 hcB21
  dsimp only
  go_wp2
  refine bodyPost_ret (results_ct rfl _ _ g2 25 #[.int .i64 0, .int .i64 0] (0, 0) _ rfl (by (with_reducible repeat (first | refine blk_drewN ?_ _ | refine blk_drew ?_ | refine blk_alloc ?_ _)); refine blk_put (cs := #[.int .i64 0, .int .i64 0]) ?_ 1 _ rfl; (with_reducible repeat (first | refine blk_drewN ?_ _ | refine blk_drew ?_ | refine blk_alloc ?_ _)); refine blk_put (cs := #[.int .i64 0, .int .i64 0]) ?_ 0 _ rfl; (with_reducible repeat (first | refine blk_drewN ?_ _ | refine blk_drew ?_ | refine blk_alloc ?_ _)); exact B2.out) Try.underlying25 rfl (by kernel_rfl)) rfl ?_
  exact ⟨by first | rfl | (simp <;> rfl), by repeat (first | (with_reducible first | exact HB.out | apply below_alloc | apply pw_below_drewN | apply below_drew1 | refine below_set ?_ G2.out | refine below_set ?_ GG.out) | exact HB.out)⟩
set_option maxHeartbeats 8000000 in
set_option maxRecDepth 100000 in
theorem rhold_C (k : Nat) (A0 : Option Addr) (c0 : Nat) (l0 : List Int) (y0 y1 : Int) (h : numsF k 2 l0 = some ([y0, y1], true)) (hs : rights_holds.f y0 y1 = some true) (w : World) (hr0 : Kd.C (Kd.int .u8) w A0 l0.length l0) (hc0 : l0.length ≤ c0) :
    Calls Try.prog 41 #[.slice A0 l0.length c0] w fun e w' => e = .returned (.tuple #[.agg #[.int .i64 y0, .int .i64 y1], .int .i64 0]) ∧ Below w.heap.size w w' := by
  have hu25 := Try.underlying25
  have hu69 := Try.underlying69
  have HB := Aside0.mk (Below.refl w.heap.size w)
  have HC := Aside0.mk hr0
  clear hr0
  go_enter Try.func41, Try.ntmps41
  go_wp2_with (first | ((with_reducible refine gate_dst (N := 2) rfl ?_); refine box_event ?hg (N := 2) ?hd (cs := #[.int .i64 0, .int .i64 0]) (t := 25) ?hr ?_; (case hd => rfl); (case hg => rfl); (case hr => first | (go_simp; done) | (go_simp; rfl)); intro g2 hg w1 hbox hb; have m0 := Aside0.mk (below_step (by repeat (first | (with_reducible first | exact HB.out | apply below_alloc | apply pw_below_drewN | apply below_drew1) | exact HB.out)) hb); have m1 := Aside0.mk hbox; have m2 := Aside0.mk ((by rw [hg]; exact (below_size (by repeat (first | (with_reducible first | exact HB.out | apply below_alloc | apply pw_below_drewN | apply below_drew1) | exact HB.out))) : w.heap.size ≤ g2)); have m3 := Aside0.mk (Kd.C_below (by repeat (first | exact HC.out | (with_reducible refine Kd.C_alloc ?_ _) | (with_reducible refine Kd.C_drewN ?_ _) | (with_reducible refine Kd.C_drew ?_))) hb); clear HB HC; have HB := m0; have B2 := m1; have G2 := m2; have HC := m3; clear m0 m1 m2 m3; clear hb hbox hg) | ((with_reducible refine gate_dst (N := 4) rfl ?_); refine box_event ?hg (N := 4) ?hd (cs := #[.int .i64 0, .int .i64 0]) (t := 25) ?hr ?_; (case hd => rfl); (case hg => rfl); (case hr => first | (go_simp; done) | (go_simp; rfl)); intro g hg w2 hbox hb; have m0 := Aside0.mk (below_step (by repeat (first | (with_reducible first | exact HB.out | apply below_alloc | apply pw_below_drewN | apply below_drew1 | refine below_set ?_ G2.out) | exact HB.out)) hb); have m1 := Aside0.mk hbox; have m2 := Aside0.mk ((by rw [hg]; exact (below_size (by repeat (first | (with_reducible first | exact HB.out | apply below_alloc | apply pw_below_drewN | apply below_drew1 | refine below_set ?_ G2.out) | exact HB.out))) : w.heap.size ≤ g)); have m3 := Aside0.mk (Kd.C_below (by repeat (first | exact HC.out | (with_reducible refine Kd.C_alloc ?_ _) | (with_reducible refine Kd.C_drewN ?_ _) | (with_reducible refine Kd.C_drew ?_))) hb); have m4 := Aside0.mk (blk_below (g := g2) (o := (.cells #[.int .i64 0, .int .i64 0] 25 (0, 0))) (by (with_reducible repeat (first | refine blk_drewN ?_ _ | refine blk_drew ?_ | refine blk_alloc ?_ _)); exact B2.out) hb); have m5 := Aside0.mk ((by rw [hg]; exact Nat.ne_of_lt (blk_lt (g := g2) (o := (.cells #[.int .i64 0, .int .i64 0] 25 (0, 0))) (by (with_reducible repeat (first | refine blk_drewN ?_ _ | refine blk_drew ?_ | refine blk_alloc ?_ _)); exact B2.out)) : g2 ≠ g)); clear HB HC B2; have HB := m0; have BG := m1; have GG := m2; have HC := m3; have B2 := m4; have N2 := m5; clear m0 m1 m2 m3 m4 m5; clear hb hbox hg))
  refine (rights_numbers.calls2 k w g w2.heap.size g2 A0 c0 l0 #[.int .i64 0, .int .i64 0] [y0, y1] true _ (Kd.C_alloc HC.out _) hc0 (blk_new _ _) (blk_alloc BG.out _) (blk_alloc B2.out _) (Nat.ne_of_gt (blk_lt BG.out)) N2.out (below_alloc HB.out _) GG.out h).mono ?_
  rintro e w5 ⟨rfl, u0, u1, hG5, hr5, h25, hW5⟩
  clear HB HC BG B2
  have hr6 := hr5 rfl
  simp only [List.cons.injEq, and_true] at hr6
  obtain ⟨q0, q1⟩ := hr6
  subst q0; subst q1
  have HB := Aside0.mk hW5
  have BG := Aside0.mk hG5
  have B2 := Aside0.mk h25
  clear hW5 hG5 h25 hr5
  have hn1 := N2.out
  have hn2 := Ne.symm N2.out
  have hcBG0 := blk_cell BG.out 0
  have hfBG0 := blk_frozen BG.out 0
  have hcBG1 := blk_cell BG.out 1
  have hfBG1 := blk_frozen BG.out 1
  have hcB20 := blk_cell B2.out 0
  have hfB20 := blk_frozen B2.out 0
  have hcB21 := blk_cell B2.out 1
  have hfB21 := blk_frozen B2.out 1
  simp only [List.getElem?_toArray, List.getElem?_cons_zero, List.getElem?_cons_succ] at hcBG0 hcBG1 hcB20 hcB21
  dsimp only
  go_wp2_with (fail)
  refine (rights_holds.calls y0 y1 true _ hs).mono ?_; rintro e w6 ⟨rfl, hb⟩; have m0 := Aside0.mk (below_step (by repeat (first | (with_reducible first | exact HB.out | apply below_alloc | apply pw_below_drewN | apply below_drew1 | refine below_set ?_ G2.out | refine below_set ?_ GG.out) | exact HB.out)) hb); have m4 := Aside0.mk (blk_below (g := g) (o := (.cells #[.int .i64 y0, .int .i64 y1] 25 (0, 0))) (by (with_reducible repeat (first | refine blk_drewN ?_ _ | refine blk_drew ?_ | refine blk_alloc ?_ _)); exact BG.out) hb); have m5 := Aside0.mk (blk_below (g := g2) (o := (.cells #[.int .i64 0, .int .i64 0] 25 (0, 0))) (by (with_reducible repeat (first | refine blk_drewN ?_ _ | refine blk_drew ?_ | refine blk_alloc ?_ _)); exact B2.out) hb); clear HB BG B2 hb; have HB := m0; have BG := m4; have B2 := m5; clear m0 m4 m5; have hn1 := N2.out; have hn2 := Ne.symm N2.out; have hcBG0 := blk_cell BG.out 0; have hfBG0 := blk_frozen BG.out 0; have hcBG1 := blk_cell BG.out 1; have hfBG1 := blk_frozen BG.out 1; have hcB20 := blk_cell B2.out 0; have hfB20 := blk_frozen B2.out 0; have hcB21 := blk_cell B2.out 1; have hfB21 := blk_frozen B2.out 1; simp only [List.getElem?_toArray, List.getElem?_cons_zero, List.getElem?_cons_succ] at hcBG0 hcBG1 hcB20 hcB21
  dsimp only
  go_wp2
  refine bodyPost_ret (results_ct rfl _ _ g2 25 #[.int .i64 y0, .int .i64 y1] (0, 0) _ rfl (by (with_reducible repeat (first | refine blk_drewN ?_ _ | refine blk_drew ?_ | refine blk_alloc ?_ _)); refine blk_put (cs := #[.int .i64 y0, .int .i64 0]) ?_ 1 _ rfl; (with_reducible repeat (first | refine blk_drewN ?_ _ | refine blk_drew ?_ | refine blk_alloc ?_ _)); refine blk_put (cs := #[.int .i64 0, .int .i64 0]) ?_ 0 _ rfl; (with_reducible repeat (first | refine blk_drewN ?_ _ | refine blk_drew ?_ | refine blk_alloc ?_ _)); exact B2.out) Try.underlying25 rfl (by kernel_rfl)) rfl ?_
  exact ⟨by first | rfl | (simp <;> rfl), by repeat (first | (with_reducible first | exact HB.out | apply below_alloc | apply pw_below_drewN | apply below_drew1 | refine below_set ?_ G2.out | refine below_set ?_ GG.out) | exact HB.out)⟩
def rights_ReadHold.f (k : Nat) (l0 : List Int) : Option (Int × Int × Int) := (numsF k 2 l0).bind fun t => if t.2 = true then ((rights_holds.f (rd t.1 0) (rd t.1 1)).bind fun s => if s = true then some (rd t.1 0, rd t.1 1, 0) else some (0, 0, 206)) else some (0, 0, 206)
theorem rights_ReadHold.mono : ∀ l0 k, LeO (rights_ReadHold.f k l0) (rights_ReadHold.f (k + 1) l0) := by
  intro l0 k
  unfold rights_ReadHold.f
  exact LeO.bind (numsF.mono 2 l0 k) (fun _ => LeO.refl _)
theorem rhold_len (k : Nat) : ∀ (m : Nat) (l s : List Int), numsF k m l = some (s, true) → s.length = m := by
  intro m
  induction m with
  | zero =>
    intro l s h
    have h : some (([] : List Int), ((l.length : Int) == 0)) = some (s, true) := h
    simp only [Option.some.injEq, Prod.mk.injEq] at h
    rw [← h.1]; rfl
  | succ m ih =>
    intro l s h
    rw [numsF] at h
    obtain ⟨t, _, h⟩ := Option.bind_eq_some_iff.mp h
    split at h
    · split at h
      · simp at h
      · obtain ⟨r, h1, h⟩ := Option.bind_eq_some_iff.mp h
        simp only [Option.some.injEq, Prod.mk.injEq] at h
        obtain ⟨rfl, h2⟩ := h
        have := ih t.2.1 r.1 (by rw [h1, ← h2])
        rw [List.length_cons, this]
    · simp at h
theorem rights_ReadHold.calls (k : Nat) (A0 : Option Addr) (c0 : Nat) (l0 : List Int) (r1 r2 r3 : Int) (w : World) (hr0 : Kd.C (Kd.int .u8) w A0 l0.length l0) (hc0 : l0.length ≤ c0) (h : rights_ReadHold.f k l0 = some (r1, r2, r3)) :
    Calls Try.prog 41 #[.slice A0 l0.length c0] w fun e w' => e = .returned (.tuple #[.agg #[.int .i64 r1, .int .i64 r2], .int .i64 r3]) ∧ Below w.heap.size w w' := by
  unfold rights_ReadHold.f at h
  obtain ⟨⟨s, b⟩, h1, h⟩ := Option.bind_eq_some_iff.mp h
  cases b with
  | false =>
    have h2 : some ((0 : Int), (0 : Int), (206 : Int)) = some (r1, r2, r3) := h
    simp only [Option.some.injEq, Prod.mk.injEq] at h2
    obtain ⟨rfl, rfl, rfl⟩ := h2
    exact rhold_A k A0 c0 l0 s h1 w hr0 hc0
  | true =>
    have hl := rhold_len k 2 l0 s h1
    obtain ⟨y0, y1, rfl⟩ : ∃ y0 y1 : Int, s = [y0, y1] := by
      match s, hl with
      | [y0, y1], _ => exact ⟨y0, y1, rfl⟩
    have h2 : (rights_holds.f y0 y1).bind (fun s => if s = true then some (y0, y1, (0 : Int)) else some ((0 : Int), (0 : Int), (206 : Int))) = some (r1, r2, r3) := h
    obtain ⟨q, h3, h4⟩ := Option.bind_eq_some_iff.mp h2
    cases q with
    | false =>
      have h5 : some ((0 : Int), (0 : Int), (206 : Int)) = some (r1, r2, r3) := h4
      simp only [Option.some.injEq, Prod.mk.injEq] at h5
      obtain ⟨rfl, rfl, rfl⟩ := h5
      exact rhold_B k A0 c0 l0 y0 y1 h1 h3 w hr0 hc0
    | true =>
      have h5 : some (y0, y1, (0 : Int)) = some (r1, r2, r3) := h4
      simp only [Option.some.injEq, Prod.mk.injEq] at h5
      obtain ⟨rfl, rfl, rfl⟩ := h5
      exact rhold_C k A0 c0 l0 y0 y1 h1 h3 w hr0 hc0

end Go.Proofs.Ytaodgncldakhgaa.PRightsBack
